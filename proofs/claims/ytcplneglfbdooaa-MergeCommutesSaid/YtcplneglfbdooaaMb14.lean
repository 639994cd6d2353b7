/- Contracts of functions and plain laws, joined: Kbl, Kbm, Krb, Krc. -/
import Derived.Test.YtcplneglfbdooaaMb13
import Derived.Test.YtcplneglfbdooaaMb9
/- The walks of slices.Equal at conditions, merge.sameClause, slices.EqualFunc at clauses. -/
namespace Go.Proofs.Ytcplneglfbdooaa
open Go.RowKit

theorem wpList_done {P : Program} {ops : Array Oper} {Q : Exit → Act → World → Prop} {a : Act} {w : World} (h : Q .normal a w) : wpList P ops Q [] a w := h
theorem eqvS (a b c d : Int) (w : World) : (Op.equalIn 10000 77 (.agg #[.int .i64 a, .int .i64 b]) (.agg #[.int .i64 c, .int .i64 d])).run Try.prog w = .ok (decide (a = c ∧ b = d)) w := by
  have e : (Try.prog.fieldsOf 77).toList.map (fun f => (f.name, f.type, f.offset)) = [("Clause", 3, 0), ("Is", 3, 1)] := by kernel_rfl
  obtain ⟨f1, f2, hf, h1, h2, h3, h4⟩ : ∃ f1 f2, (Try.prog.fieldsOf 77).toList = [f1, f2] ∧ f1.type = 3 ∧ f2.type = 3 ∧ f1.offset = 0 ∧ f2.offset = 1 := by
    match hl : (Try.prog.fieldsOf 77).toList with
    | [f1, f2] => rw [hl] at e; simp at e; exact ⟨f1, f2, rfl, e.1.2.1, e.2.2.1, e.1.2.2, e.2.2.2⟩
    | [] => rw [hl] at e; simp at e
    | [f1] => rw [hl] at e; simp at e
    | f1 :: f2 :: f3 :: r => rw [hl] at e; simp at e
  have hb : ∀ f ∈ [f1, f2], (f.name == "_") = false := by
    have e2 : (Try.prog.fieldsOf 77).toList.all (fun f => !(f.name == "_")) = true := by kernel_rfl
    rw [hf] at e2
    intro f hf2
    have := List.all_eq_true.1 e2 f hf2
    simpa using this
  have p1 : (part 3 #[.int .i64 a, .int .i64 b] 0).run Try.prog w = .ok (.int .i64 a) w := by kernel_rfl
  have p2 : (part 3 #[.int .i64 a, .int .i64 b] 1).run Try.prog w = .ok (.int .i64 b) w := by kernel_rfl
  have p3 : (part 3 #[.int .i64 c, .int .i64 d] 0).run Try.prog w = .ok (.int .i64 c) w := by kernel_rfl
  have p4 : (part 3 #[.int .i64 c, .int .i64 d] 1).run Try.prog w = .ok (.int .i64 d) w := by kernel_rfl
  have u := Try.underlying3
  show (Op.equalIn (9998 + 1 + 1) _ _ _).run _ _ = _
  rw [run_equalIn_agg w (9998 + 1) 77 _ _ (by kernel_rfl) (by kernel_rfl), hf]
  have n1 : f1.name ≠ "_" := by simpa using hb f1 (by simp)
  have n2 : f2.name ≠ "_" := by simpa using hb f2 (by simp)
  simp only [Op.eqFields, Sem.run_bind, h1, h2, h3, h4, p1, p2, p3, p4, Result.andThen_ok, run_equalIn_int w 9998 3 .i64 .i64 _ _ u, ne_eq, Sem.run_ite, Sem.run_pure, n1, n2]
  by_cases q1 : a = c <;> by_cases q2 : b = d <;> simp [q1, q2]
set_option maxRecDepth 100000 in
set_option maxHeartbeats 3200000 in
theorem eq_cond_any (A1 A2 : Option Addr) (c1 c2 : Nat) (l1 l2 : List (Int × Int)) (w : World) (h1 : Seg w w.heap.size 2 eS A1 l1) (h2 : Seg w w.heap.size 2 eS A2 l2) (n1 : l1.length ≤ 1000000) :
    Calls Try.prog 56 #[.slice A1 l1.length c1, .slice A2 l2.length c2] w fun e w' => e = .returned (.bool (decide (l1 = l2))) ∧ Below w.heap.size w w' := by
  have H1 := Lib.hid h1
  have H2 := Lib.hid h2
  obtain ⟨R, hR⟩ : ∃ R, decide (l1 = l2) = R := ⟨_, rfl⟩
  rw [hR]
  have HR := Lib.hid hR
  clear hR h1 h2
  by_cases hl : l1.length = l2.length
  · have tl : ((l1.length : Int) != (l2.length : Int)) = false := by simp [hl]
    have HL := Lib.hid hl
    clear hl
    go_enter Try.func56, Try.ntmps56
    go_upto_region 4 with (fail)
    go_loopw [13] (fun y WR => ∃ (i : Nat), i ≤ l1.length ∧ y = .int .i64 i ∧ Hid (∀ j, j < i → l1[j]? = l2[j]?) ∧ Hid (Below w.heap.size w WR)) (fun y _ => 2000000 - (intOf y).toNat)
    case atStart => exact ⟨0, by omega, rfl, fun j hj => by omega, by unfold Hid; (repeat (first | with_reducible assumption | with_reducible exact Below.refl _ _ | with_reducible refine below_drewN ?_ _ | with_reducible refine Below.drew ?_ | with_reducible refine below_alloc ?_ _ | with_reducible refine Below.setCell ?_ (by first | omega | (simp; done) | (simp; omega)) _ | with_reducible refine below_then ?_ (by with_reducible assumption) | (refine below_then (a := World.drew _) ?_ (by with_reducible assumption))))⟩
    case round =>
      obtain ⟨i, hi', rfl, hpre, hB⟩ := hrel
      by_cases hlt : i < l1.length
      · have tn : decide ((i : Int) < (l1.length : Int)) = true := decide_eq_true (by omega)
        have hl2 : i < l2.length := by rw [← HL.out]; exact hlt
        obtain ⟨x, hx⟩ : ∃ x, l1[i]? = some x := ⟨_, List.getElem?_eq_getElem hlt⟩
        obtain ⟨y, hy⟩ : ∃ y, l2[i]? = some y := ⟨_, List.getElem?_eq_getElem hl2⟩
        obtain ⟨b1, o1, e1, hb1, hc1⟩ := segAt (H1.out.below hB.out) hx
        obtain ⟨b2, o2, e2, hb2, hc2⟩ := segAt (H2.out.below hB.out) hy
        have x0 : wr.cell? ⟨b1, o1 + i * 2, none⟩ = some (.int .i64 x.1) := by simpa using hc1 0 _ rfl
        have x1 : wr.cell? ⟨b1, o1 + i * 2 + 1, none⟩ = some (.int .i64 x.2) := hc1 1 _ rfl
        have y0 : wr.cell? ⟨b2, o2 + i * 2, none⟩ = some (.int .i64 y.1) := by simpa using hc2 0 _ rfl
        have y1 : wr.cell? ⟨b2, o2 + i * 2 + 1, none⟩ = some (.int .i64 y.2) := hc2 1 _ rfl
        have hix := fun W => idx_at (t := 43) (size := 2) (cap := c1) (len := l1.length) e1 hlt (by kernel_rfl) (fun W => by kernel_rfl) W
        have hiy := fun W => idx_at (t := 43) (size := 2) (cap := c2) (len := l2.length) e2 hl2 (by kernel_rfl) (fun W => by kernel_rfl) W
        have HX := Lib.hid hx
        have HY := Lib.hid hy
        have heq := fun W => eqvS x.1 x.2 y.1 y.2 W
        clear hc1 hc2 hx hy e1 e2
        by_cases he : x = y
        · have hd : decide (x.1 = y.1 ∧ x.2 = y.2) = true := decide_eq_true ⟨by rw [he], by rw [he]⟩
          simp only [hd] at heq
          have hp2 : Hid (∀ j, j < i + 1 → l1[j]? = l2[j]?) := by
            intro j hj
            by_cases q : j = i
            · rw [q, HX.out, HY.out, he]
            · exact hpre.out j (by omega)
          clear hd he hpre
          go_upto_region 6 with (fail)
          have rg0 := cell_regrown x0
          have rg1 := cell_regrown x1
          have rg2 := cell_regrown y0
          have rg3 := cell_regrown y1
          refine wp_region_qt [0, 1, 2, 3, 4, 5, 6, 7, 8] [] (by kernel_rfl) (by kernel_rfl) (by repeat (first | with_reducible refine panOk_then ?_ | with_reducible refine panOk_block ?_ | exact panOk_body)) ?_
          simp only [opsAt, List.getElem?_toArray, List.getElem?_cons_succ, List.getElem?_cons_zero, Option.toList_some, List.cons_append, List.nil_append]
          repeat (go_big_quiet_step (fail))
          refine wpQuiet_nil ?_
          intro W2 hw2
          have hbW2 := qt_world hw2
          clear hw2 rg0 rg1 rg2 rg3
          refine wpList_done ?_
          go_wp2
          go_roundw
          case rel => exact ⟨i + 1, by omega, by simp, hp2, below_then hB.out hbW2⟩
          case measure => simp [intOf]; omega
        · have hd : decide (x.1 = y.1 ∧ x.2 = y.2) = false := decide_eq_false fun h => he (Prod.ext h.1 h.2)
          simp only [hd] at heq
          have hf : Hid (R = false) := by
            unfold Hid
            rw [← HR.out]
            refine decide_eq_false fun h => he ?_
            have := HX.out
            rw [h, HY.out] at this
            exact (Option.some.inj this).symm
          clear hd he hpre
          go_upto_region 6 with (fail)
          have rg0 := cell_regrown x0
          have rg1 := cell_regrown x1
          have rg2 := cell_regrown y0
          have rg3 := cell_regrown y1
          refine wp_region_qt [0, 1, 2, 3, 4, 5, 6, 7, 8] [] (by kernel_rfl) (by kernel_rfl) (by repeat (first | with_reducible refine panOk_then ?_ | with_reducible refine panOk_block ?_ | exact panOk_body)) ?_
          simp only [opsAt, List.getElem?_toArray, List.getElem?_cons_succ, List.getElem?_cons_zero, Option.toList_some, List.cons_append, List.nil_append]
          repeat (go_big_quiet_step (fail))
          refine wpQuiet_nil ?_
          intro W2 hw2
          have hbW2 := qt_world hw2
          clear hw2 rg0 rg1 rg2 rg3
          refine wpList_done ?_
          go_wp2
          go_ret
          exact ⟨ret_bool hf.out.symm, below_then hB.out hbW2⟩
      · have tn : decide ((i : Int) < (l1.length : Int)) = false := decide_eq_false (by omega)
        have hf : Hid (R = true) := by
          unfold Hid
          rw [← HR.out]
          refine decide_eq_true (List.ext_getElem? fun j => ?_)
          by_cases hj : j < i
          · exact hpre.out j hj
          · rw [List.getElem?_eq_none (by omega), List.getElem?_eq_none (by have := HL.out; omega)]
        go_wp2
        go_ret
        exact ⟨ret_bool hf.out.symm, hB.out⟩
  · have tl : ((l1.length : Int) != (l2.length : Int)) = true := by simp; omega
    have hf : Hid (R = false) := by
      unfold Hid
      rw [← HR.out]
      exact decide_eq_false fun h => hl (by rw [h])
    clear hl
    go_enter Try.func56, Try.ntmps56
    go_wp2
    go_ret
    exact ⟨ret_bool hf.out.symm, Below.refl _ _⟩
end Go.Proofs.Ytcplneglfbdooaa
/- The walk of merge.sameClause. -/
namespace Go.Proofs.Ytcplneglfbdooaa
open Go.RowKit

theorem cla_eq (x y : Km) : x.k = y.k ↔ x.k.kind = y.k.kind ∧ x.k.role = y.k.role ∧ x.k.act = y.k.act ∧ x.k.need = y.k.need ∧ x.k.start = y.k.start ∧ x.k.aft = y.k.aft ∧ x.k.grace = y.k.grace ∧ x.k.bus = y.k.bus ∧ x.k.fin = y.k.fin ∧ x.k.pause = y.k.pause ∧ x.k.resume = y.k.resume ∧ x.k.v = y.k.v ∧ x.k.unit = y.k.unit ∧ x.k.to_ = y.k.to_ ∧ x.k.waived = y.k.waived := by
  obtain ⟨⟨a1, a2, a3, a4, a5, a6, a7, a8, a9, a10, a11, a12, a13, a14, a15⟩, A, c⟩ := x
  obtain ⟨⟨b1, b2, b3, b4, b5, b6, b7, b8, b9, b10, b11, b12, b13, b14, b15⟩, A', c'⟩ := y
  simp
set_option maxRecDepth 100000 in
set_option maxHeartbeats 6400000 in
theorem same_any (x y : Km) (w : World) (hx : KOk w x) (hy : KOk w y) : Calls Try.prog 44 #[.agg (kA x), .agg (kA y)] w fun e w' => e = .returned (.bool (decide (x.k = y.k))) ∧ Below w.heap.size w w' := by
  have heq := fun W => eqv2 x.k.v.1 x.k.v.2 y.k.v.1 y.k.v.2 W
  obtain ⟨R, hR⟩ : ∃ R, decide (x.k = y.k) = R := ⟨_, rfl⟩
  rw [hR]
  have HS := Lib.hid (fun W (hb : Below w.heap.size w W) => eq_cond_any x.A y.A x.cap y.cap x.k.start y.k.start W ((hx.s.below hb).more hb.size) ((hy.s.below hb).more hb.size) hx.n)
  obtain ⟨hs, es⟩ : ∃ b, decide (x.k.start = y.k.start) = b := ⟨_, rfl⟩
  rw [es] at HS
  obtain ⟨hv, ev⟩ : ∃ b, decide (x.k.v.1 = y.k.v.1 ∧ x.k.v.2 = y.k.v.2) = b := ⟨_, rfl⟩
  simp only [ev] at heq
  have HRR : Hid (R = ((x.k.kind == y.k.kind) && (x.k.role == y.k.role) && (x.k.act == y.k.act) && (x.k.need == y.k.need) && hs && (x.k.aft == y.k.aft) && (x.k.grace == y.k.grace) && (x.k.bus == y.k.bus) && (x.k.fin == y.k.fin) && (x.k.pause == y.k.pause) && (x.k.resume == y.k.resume) && hv && (x.k.unit == y.k.unit) && (x.k.to_ == y.k.to_) && (x.k.waived == y.k.waived))) := by
    unfold Hid
    rw [← hR, ← es, ← ev, Bool.eq_iff_iff]
    simp only [decide_eq_true_eq, Bool.and_eq_true, beq_iff_eq]
    rw [cla_eq]
    simp only [and_assoc, Prod.ext_iff]
  clear hR es ev hx hy
  have gA : Blk ((w.alloc (.cells (kA x) 47)).alloc (.cells (kA y) 47)) w.heap.size 47 (kA x) := (Blk.new _ _ _).alloc _
  have gB : Blk ((w.alloc (.cells (kA x) 47)).alloc (.cells (kA y) 47)) (w.heap.size + 1) 47 (kA y) := blk_at (by simp)
  go_enter Try.func44, Try.ntmps44
  go_wp2_with (go_at_call 56; (with_reducible refine (HS.out _ (by (repeat (first | with_reducible assumption | with_reducible exact Below.refl _ _ | with_reducible refine below_drewN ?_ _ | with_reducible refine Below.drew ?_ | with_reducible refine below_alloc ?_ _ | with_reducible refine Below.setCell ?_ (by first | omega | (simp; done) | (simp; omega)) _ | with_reducible refine below_then ?_ (by with_reducible assumption) | (refine below_then (a := World.drew _) ?_ (by with_reducible assumption)))))).mono ?_); rintro e w1 ⟨rfl, hb1⟩; have p5 : w1.cell? ⟨w.heap.size, 5, none⟩ = some (.int .i64 x.k.aft) := (gA.then_ hb1).cell 5; have q5 : w1.cell? ⟨w.heap.size + 1, 5, none⟩ = some (.int .i64 y.k.aft) := (gB.then_ hb1).cell 5; have p6 : w1.cell? ⟨w.heap.size, 6, none⟩ = some (.int .i64 x.k.grace) := (gA.then_ hb1).cell 6; have q6 : w1.cell? ⟨w.heap.size + 1, 6, none⟩ = some (.int .i64 y.k.grace) := (gB.then_ hb1).cell 6; have p7 : w1.cell? ⟨w.heap.size, 7, none⟩ = some (.bool x.k.bus) := (gA.then_ hb1).cell 7; have q7 : w1.cell? ⟨w.heap.size + 1, 7, none⟩ = some (.bool y.k.bus) := (gB.then_ hb1).cell 7; have p8 : w1.cell? ⟨w.heap.size, 8, none⟩ = some (.bool x.k.fin) := (gA.then_ hb1).cell 8; have q8 : w1.cell? ⟨w.heap.size + 1, 8, none⟩ = some (.bool y.k.fin) := (gB.then_ hb1).cell 8; have p9 : w1.cell? ⟨w.heap.size, 9, none⟩ = some (.int .i64 x.k.pause) := (gA.then_ hb1).cell 9; have q9 : w1.cell? ⟨w.heap.size + 1, 9, none⟩ = some (.int .i64 y.k.pause) := (gB.then_ hb1).cell 9; have p10 : w1.cell? ⟨w.heap.size, 10, none⟩ = some (.int .i64 x.k.resume) := (gA.then_ hb1).cell 10; have q10 : w1.cell? ⟨w.heap.size + 1, 10, none⟩ = some (.int .i64 y.k.resume) := (gB.then_ hb1).cell 10; have p11 : w1.cell? ⟨w.heap.size, 11, none⟩ = some (.int .i64 x.k.v.1) := (gA.then_ hb1).cell 11; have q11 : w1.cell? ⟨w.heap.size + 1, 11, none⟩ = some (.int .i64 y.k.v.1) := (gB.then_ hb1).cell 11; have p12 : w1.cell? ⟨w.heap.size, 12, none⟩ = some (.int .i64 x.k.v.2) := (gA.then_ hb1).cell 12; have q12 : w1.cell? ⟨w.heap.size + 1, 12, none⟩ = some (.int .i64 y.k.v.2) := (gB.then_ hb1).cell 12; have p13 : w1.cell? ⟨w.heap.size, 13, none⟩ = some (.int .i64 x.k.unit) := (gA.then_ hb1).cell 13; have q13 : w1.cell? ⟨w.heap.size + 1, 13, none⟩ = some (.int .i64 y.k.unit) := (gB.then_ hb1).cell 13; have p14 : w1.cell? ⟨w.heap.size, 14, none⟩ = some (.int .i64 x.k.to_) := (gA.then_ hb1).cell 14; have q14 : w1.cell? ⟨w.heap.size + 1, 14, none⟩ = some (.int .i64 y.k.to_) := (gB.then_ hb1).cell 14; have p15 : w1.cell? ⟨w.heap.size, 15, none⟩ = some (.bool x.k.waived) := (gA.then_ hb1).cell 15; have q15 : w1.cell? ⟨w.heap.size + 1, 15, none⟩ = some (.bool y.k.waived) := (gB.then_ hb1).cell 15)
  all_goals go_ret
  all_goals exact ⟨ret_bool (by rw [HRR.out]; first | (simp_all; done) | (simp [*]; done)), by first | exact (wa1 _ _).trans ((wa1 _ _).mono (by simp)) | exact below_then (by (repeat (first | with_reducible assumption | with_reducible exact Below.refl _ _ | with_reducible refine below_drewN ?_ _ | with_reducible refine Below.drew ?_ | with_reducible refine below_alloc ?_ _ | with_reducible refine Below.setCell ?_ (by first | omega | (simp; done) | (simp; omega)) _ | with_reducible refine below_then ?_ (by with_reducible assumption) | (refine below_then (a := World.drew _) ?_ (by with_reducible assumption))))) hb1⟩
end Go.Proofs.Ytcplneglfbdooaa
/- The walk of estoppelref24.SameClause. -/
namespace Go.Proofs.Ytcplneglfbdooaa
open Go.RowKit

set_option maxRecDepth 100000 in
set_option maxHeartbeats 6400000 in
theorem rsame_any (x y : Km) (w : World) (hx : KOk w x) (hy : KOk w y) : Calls Try.prog 50 #[.agg (kA x), .agg (kA y)] w fun e w' => e = .returned (.bool (decide (x.k = y.k))) ∧ Below w.heap.size w w' := by
  obtain ⟨R, hR⟩ : ∃ R, decide (x.k = y.k) = R := ⟨_, rfl⟩
  rw [hR]
  have H1 := Lib.hid hx.s
  have H2 := Lib.hid hy.s
  have n1 := hx.n
  have heq0 := fun W => eqv2 x.k.v.1 x.k.v.2 y.k.v.1 y.k.v.2 W
  obtain ⟨hv, ev⟩ : ∃ b, decide (x.k.v.1 = y.k.v.1 ∧ x.k.v.2 = y.k.v.2) = b := ⟨_, rfl⟩
  simp only [ev] at heq0
  have heq := Lib.hid heq0
  obtain ⟨e0, E0⟩ : ∃ b, (x.k.kind != y.k.kind) = b := ⟨_, rfl⟩
  obtain ⟨e1, E1⟩ : ∃ b, (x.k.role != y.k.role) = b := ⟨_, rfl⟩
  obtain ⟨e2, E2⟩ : ∃ b, (x.k.act != y.k.act) = b := ⟨_, rfl⟩
  obtain ⟨e3, E3⟩ : ∃ b, (x.k.need != y.k.need) = b := ⟨_, rfl⟩
  obtain ⟨e4, E4⟩ : ∃ b, (x.k.aft != y.k.aft) = b := ⟨_, rfl⟩
  obtain ⟨e5, E5⟩ : ∃ b, (x.k.grace != y.k.grace) = b := ⟨_, rfl⟩
  obtain ⟨e6, E6⟩ : ∃ b, (x.k.bus == y.k.bus) = b := ⟨_, rfl⟩
  obtain ⟨e7, E7⟩ : ∃ b, (x.k.fin == y.k.fin) = b := ⟨_, rfl⟩
  obtain ⟨e8, E8⟩ : ∃ b, (x.k.pause != y.k.pause) = b := ⟨_, rfl⟩
  obtain ⟨e9, E9⟩ : ∃ b, (x.k.resume != y.k.resume) = b := ⟨_, rfl⟩
  obtain ⟨e10, E10⟩ : ∃ b, (!hv) = b := ⟨_, rfl⟩
  obtain ⟨e11, E11⟩ : ∃ b, (x.k.unit != y.k.unit) = b := ⟨_, rfl⟩
  obtain ⟨e12, E12⟩ : ∃ b, (x.k.to_ != y.k.to_) = b := ⟨_, rfl⟩
  obtain ⟨e13, E13⟩ : ∃ b, (x.k.waived == y.k.waived) = b := ⟨_, rfl⟩
  obtain ⟨e14, E14⟩ : ∃ b, ((x.k.start.length : Int) != (y.k.start.length : Int)) = b := ⟨_, rfl⟩
  have HRR : Hid (R = (!(e0 || e1 || e2 || e3 || e4 || e5 || (!e6) || (!e7)) && !(e8 || e9 || e10 || e11 || e12 || (!e13) || e14) && decide (x.k.start = y.k.start))) := by
    unfold Hid
    rw [← hR, Bool.eq_iff_iff]
    simp only [decide_eq_true_eq, Bool.and_eq_true, Bool.not_eq_true', Bool.or_eq_false_iff]
    rw [cla_eq]
    rw [← E0, ← E1, ← E2, ← E3, ← E4, ← E5, ← E6, ← E7, ← E8, ← E9, ← E10, ← E11, ← E12, ← E13, ← E14]
    simp only [bne_eq_false_iff_eq, ← ev, Bool.not_eq_false', beq_iff_eq, decide_eq_true_eq, Prod.ext_iff]
    constructor
    · intro h
      obtain ⟨h1, h2, h3, h4, h5, h6, h7, h8, h9, h10, h11, h12, h13, h14, h15⟩ := h
      simp [h1, h2, h3, h4, h5, h6, h7, h8, h9, h10, h11, h12, h13, h14, h15]
    · rintro ⟨⟨⟨⟨⟨⟨⟨⟨⟨h1, h2⟩, h3⟩, h4⟩, h6⟩, h7⟩, h8⟩, h9⟩, ⟨⟨⟨⟨⟨⟨h10, h11⟩, h12⟩, h13⟩, h14⟩, h15⟩, _⟩⟩, h5⟩
      exact ⟨h1, h2, h3, h4, h5, h6, h7, h8, h9, h10, h11, h12, h13, h14, h15⟩
  clear hR hx hy heq0 ev
  go_enter Try.func50, Try.ntmps50
  go_upto_region 1 with (fail)
  refine name_wp ?_
  intro X hX
  have gba : Blk X w.heap.size 47 (kA x) := by rw [hX]; exact (blk_at (by simp)).alloc _
  have gbb : Blk X (w.heap.size + 1) 47 (kA y) := by rw [hX]; exact blk_at (by simp)
  have HB : Below w.heap.size w X := by rw [hX]; (repeat (first | with_reducible assumption | with_reducible exact Below.refl _ _ | with_reducible refine below_drewN ?_ _ | with_reducible refine Below.drew ?_ | with_reducible refine below_alloc ?_ _ | with_reducible refine Below.setCell ?_ (by first | omega | (simp; done) | (simp; omega)) _ | with_reducible refine below_then ?_ (by with_reducible assumption) | (refine below_then (a := World.drew _) ?_ (by with_reducible assumption))))
  clear hX
  obtain ⟨bb, ebb⟩ : ∃ b, w.heap.size + 1 = b := ⟨_, rfl⟩
  obtain ⟨ba, eba⟩ : ∃ b, w.heap.size = b := ⟨_, rfl⟩
  have lba : w.heap.size ≤ ba := by omega
  have lbb : w.heap.size ≤ bb := by omega
  have nbabb : ba ≠ bb := by omega
  rw [ebb] at gbb ⊢
  rw [eba] at gba ⊢
  clear eba ebb
  have HBX := Lib.hid HB
  clear HB
  go_upto_region 1 with (fail)
  go_cut [59] from 6 to 58 (fun v W => v = .bool (e0 || e1 || e2 || e3 || e4 || e5 || (!e6) || (!e7)) ∧ X = W)
  case first =>
    have p0 : X.cell? ⟨ba, 0, none⟩ = some (.int .i64 x.k.kind) := gba.cell 0
    have q0 : X.cell? ⟨bb, 0, none⟩ = some (.int .i64 y.k.kind) := gbb.cell 0
    have p1 : X.cell? ⟨ba, 1, none⟩ = some (.int .i64 x.k.role) := gba.cell 1
    have q1 : X.cell? ⟨bb, 1, none⟩ = some (.int .i64 y.k.role) := gbb.cell 1
    have p2 : X.cell? ⟨ba, 2, none⟩ = some (.int .i64 x.k.act) := gba.cell 2
    have q2 : X.cell? ⟨bb, 2, none⟩ = some (.int .i64 y.k.act) := gbb.cell 2
    have p3 : X.cell? ⟨ba, 3, none⟩ = some (.int .i64 x.k.need) := gba.cell 3
    have q3 : X.cell? ⟨bb, 3, none⟩ = some (.int .i64 y.k.need) := gbb.cell 3
    have p5 : X.cell? ⟨ba, 5, none⟩ = some (.int .i64 x.k.aft) := gba.cell 5
    have q5 : X.cell? ⟨bb, 5, none⟩ = some (.int .i64 y.k.aft) := gbb.cell 5
    have p6 : X.cell? ⟨ba, 6, none⟩ = some (.int .i64 x.k.grace) := gba.cell 6
    have q6 : X.cell? ⟨bb, 6, none⟩ = some (.int .i64 y.k.grace) := gbb.cell 6
    have p7 : X.cell? ⟨ba, 7, none⟩ = some (.bool x.k.bus) := gba.cell 7
    have q7 : X.cell? ⟨bb, 7, none⟩ = some (.bool y.k.bus) := gbb.cell 7
    have p8 : X.cell? ⟨ba, 8, none⟩ = some (.bool x.k.fin) := gba.cell 8
    have q8 : X.cell? ⟨bb, 8, none⟩ = some (.bool y.k.fin) := gbb.cell 8
    clear gba gbb E8 E9 E10 E11 E12 E13 E14
    go_wp2
    all_goals go_meet
    all_goals (case rel => exact ⟨by simp_all, rfl⟩)
  obtain ⟨rfl, rfl⟩ := hcut
  --S1
  cases hb1 : (e0 || e1 || e2 || e3 || e4 || e5 || (!e6) || (!e7)) with
  | true =>
    have hf : Hid (R = false) := by unfold Hid; rw [HRR.out, hb1]; rfl
    clear hb1 gba gbb E0 E1 E2 E3 E4 E5 E6 E7 E8 E9 E10 E11 E12 E13 E14 HRR
    go_wp2
    go_ret
    exact ⟨ret_bool hf.out.symm, HBX.out⟩
  | false =>
  have HR2 : Hid (R = (!(e8 || e9 || e10 || e11 || e12 || (!e13) || e14) && decide (x.k.start = y.k.start))) := by unfold Hid; rw [HRR.out, hb1]; rfl
  clear hb1 HRR E0 E1 E2 E3 E4 E5 E6 E7
  go_upto_region 3 with (fail)
  go_cut [108] from 60 to 107 (fun v W => v = .bool (e8 || e9 || e10 || e11 || e12 || (!e13) || e14) ∧ X = W)
  case first =>
    have p9 : X.cell? ⟨ba, 9, none⟩ = some (.int .i64 x.k.pause) := gba.cell 9
    have q9 : X.cell? ⟨bb, 9, none⟩ = some (.int .i64 y.k.pause) := gbb.cell 9
    have p10 : X.cell? ⟨ba, 10, none⟩ = some (.int .i64 x.k.resume) := gba.cell 10
    have q10 : X.cell? ⟨bb, 10, none⟩ = some (.int .i64 y.k.resume) := gbb.cell 10
    have p11 : X.cell? ⟨ba, 11, none⟩ = some (.int .i64 x.k.v.1) := gba.cell 11
    have q11 : X.cell? ⟨bb, 11, none⟩ = some (.int .i64 y.k.v.1) := gbb.cell 11
    have p12 : X.cell? ⟨ba, 12, none⟩ = some (.int .i64 x.k.v.2) := gba.cell 12
    have q12 : X.cell? ⟨bb, 12, none⟩ = some (.int .i64 y.k.v.2) := gbb.cell 12
    have p13 : X.cell? ⟨ba, 13, none⟩ = some (.int .i64 x.k.unit) := gba.cell 13
    have q13 : X.cell? ⟨bb, 13, none⟩ = some (.int .i64 y.k.unit) := gbb.cell 13
    have p14 : X.cell? ⟨ba, 14, none⟩ = some (.int .i64 x.k.to_) := gba.cell 14
    have q14 : X.cell? ⟨bb, 14, none⟩ = some (.int .i64 y.k.to_) := gbb.cell 14
    have p15 : X.cell? ⟨ba, 15, none⟩ = some (.bool x.k.waived) := gba.cell 15
    have q15 : X.cell? ⟨bb, 15, none⟩ = some (.bool y.k.waived) := gbb.cell 15
    have p4 : X.cell? ⟨ba, 4, none⟩ = some (.slice x.A x.k.start.length x.cap) := gba.cell 4
    have q4 : X.cell? ⟨bb, 4, none⟩ = some (.slice y.A y.k.start.length y.cap) := gbb.cell 4
    have heq1 := heq.out
    clear gba gbb
    go_wp2
    all_goals go_meet
    all_goals (case rel => exact ⟨by simp_all, rfl⟩)
  obtain ⟨rfl, rfl⟩ := hcut
  cases hb2 : (e8 || e9 || e10 || e11 || e12 || (!e13) || e14) with
  | true =>
    have hf : Hid (R = false) := by unfold Hid; rw [HR2.out, hb2]; rfl
    clear hb2 gba gbb E8 E9 E10 E11 E12 E13 E14 HR2
    go_wp2
    go_ret
    exact ⟨ret_bool hf.out.symm, HBX.out⟩
  | false =>
  have HR : Hid (decide (x.k.start = y.k.start) = R) := by unfold Hid; rw [HR2.out, hb2]; rfl
  have HL : Hid (x.k.start.length = y.k.start.length) := by
    unfold Hid
    simp only [Bool.or_eq_false_iff] at hb2
    have h14 := hb2.2
    rw [← E14] at h14
    simp at h14
    omega
  clear hb2 E8 E9 E10 E11 E12 E13 E14 HR2
  have l4 : X.cell? ⟨ba, 4, none⟩ = some (.slice x.A x.k.start.length x.cap) := gba.cell 4
  have m4 : X.cell? ⟨bb, 4, none⟩ = some (.slice y.A y.k.start.length y.cap) := gbb.cell 4
  have GA := Lib.hid gba
  have GB := Lib.hid gbb
  have H1X : Hid (Seg X X.heap.size 2 eS x.A x.k.start) := (H1.out.below HBX.out).more HBX.out.size
  have H2X : Hid (Seg X X.heap.size 2 eS y.A y.k.start) := (H2.out.below HBX.out).more HBX.out.size
  clear gba gbb H1 H2
  go_upto_region 6 with (fail)
  clear l4 m4
  have hz := Lib.hid (Below.refl X.heap.size X)
  go_loopw [5] (fun u WR => ∃ (i : Nat), i ≤ x.k.start.length ∧ u = .int .i64 i ∧ Hid (∀ j, j < i → x.k.start[j]? = y.k.start[j]?) ∧ Hid (Below X.heap.size X WR)) (fun u _ => 2000000 - (intOf u).toNat)
  case atStart => exact ⟨0, by omega, rfl, fun j hj => by omega, hz⟩
  case round =>
    obtain ⟨i, hi', rfl, hpre, hB⟩ := hrel
    have l4 : wr.cell? ⟨ba, 4, none⟩ = some (.slice x.A x.k.start.length x.cap) := (GA.out.then_ hB.out).cell 4
    have m4 : wr.cell? ⟨bb, 4, none⟩ = some (.slice y.A y.k.start.length y.cap) := (GB.out.then_ hB.out).cell 4
    by_cases hlt : i < x.k.start.length
    · have tn : decide ((i : Int) < (x.k.start.length : Int)) = true := decide_eq_true (by omega)
      have hl2 : i < y.k.start.length := by rw [← HL.out]; exact hlt
      obtain ⟨s, hx⟩ : ∃ s, x.k.start[i]? = some s := ⟨_, List.getElem?_eq_getElem hlt⟩
      obtain ⟨t, hy⟩ : ∃ t, y.k.start[i]? = some t := ⟨_, List.getElem?_eq_getElem hl2⟩
      obtain ⟨b1, o1, e1, hb1, hc1⟩ := segAt (H1X.out.below hB.out) hx
      obtain ⟨b2, o2, e2, hb2, hc2⟩ := segAt (H2X.out.below hB.out) hy
      have x0 : wr.cell? ⟨b1, o1 + i * 2, none⟩ = some (.int .i64 s.1) := by simpa using hc1 0 _ rfl
      have x1 : wr.cell? ⟨b1, o1 + i * 2 + 1, none⟩ = some (.int .i64 s.2) := hc1 1 _ rfl
      have y0 : wr.cell? ⟨b2, o2 + i * 2, none⟩ = some (.int .i64 t.1) := by simpa using hc2 0 _ rfl
      have y1 : wr.cell? ⟨b2, o2 + i * 2 + 1, none⟩ = some (.int .i64 t.2) := hc2 1 _ rfl
      have hix := fun W => idx_at (t := 43) (size := 2) (cap := x.cap) (len := x.k.start.length) e1 hlt (by kernel_rfl) (fun W => by kernel_rfl) W
      have hiy := fun W => idx_at (t := 43) (size := 2) (cap := y.cap) (len := y.k.start.length) e2 hl2 (by kernel_rfl) (fun W => by kernel_rfl) W
      have HX := Lib.hid hx
      have HY := Lib.hid hy
      have heqS := fun W => eqvS s.1 s.2 t.1 t.2 W
      have hwr := wrap_small (n := i) (by omega)
      clear hc1 hc2 hx hy e1 e2
      by_cases he : s = t
      · have hd : decide (s.1 = t.1 ∧ s.2 = t.2) = true := decide_eq_true ⟨by rw [he], by rw [he]⟩
        simp only [hd] at heqS
        have hp2 : Hid (∀ j, j < i + 1 → x.k.start[j]? = y.k.start[j]?) := by
          intro j hj
          by_cases q : j = i
          · rw [q, HX.out, HY.out, he]
          · exact hpre.out j (by omega)
        clear hd he hpre
        go_upto_region 8 with (fail)
        have rg0 := cell_regrown l4
        have rg1 := cell_regrown m4
        have rg2 := cell_regrown x0
        have rg3 := cell_regrown x1
        have rg4 := cell_regrown y0
        have rg5 := cell_regrown y1
        refine wp_region_qt [0, 1, 2, 3, 4, 5, 6, 7, 8, 9, 10] [] (by kernel_rfl) (by kernel_rfl) (by repeat (first | with_reducible refine panOk_then ?_ | with_reducible refine panOk_block ?_ | exact panOk_body)) ?_
        simp only [opsAt, List.getElem?_toArray, List.getElem?_cons_succ, List.getElem?_cons_zero, Option.toList_some, List.cons_append, List.nil_append]
        repeat (go_big_quiet_step (fail))
        refine wpQuiet_nil ?_
        intro W2 hw2
        have hbW2 := qt_world hw2
        clear hw2 rg0 rg1 rg2 rg3 rg4 rg5
        refine wpList_done ?_
        clear l4 m4 x0 x1 y0 y1
        go_wp2
        go_roundw
        case rel => exact ⟨i + 1, by omega, by simp, hp2, below_then hB.out hbW2⟩
        case measure => simp [intOf]; omega
      · have hd : decide (s.1 = t.1 ∧ s.2 = t.2) = false := decide_eq_false fun h => he (Prod.ext h.1 h.2)
        simp only [hd] at heqS
        have hf : Hid (R = false) := by
          unfold Hid
          rw [← HR.out]
          refine decide_eq_false fun h => he ?_
          have := HX.out
          rw [h, HY.out] at this
          exact (Option.some.inj this).symm
        clear hd he hpre
        go_upto_region 8 with (fail)
        have rg0 := cell_regrown l4
        have rg1 := cell_regrown m4
        have rg2 := cell_regrown x0
        have rg3 := cell_regrown x1
        have rg4 := cell_regrown y0
        have rg5 := cell_regrown y1
        refine wp_region_qt [0, 1, 2, 3, 4, 5, 6, 7, 8, 9, 10] [] (by kernel_rfl) (by kernel_rfl) (by repeat (first | with_reducible refine panOk_then ?_ | with_reducible refine panOk_block ?_ | exact panOk_body)) ?_
        simp only [opsAt, List.getElem?_toArray, List.getElem?_cons_succ, List.getElem?_cons_zero, Option.toList_some, List.cons_append, List.nil_append]
        repeat (go_big_quiet_step (fail))
        refine wpQuiet_nil ?_
        intro W2 hw2
        have hbW2 := qt_world hw2
        clear hw2 rg0 rg1 rg2 rg3 rg4 rg5
        refine wpList_done ?_
        clear l4 m4 x0 x1 y0 y1
        go_wp2
        go_ret
        exact ⟨ret_bool hf.out.symm, below_then HBX.out (below_then hB.out hbW2)⟩
    · have tn : decide ((i : Int) < (x.k.start.length : Int)) = false := decide_eq_false (by omega)
      have hf : Hid (R = true) := by
        unfold Hid
        rw [← HR.out]
        refine decide_eq_true (List.ext_getElem? fun j => ?_)
        by_cases hj : j < i
        · exact hpre.out j hj
        · rw [List.getElem?_eq_none (by omega), List.getElem?_eq_none (by have := HL.out; omega)]
      go_wp2
      go_ret
      exact ⟨ret_bool hf.out.symm, below_then HBX.out hB.out⟩
end Go.Proofs.Ytcplneglfbdooaa
/- The walk of estoppelref24.SameClauses. -/
namespace Go.Proofs.Ytcplneglfbdooaa
open Go.RowKit

set_option maxRecDepth 100000 in
set_option maxHeartbeats 3200000 in
theorem rclauses_any (A1 A2 : Option Addr) (c1 c2 : Nat) (k1 k2 : List Km) (w : World) (h1 : Seg w w.heap.size 16 eK A1 k1) (h2 : Seg w w.heap.size 16 eK A2 k2) (t1 : ∀ x ∈ k1, KOk w x) (t2 : ∀ x ∈ k2, KOk w x) (n1 : k1.length ≤ 1000000) :
    Calls Try.prog 31 #[.slice A1 k1.length c1, .slice A2 k2.length c2] w fun e w' => e = .returned (.bool (decide (k1.map (·.k) = k2.map (·.k)))) ∧ Below w.heap.size w w' := by
  have H1 := Lib.hid h1
  have H2 := Lib.hid h2
  have T1 := Lib.hid t1
  have T2 := Lib.hid t2
  obtain ⟨R, hR⟩ : ∃ R, decide (k1.map (·.k) = k2.map (·.k)) = R := ⟨_, rfl⟩
  rw [hR]
  have HR := Lib.hid hR
  clear hR h1 h2 t1 t2
  by_cases hl : k1.length = k2.length
  · have tl : ((k1.length : Int) != (k2.length : Int)) = false := by simp [hl]
    have HL := Lib.hid hl
    clear hl
    go_enter Try.func31, Try.ntmps31
    go_upto_region 4 with (fail)
    go_loopw [5] (fun y WR => ∃ (i : Nat), i ≤ k1.length ∧ y = .int .i64 i ∧ Hid (∀ j, j < i → (k1.map (·.k))[j]? = (k2.map (·.k))[j]?) ∧ Hid (Below w.heap.size w WR)) (fun y _ => 2000000 - (intOf y).toNat)
    case atStart => exact ⟨0, by omega, rfl, fun j hj => by omega, Below.refl _ _⟩
    case round =>
      obtain ⟨i, hi', rfl, hpre, hB⟩ := hrel
      by_cases hlt : i < k1.length
      · have tn : decide ((i : Int) < (k1.length : Int)) = true := decide_eq_true (by omega)
        have hl2 : i < k2.length := by rw [← HL.out]; exact hlt
        obtain ⟨x, hx⟩ : ∃ x, k1[i]? = some x := ⟨_, List.getElem?_eq_getElem hlt⟩
        obtain ⟨y, hy⟩ : ∃ y, k2[i]? = some y := ⟨_, List.getElem?_eq_getElem hl2⟩
        obtain ⟨b1, o1, e1, hb1, hc1⟩ := segAt (H1.out.below hB.out) hx
        obtain ⟨b2, o2, e2, hb2, hc2⟩ := segAt (H2.out.below hB.out) hy
        have rx : Hid (wr.rangeAt b1 (o1 + i * 16) (kL x)) := fun j v hv => hc1 j v hv
        have ry : Hid (wr.rangeAt b2 (o2 + i * 16) (kL y)) := fun j v hv => hc2 j v hv
        have lw := hB.out.size
        have l1 : b1 < wr.heap.size := by omega
        have l2 : b2 < wr.heap.size := by omega
        have hix := fun W => idx_at (t := 25) (size := 16) (cap := c1) (len := k1.length) e1 hlt (by kernel_rfl) (fun W => by kernel_rfl) W
        have hiy := fun W => idx_at (t := 25) (size := 16) (cap := c2) (len := k2.length) e2 hl2 (by kernel_rfl) (fun W => by kernel_rfl) W
        have HX := Lib.hid hx
        have HY := Lib.hid hy
        have HC := Lib.hid (fun W (hb : Below wr.heap.size wr W) => rsame_any x y W ((T1.out x (List.mem_of_getElem? hx)).then_ (below_then hB.out hb)) ((T2.out y (List.mem_of_getElem? hy)).then_ (below_then hB.out hb)))
        have hwr := wrap_small (n := i) (by omega)
        clear hc1 hc2 hx hy e1 e2 lw
        by_cases he : x.k = y.k
        · have hd : decide (x.k = y.k) = true := decide_eq_true he
          rw [hd] at HC
          have hp2 : Hid (∀ j, j < i + 1 → (k1.map (·.k))[j]? = (k2.map (·.k))[j]?) := by
            intro j hj
            by_cases q : j = i
            · rw [q, List.getElem?_map, List.getElem?_map, HX.out, HY.out]; simp [he]
            · exact hpre.out j (by omega)
          clear hd he hpre
          go_upto_region 6 with (fail)
          refine wp_region_hb (fun w' => Below wr.heap.size wr w') [0, 1, 2, 3, 4, 5, 6, 7] [8, 9] (by kernel_rfl) (by kernel_rfl) (by repeat (first | with_reducible refine panOk_then ?_ | with_reducible refine panOk_block ?_ | exact panOk_body)) (Below.drew (Below.refl _ _)) (fun hdir hsel hpan hHeld => ?_)
          refine wpHB_take (i := 0) (oi := ⟨some 17, _, _, _, _, _⟩) (v := .slice A1 k1.length c1) hdir hsel hpan rfl (by kernel_rfl) (by kernel_rfl) (by kernel_rfl) (Or.inl ⟨by rfl, fun w hw => by rfl⟩) (by assumption) ?_
          try simp only [Act.put, List.setIfInBounds_toArray, List.set_cons_zero, List.set_cons_succ]
          refine wpHB_take (i := 1) (oi := ⟨some 18, _, _, _, _, _⟩) (v := .int .i64 i) hdir hsel hpan rfl (by kernel_rfl) (by kernel_rfl) (by kernel_rfl) (Or.inl ⟨by rfl, fun w hw => by rfl⟩) (by assumption) ?_
          try simp only [Act.put, List.setIfInBounds_toArray, List.set_cons_zero, List.set_cons_succ]
          refine wpHB_take (i := 2) (oi := ⟨some 19, _, _, _, _, _⟩) (v := .pointer (some ⟨b1, o1 + i * 16, none⟩)) hdir hsel hpan rfl (by kernel_rfl) (by kernel_rfl) (by kernel_rfl) (Or.inl ⟨by rfl, fun w hw => by have h := hix w; go_simp⟩) (by assumption) ?_
          try simp only [Act.put, List.setIfInBounds_toArray, List.set_cons_zero, List.set_cons_succ]
          refine wpHB_take (i := 3) (oi := ⟨some 20, _, _, _, _, _⟩) hdir hsel hpan rfl (by kernel_rfl) (by kernel_rfl) (by kernel_rfl) (yieldsIf_load_mid (by rfl) 47 _ rfl b1 _ rfl (kL x) _ (fun w hw => (fun j v hv => (hw.cell (p := ⟨b1, _, none⟩) l1).trans (rx.out j v hv))) Try.underlying47 rfl (by kernel_rfl)) (by assumption) ?_
          try simp only [Act.put, List.setIfInBounds_toArray, List.set_cons_zero, List.set_cons_succ]
          refine wpHB_take (i := 4) (oi := ⟨some 21, _, _, _, _, _⟩) (v := .slice A2 k2.length c2) hdir hsel hpan rfl (by kernel_rfl) (by kernel_rfl) (by kernel_rfl) (Or.inl ⟨by rfl, fun w hw => by rfl⟩) (by assumption) ?_
          try simp only [Act.put, List.setIfInBounds_toArray, List.set_cons_zero, List.set_cons_succ]
          refine wpHB_take (i := 5) (oi := ⟨some 22, _, _, _, _, _⟩) (v := .int .i64 i) hdir hsel hpan rfl (by kernel_rfl) (by kernel_rfl) (by kernel_rfl) (Or.inl ⟨by rfl, fun w hw => by rfl⟩) (by assumption) ?_
          try simp only [Act.put, List.setIfInBounds_toArray, List.set_cons_zero, List.set_cons_succ]
          refine wpHB_take (i := 6) (oi := ⟨some 23, _, _, _, _, _⟩) (v := .pointer (some ⟨b2, o2 + i * 16, none⟩)) hdir hsel hpan rfl (by kernel_rfl) (by kernel_rfl) (by kernel_rfl) (Or.inl ⟨by rfl, fun w hw => by have h := hiy w; go_simp⟩) (by assumption) ?_
          try simp only [Act.put, List.setIfInBounds_toArray, List.set_cons_zero, List.set_cons_succ]
          refine wpHB_take (i := 7) (oi := ⟨some 24, _, _, _, _, _⟩) hdir hsel hpan rfl (by kernel_rfl) (by kernel_rfl) (by kernel_rfl) (yieldsIf_load_mid (by rfl) 47 _ rfl b2 _ rfl (kL y) _ (fun w hw => (fun j v hv => (hw.cell (p := ⟨b2, _, none⟩) l2).trans (ry.out j v hv))) Try.underlying47 rfl (by kernel_rfl)) (by assumption) ?_
          try simp only [Act.put, List.setIfInBounds_toArray, List.set_cons_zero, List.set_cons_succ]
          refine wpHB_tail (by kernel_rfl) (by kernel_rfl) ?_
          clear hdir hsel hpan
          simp only [opsAt, List.getElem?_toArray, List.getElem?_cons_succ, List.getElem?_cons_zero, Option.toList_some, List.cons_append, List.nil_append]
          clear hix hiy
          go_wp2_with (go_at_call 50; (with_reducible refine (HC.out _ hHeld).mono ?_); rintro e w1 ⟨rfl, hb1⟩)
          go_roundw
          case rel => exact ⟨i + 1, by omega, by simp, hp2, below_then hB.out (below_then hHeld hb1)⟩
          case measure => simp [intOf]; omega
        · have hd : decide (x.k = y.k) = false := decide_eq_false he
          rw [hd] at HC
          have hf : Hid (R = false) := by
            unfold Hid
            rw [← HR.out]
            refine decide_eq_false fun h => he ?_
            have h3 := congrArg (fun l => l[i]?) h
            simp only [List.getElem?_map, HX.out, HY.out, Option.map_some, Option.some.injEq] at h3
            exact h3
          clear hd he hpre
          go_upto_region 6 with (fail)
          refine wp_region_hb (fun w' => Below wr.heap.size wr w') [0, 1, 2, 3, 4, 5, 6, 7] [8, 9] (by kernel_rfl) (by kernel_rfl) (by repeat (first | with_reducible refine panOk_then ?_ | with_reducible refine panOk_block ?_ | exact panOk_body)) (Below.drew (Below.refl _ _)) (fun hdir hsel hpan hHeld => ?_)
          refine wpHB_take (i := 0) (oi := ⟨some 17, _, _, _, _, _⟩) (v := .slice A1 k1.length c1) hdir hsel hpan rfl (by kernel_rfl) (by kernel_rfl) (by kernel_rfl) (Or.inl ⟨by rfl, fun w hw => by rfl⟩) (by assumption) ?_
          try simp only [Act.put, List.setIfInBounds_toArray, List.set_cons_zero, List.set_cons_succ]
          refine wpHB_take (i := 1) (oi := ⟨some 18, _, _, _, _, _⟩) (v := .int .i64 i) hdir hsel hpan rfl (by kernel_rfl) (by kernel_rfl) (by kernel_rfl) (Or.inl ⟨by rfl, fun w hw => by rfl⟩) (by assumption) ?_
          try simp only [Act.put, List.setIfInBounds_toArray, List.set_cons_zero, List.set_cons_succ]
          refine wpHB_take (i := 2) (oi := ⟨some 19, _, _, _, _, _⟩) (v := .pointer (some ⟨b1, o1 + i * 16, none⟩)) hdir hsel hpan rfl (by kernel_rfl) (by kernel_rfl) (by kernel_rfl) (Or.inl ⟨by rfl, fun w hw => by have h := hix w; go_simp⟩) (by assumption) ?_
          try simp only [Act.put, List.setIfInBounds_toArray, List.set_cons_zero, List.set_cons_succ]
          refine wpHB_take (i := 3) (oi := ⟨some 20, _, _, _, _, _⟩) hdir hsel hpan rfl (by kernel_rfl) (by kernel_rfl) (by kernel_rfl) (yieldsIf_load_mid (by rfl) 47 _ rfl b1 _ rfl (kL x) _ (fun w hw => (fun j v hv => (hw.cell (p := ⟨b1, _, none⟩) l1).trans (rx.out j v hv))) Try.underlying47 rfl (by kernel_rfl)) (by assumption) ?_
          try simp only [Act.put, List.setIfInBounds_toArray, List.set_cons_zero, List.set_cons_succ]
          refine wpHB_take (i := 4) (oi := ⟨some 21, _, _, _, _, _⟩) (v := .slice A2 k2.length c2) hdir hsel hpan rfl (by kernel_rfl) (by kernel_rfl) (by kernel_rfl) (Or.inl ⟨by rfl, fun w hw => by rfl⟩) (by assumption) ?_
          try simp only [Act.put, List.setIfInBounds_toArray, List.set_cons_zero, List.set_cons_succ]
          refine wpHB_take (i := 5) (oi := ⟨some 22, _, _, _, _, _⟩) (v := .int .i64 i) hdir hsel hpan rfl (by kernel_rfl) (by kernel_rfl) (by kernel_rfl) (Or.inl ⟨by rfl, fun w hw => by rfl⟩) (by assumption) ?_
          try simp only [Act.put, List.setIfInBounds_toArray, List.set_cons_zero, List.set_cons_succ]
          refine wpHB_take (i := 6) (oi := ⟨some 23, _, _, _, _, _⟩) (v := .pointer (some ⟨b2, o2 + i * 16, none⟩)) hdir hsel hpan rfl (by kernel_rfl) (by kernel_rfl) (by kernel_rfl) (Or.inl ⟨by rfl, fun w hw => by have h := hiy w; go_simp⟩) (by assumption) ?_
          try simp only [Act.put, List.setIfInBounds_toArray, List.set_cons_zero, List.set_cons_succ]
          refine wpHB_take (i := 7) (oi := ⟨some 24, _, _, _, _, _⟩) hdir hsel hpan rfl (by kernel_rfl) (by kernel_rfl) (by kernel_rfl) (yieldsIf_load_mid (by rfl) 47 _ rfl b2 _ rfl (kL y) _ (fun w hw => (fun j v hv => (hw.cell (p := ⟨b2, _, none⟩) l2).trans (ry.out j v hv))) Try.underlying47 rfl (by kernel_rfl)) (by assumption) ?_
          try simp only [Act.put, List.setIfInBounds_toArray, List.set_cons_zero, List.set_cons_succ]
          refine wpHB_tail (by kernel_rfl) (by kernel_rfl) ?_
          clear hdir hsel hpan
          simp only [opsAt, List.getElem?_toArray, List.getElem?_cons_succ, List.getElem?_cons_zero, Option.toList_some, List.cons_append, List.nil_append]
          clear hix hiy
          go_wp2_with (go_at_call 50; (with_reducible refine (HC.out _ hHeld).mono ?_); rintro e w1 ⟨rfl, hb1⟩)
          go_ret
          exact ⟨ret_bool hf.out.symm, below_then hB.out (below_then hHeld hb1)⟩
      · have tn : decide ((i : Int) < (k1.length : Int)) = false := decide_eq_false (by omega)
        have hf : Hid (R = true) := by
          unfold Hid
          rw [← HR.out]
          refine decide_eq_true (List.ext_getElem? fun j => ?_)
          by_cases hj : j < i
          · exact hpre.out j hj
          · rw [List.getElem?_eq_none (by rw [List.length_map]; omega), List.getElem?_eq_none (by rw [List.length_map]; have := HL.out; omega)]
        go_wp2
        go_ret
        exact ⟨ret_bool hf.out.symm, hB.out⟩
  · have tl : ((k1.length : Int) != (k2.length : Int)) = true := by simp; omega
    have hf : Hid (R = false) := by
      unfold Hid
      rw [← HR.out]
      exact decide_eq_false fun h => hl (by have := congrArg List.length h; simpa using this)
    clear hl
    go_enter Try.func31, Try.ntmps31
    go_wp2
    go_ret
    exact ⟨ret_bool hf.out.symm, Below.refl _ _⟩
end Go.Proofs.Ytcplneglfbdooaa
