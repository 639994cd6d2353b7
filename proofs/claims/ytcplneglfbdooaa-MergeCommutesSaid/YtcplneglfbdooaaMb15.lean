/- Contracts of functions and plain laws, joined: Kra, Krd, Krf. -/
import Derived.Test.YtcplneglfbdooaaMb14
import Derived.Test.YtcplneglfbdooaaMb13
/- The walk of estoppelref24.Ints. -/
namespace Go.Proofs.Ytcplneglfbdooaa
open Go.RowKit

set_option maxRecDepth 100000 in
set_option maxHeartbeats 3200000 in
theorem ints_any (A1 A2 : Option Addr) (c1 c2 : Nat) (l1 l2 : List Int) (w : World) (h1 : Seg w w.heap.size 1 eI A1 l1) (h2 : Seg w w.heap.size 1 eI A2 l2) (n1 : l1.length ≤ 1000000) :
    Calls Try.prog 30 #[.slice A1 l1.length c1, .slice A2 l2.length c2] w fun e w' => e = .returned (.bool (decide (l1 = l2))) ∧ Below w.heap.size w w' := by
  have H1 := Lib.hid h1
  have H2 := Lib.hid h2
  obtain ⟨R, hR⟩ : ∃ R, decide (l1 = l2) = R := ⟨_, rfl⟩
  rw [hR]
  have HR := Lib.hid hR
  clear hR h1 h2
  by_cases hl : l1.length = l2.length
  · have tl : ((l1.length : Int) != (l2.length : Int)) = false := by simp [hl]
    have HL := Lib.hid hl
    clear hl
    go_enter Try.func30, Try.ntmps30
    go_upto_region 4 with (fail)
    go_loopw [5] (fun y WR => ∃ (i : Nat), i ≤ l1.length ∧ y = .int .i64 i ∧ Hid (∀ j, j < i → l1[j]? = l2[j]?) ∧ Hid (Below w.heap.size w WR)) (fun y _ => 2000000 - (intOf y).toNat)
    case atStart => exact ⟨0, by omega, rfl, fun j hj => by omega, by unfold Hid; (repeat (first | with_reducible assumption | with_reducible exact Below.refl _ _ | with_reducible refine below_drewN ?_ _ | with_reducible refine Below.drew ?_ | with_reducible refine below_alloc ?_ _ | with_reducible refine Below.setCell ?_ (by first | omega | (simp; done) | (simp; omega)) _ | with_reducible refine below_then ?_ (by with_reducible assumption) | (refine below_then (a := World.drew _) ?_ (by with_reducible assumption))))⟩
    case round =>
      obtain ⟨i, hi', rfl, hpre, hB⟩ := hrel
      by_cases hlt : i < l1.length
      · have tn : decide ((i : Int) < (l1.length : Int)) = true := decide_eq_true (by omega)
        have hl2 : i < l2.length := by rw [← HL.out]; exact hlt
        obtain ⟨x, hx⟩ : ∃ x, l1[i]? = some x := ⟨_, List.getElem?_eq_getElem hlt⟩
        obtain ⟨y, hy⟩ : ∃ y, l2[i]? = some y := ⟨_, List.getElem?_eq_getElem hl2⟩
        obtain ⟨b1, o1, e1, hb1, hc1⟩ := segAt (H1.out.below hB.out) hx
        obtain ⟨b2, o2, e2, hb2, hc2⟩ := segAt (H2.out.below hB.out) hy
        have x0 : wr.cell? ⟨b1, o1 + i, none⟩ = some (.int .i64 x) := by simpa using hc1 0 _ rfl
        have y0 : wr.cell? ⟨b2, o2 + i, none⟩ = some (.int .i64 y) := by simpa using hc2 0 _ rfl
        have hix := fun W => idx_at (t := 22) (size := 1) (cap := c1) (len := l1.length) e1 hlt (by kernel_rfl) (fun W => by kernel_rfl) W
        have hiy := fun W => idx_at (t := 22) (size := 1) (cap := c2) (len := l2.length) e2 hl2 (by kernel_rfl) (fun W => by kernel_rfl) W
        simp only [Nat.mul_one] at hix hiy
        have HX := Lib.hid hx
        have HY := Lib.hid hy
        have hwr := wrap_small (n := i) (by omega)
        clear hc1 hc2 hx hy e1 e2
        by_cases he : x = y
        · have hd : (x != y) = false := by simp [he]
          have hp2 : Hid (∀ j, j < i + 1 → l1[j]? = l2[j]?) := by
            intro j hj
            by_cases q : j = i
            · rw [q, HX.out, HY.out, he]
            · exact hpre.out j (by omega)
          clear he hpre
          go_upto_region 6 with (fail)
          have rg0 := cell_regrown x0
          have rg1 := cell_regrown y0
          refine wp_region_qt [0, 1, 2, 3, 4, 5, 6, 7, 8] [] (by kernel_rfl) (by kernel_rfl) (by repeat (first | with_reducible refine panOk_then ?_ | with_reducible refine panOk_block ?_ | exact panOk_body)) ?_
          simp only [opsAt, List.getElem?_toArray, List.getElem?_cons_succ, List.getElem?_cons_zero, Option.toList_some, List.cons_append, List.nil_append]
          repeat (go_big_quiet_step (fail))
          refine wpQuiet_nil ?_
          intro W2 hw2
          have hbW2 := qt_world hw2
          clear hw2 rg0 rg1
          refine wpList_done ?_
          go_wp2
          go_roundw
          case rel => exact ⟨i + 1, by omega, by simp, hp2, below_then hB.out hbW2⟩
          case measure => simp [intOf]; omega
        · have hd : (x != y) = true := by simpa using he
          have hf : Hid (R = false) := by
            unfold Hid
            rw [← HR.out]
            refine decide_eq_false fun h => he ?_
            have := HX.out
            rw [h, HY.out] at this
            exact (Option.some.inj this).symm
          clear he hpre
          go_upto_region 6 with (fail)
          have rg0 := cell_regrown x0
          have rg1 := cell_regrown y0
          refine wp_region_qt [0, 1, 2, 3, 4, 5, 6, 7, 8] [] (by kernel_rfl) (by kernel_rfl) (by repeat (first | with_reducible refine panOk_then ?_ | with_reducible refine panOk_block ?_ | exact panOk_body)) ?_
          simp only [opsAt, List.getElem?_toArray, List.getElem?_cons_succ, List.getElem?_cons_zero, Option.toList_some, List.cons_append, List.nil_append]
          repeat (go_big_quiet_step (fail))
          refine wpQuiet_nil ?_
          intro W2 hw2
          have hbW2 := qt_world hw2
          clear hw2 rg0 rg1
          refine wpList_done ?_
          go_wp2
          go_ret
          exact ⟨ret_bool hf.out.symm, below_then hB.out hbW2⟩
      · have tn : decide ((i : Int) < (l1.length : Int)) = false := decide_eq_false (by omega)
        have hf : Hid (R = true) := by
          unfold Hid
          rw [← HR.out]
          refine decide_eq_true (List.ext_getElem? fun j => ?_)
          by_cases hj : j < i
          · exact hpre.out j hj
          · rw [List.getElem?_eq_none (by omega), List.getElem?_eq_none (by have := HL.out; omega)]
        go_wp2
        go_ret
        exact ⟨ret_bool hf.out.symm, hB.out⟩
  · have tl : ((l1.length : Int) != (l2.length : Int)) = true := by simp; omega
    have hf : Hid (R = false) := by
      unfold Hid
      rw [← HR.out]
      exact decide_eq_false fun h => hl (by rw [h])
    clear hl
    go_enter Try.func30, Try.ntmps30
    go_wp2
    go_ret
    exact ⟨ret_bool hf.out.symm, Below.refl _ _⟩
end Go.Proofs.Ytcplneglfbdooaa
/- The walk of estoppelref24.Same: two patches. -/
namespace Go.Proofs.Ytcplneglfbdooaa
open Go.RowKit

/-- a guarded load from the middle of a block -/
theorem wpList_mid_w {P : Program} {ops : Array Oper} {Q : Exit → Act → World → Prop} {a : Act} {w : World} {rest : List Oper} {o : Oper} (hw : Region.wanted o (yielded ops a.tmps) = true) (ty : TypeId) (x : Operand) (ho : o.op = .load ty x)
    (b i : Nat) (hx : a.eval x = .pointer (some ⟨b, i, none⟩)) (cs : List Value) (d : TypeDesc) (hc : w.rangeAt b i cs) (hu : P.underlying ty = some d) (hd : d.isRow = true) (hi : (P.info? ty).map (·.size) = some cs.length)
    (h : wpList P ops Q rest (a.put o.dst (.agg cs.toArray)) w) : wpList P ops Q (o :: rest) a w :=
  wpList_wanted hw fun _ hK => wp_load_mid ty x ho b i hx cs d hc hu hd hi (hK _ _ h)
theorem pat_eq (p q : Pat) : p = q ↔ p.kind = q.kind ∧ p.days = q.days ∧ p.cls = q.cls ∧ p.new = q.new := by
  cases p; cases q; simp; exact fun _ => ⟨fun ⟨a, b, c⟩ => ⟨c, a, b⟩, fun ⟨a, b, c⟩ => ⟨b, c, a⟩⟩
set_option maxRecDepth 100000 in
set_option maxHeartbeats 3200000 in
theorem rpat_any (p q : Pat) (pm qm : Pm) (w : World) (hp : PatM w p pm) (hq : PatM w q qm) : Calls Try.prog 35 #[.agg (pL p pm), .agg (pL q qm)] w fun e w' => e = .returned (.bool (decide (p = q))) ∧ Below w.heap.size w w' := by
  obtain ⟨R, hR⟩ : ∃ R, decide (p = q) = R := ⟨_, rfl⟩
  rw [hR]
  have HI := Lib.hid (fun W (hb : Below w.heap.size w W) => ints_any pm.p qm.p pm.pc qm.pc p.cls q.cls W (hp.then_ hb).s (hq.then_ hb).s hp.n)
  have HC := Lib.hid (fun W (hb : Below w.heap.size w W) => rsame_any ⟨p.new, pm.A, pm.cap⟩ ⟨q.new, qm.A, qm.cap⟩ W (hp.then_ hb).k (hq.then_ hb).k)
  obtain ⟨e0, E0⟩ : ∃ b, (p.kind == q.kind) = b := ⟨_, rfl⟩
  obtain ⟨e1, E1⟩ : ∃ b, (p.days == q.days) = b := ⟨_, rfl⟩
  obtain ⟨e2, E2⟩ : ∃ b, decide (p.cls = q.cls) = b := ⟨_, rfl⟩
  obtain ⟨e3, E3⟩ : ∃ b, decide (p.new = q.new) = b := ⟨_, rfl⟩
  have HRR : Hid (R = (e0 && e1 && e2 && e3)) := by
    unfold Hid
    rw [← hR, ← E0, ← E1, ← E2, ← E3, Bool.eq_iff_iff]
    simp only [decide_eq_true_eq, Bool.and_eq_true, beq_iff_eq]
    rw [pat_eq]
    constructor
    · rintro ⟨a, b, c, d⟩; exact ⟨⟨⟨a, b⟩, c⟩, d⟩
    · rintro ⟨⟨⟨a, b⟩, c⟩, d⟩; exact ⟨a, b, c, d⟩
  simp only [E2] at HI
  simp only [E3] at HC
  clear hR hp hq E2 E3
  go_enter Try.func35, Try.ntmps35
  go_upto_region 1 with (fail)
  refine name_wp ?_
  intro X hX
  have gbp : Blk X w.heap.size 49 (pL p pm) := by rw [hX]; exact (blk_at (by simp)).alloc _
  have gbq : Blk X (w.heap.size + 1) 49 (pL q qm) := by rw [hX]; exact blk_at (by simp)
  have HB : Below w.heap.size w X := by rw [hX]; (repeat (first | with_reducible assumption | with_reducible exact Below.refl _ _ | with_reducible refine below_drewN ?_ _ | with_reducible refine Below.drew ?_ | with_reducible refine below_alloc ?_ _ | with_reducible refine Below.setCell ?_ (by first | omega | (simp; done) | (simp; omega)) _ | with_reducible refine below_then ?_ (by with_reducible assumption) | (refine below_then (a := World.drew _) ?_ (by with_reducible assumption))))
  clear hX
  obtain ⟨bq, ebq⟩ : ∃ b, w.heap.size + 1 = b := ⟨_, rfl⟩
  obtain ⟨bp, ebp⟩ : ∃ b, w.heap.size = b := ⟨_, rfl⟩
  have lbp : w.heap.size ≤ bp := by omega
  have lbq : w.heap.size ≤ bq := by omega
  have nbpbq : bp ≠ bq := by omega
  rw [ebq] at gbq ⊢
  rw [ebp] at gbp ⊢
  clear ebp ebq
  have p0 : X.cell? ⟨bp, 0, none⟩ = some (.int .i64 p.kind) := gbp.cell 0
  have p1 : X.cell? ⟨bp, 1, none⟩ = some (.slice pm.p p.cls.length pm.pc) := gbp.cell 1
  have p18 : X.cell? ⟨bp, 18, none⟩ = some (.int .i64 p.days) := gbp.cell 18
  have q0 : X.cell? ⟨bq, 0, none⟩ = some (.int .i64 q.kind) := gbq.cell 0
  have q1 : X.cell? ⟨bq, 1, none⟩ = some (.slice qm.p q.cls.length qm.pc) := gbq.cell 1
  have q18 : X.cell? ⟨bq, 18, none⟩ = some (.int .i64 q.days) := gbq.cell 18
  have HBX := Lib.hid HB
  clear HB
  cases e0
  · have hf : Hid (R = false) := by unfold Hid; rw [HRR.out]; rfl
    clear HRR
    go_wp2
    go_ret
    exact ⟨ret_bool hf.out.symm, HBX.out⟩
  cases e1
  · have hf : Hid (R = false) := by unfold Hid; rw [HRR.out]; rfl
    clear HRR
    go_wp2
    go_ret
    exact ⟨ret_bool hf.out.symm, HBX.out⟩
  cases e2
  · have hf : Hid (R = false) := by unfold Hid; rw [HRR.out]; rfl
    clear HRR
    go_wp2_with (go_at_call 30; (with_reducible refine (HI.out _ HBX.out).mono ?_); rintro e w1 ⟨rfl, hb1⟩)
    go_ret
    exact ⟨ret_bool hf.out.symm, below_then HBX.out hb1⟩
  · have hf : Hid (R = e3) := by unfold Hid; rw [HRR.out]; rfl
    clear HRR
    go_wp2_with (first | (go_at_call 30; (with_reducible refine (HI.out _ HBX.out).mono ?_); rintro e w1 ⟨rfl, hb1⟩) | (refine wpList_mid_w (by rfl) 47 _ rfl bp _ rfl (kL ⟨p.new, pm.A, pm.cap⟩) _ (Blk.range (pre := [.int .i64 p.kind, .slice pm.p p.cls.length pm.pc]) (mid := kL ⟨p.new, pm.A, pm.cap⟩) (post := [.int .i64 p.days]) (gbp.then_ hb1)) Try.underlying47 rfl (by kernel_rfl) ?_; simp only [Act.put, List.setIfInBounds_toArray, List.set_cons_succ, List.set_cons_zero]) | (refine wpList_mid_w (by rfl) 47 _ rfl bq _ rfl (kL ⟨q.new, qm.A, qm.cap⟩) _ (Blk.range (pre := [.int .i64 q.kind, .slice qm.p q.cls.length qm.pc]) (mid := kL ⟨q.new, qm.A, qm.cap⟩) (post := [.int .i64 q.days]) (gbq.then_ hb1)) Try.underlying47 rfl (by kernel_rfl) ?_; simp only [Act.put, List.setIfInBounds_toArray, List.set_cons_succ, List.set_cons_zero]) | (go_at_call 50; (with_reducible refine (HC.out _ (below_then HBX.out hb1)).mono ?_); rintro e w2 ⟨rfl, hb2⟩))
    go_ret
    exact ⟨ret_bool hf.out.symm, below_then (below_then HBX.out hb1) hb2⟩
end Go.Proofs.Ytcplneglfbdooaa
/- Units and act types compared as values. -/
namespace Go.Proofs.Ytcplneglfbdooaa
open Go.RowKit

theorem eqvR (f : Nat) (a b c d : Int) (w : World) : (Op.equalIn (f + 1 + 1) 45 (.agg #[.int .i64 a, .int .i64 b]) (.agg #[.int .i64 c, .int .i64 d])).run Try.prog w = .ok (decide (a = c ∧ b = d)) w := by
  have e : (Try.prog.fieldsOf 45).toList = [{ name := "Num", type := 3, offset := 0, embedded := false, tag := "", pkgPath := "", byteOffset := 0 }, { name := "Den", type := 3, offset := 1, embedded := false, tag := "", pkgPath := "", byteOffset := 8 }] := by kernel_rfl
  have p1 : (part 3 #[.int .i64 a, .int .i64 b] 0).run Try.prog w = .ok (.int .i64 a) w := by kernel_rfl
  have p2 : (part 3 #[.int .i64 a, .int .i64 b] 1).run Try.prog w = .ok (.int .i64 b) w := by kernel_rfl
  have p3 : (part 3 #[.int .i64 c, .int .i64 d] 0).run Try.prog w = .ok (.int .i64 c) w := by kernel_rfl
  have p4 : (part 3 #[.int .i64 c, .int .i64 d] 1).run Try.prog w = .ok (.int .i64 d) w := by kernel_rfl
  have u := Try.underlying3
  rw [run_equalIn_agg w (f + 1) 45 _ _ (by kernel_rfl) (by kernel_rfl), e]
  simp only [Op.eqFields, Sem.run_bind, p1, p2, p3, p4, Result.andThen_ok, run_equalIn_int w f 3 .i64 .i64 _ _ u, ne_eq, Sem.run_ite, Sem.run_pure]
  by_cases h1 : a = c <;> by_cases h2 : b = d <;> simp [h1, h2]
theorem ba_inj {a b : ByteArray} (h : a.toList = b.toList) : a = b := by
  rw [ByteArray.toList_eq, ByteArray.toList_eq] at h
  exact ByteArray.ext (Array.ext' h)
theorem eqvU (a0 b0 : ByteArray) (a1 a2 a3 a4 b1 b2 b3 b4 : Int) (w : World) : (Op.equalIn 10000 67 (.agg #[.string a0, .int .i64 a1, .int .i64 a2, .int .i64 a3, .int .i64 a4]) (.agg #[.string b0, .int .i64 b1, .int .i64 b2, .int .i64 b3, .int .i64 b4])).run Try.prog w = .ok (decide (a0 = b0 ∧ a1 = b1 ∧ a2 = b2 ∧ a3 = b3 ∧ a4 = b4)) w := by
  have e : (Try.prog.fieldsOf 67).toList.map (fun f => (f.name, f.type, f.offset)) = [("Name", 9, 0), ("Kind", 3, 1), ("Base", 3, 2), ("Factor", 45, 3)] := by kernel_rfl
  obtain ⟨f0, f1, f2, f3, hf, ht0, ht1, ht2, ht3, ho0, ho1, ho2, ho3⟩ : ∃ f0 f1 f2 f3, (Try.prog.fieldsOf 67).toList = [f0, f1, f2, f3] ∧ f0.type = 9 ∧ f1.type = 3 ∧ f2.type = 3 ∧ f3.type = 45 ∧ f0.offset = 0 ∧ f1.offset = 1 ∧ f2.offset = 2 ∧ f3.offset = 3 := by
    have hl := congrArg List.length e
    match hq : (Try.prog.fieldsOf 67).toList with
    | [f0, f1, f2, f3] =>
      rw [hq] at e
      simp only [List.map_cons, List.map_nil, List.cons.injEq, Prod.mk.injEq, and_true] at e
      obtain ⟨⟨_, a0, b0⟩, ⟨_, a1, b1⟩, ⟨_, a2, b2⟩, ⟨_, a3, b3⟩⟩ := e
      exact ⟨f0, f1, f2, f3, rfl, a0, a1, a2, a3, b0, b1, b2, b3⟩
    | [] => rw [hq] at hl; simp at hl
    | [f0] => rw [hq] at hl; simp at hl
    | [f0, f1] => rw [hq] at hl; simp at hl
    | [f0, f1, f2] => rw [hq] at hl; simp at hl
    | f0 :: f1 :: f2 :: f3 :: g :: r => rw [hq] at hl; simp at hl
  have hb : ∀ f ∈ [f0, f1, f2, f3], (f.name == "_") = false := by
    have e2 : (Try.prog.fieldsOf 67).toList.all (fun f => !(f.name == "_")) = true := by kernel_rfl
    rw [hf] at e2
    intro f hf2
    have := List.all_eq_true.1 e2 f hf2
    simpa using this
  have p0 : (part 9 #[.string a0, .int .i64 a1, .int .i64 a2, .int .i64 a3, .int .i64 a4] 0).run Try.prog w = .ok (.string a0) w := by kernel_rfl
  have r0 : (part 9 #[.string b0, .int .i64 b1, .int .i64 b2, .int .i64 b3, .int .i64 b4] 0).run Try.prog w = .ok (.string b0) w := by kernel_rfl
  have n0 : f0.name ≠ "_" := by simpa using hb f0 (by simp)
  have q0 : (Op.equalIn 9999 9 (.string a0) (.string b0)).run Try.prog w = .ok (a0.toList == b0.toList) w := run_equalIn_string w 9998 9 _ _ Try.underlying9
  have p1 : (part 3 #[.string a0, .int .i64 a1, .int .i64 a2, .int .i64 a3, .int .i64 a4] 1).run Try.prog w = .ok (.int .i64 a1) w := by kernel_rfl
  have r1 : (part 3 #[.string b0, .int .i64 b1, .int .i64 b2, .int .i64 b3, .int .i64 b4] 1).run Try.prog w = .ok (.int .i64 b1) w := by kernel_rfl
  have n1 : f1.name ≠ "_" := by simpa using hb f1 (by simp)
  have q1 : (Op.equalIn 9999 3 (.int .i64 a1) (.int .i64 b1)).run Try.prog w = .ok (a1 == b1) w := run_equalIn_int w 9998 3 .i64 .i64 _ _ Try.underlying3
  have p2 : (part 3 #[.string a0, .int .i64 a1, .int .i64 a2, .int .i64 a3, .int .i64 a4] 2).run Try.prog w = .ok (.int .i64 a2) w := by kernel_rfl
  have r2 : (part 3 #[.string b0, .int .i64 b1, .int .i64 b2, .int .i64 b3, .int .i64 b4] 2).run Try.prog w = .ok (.int .i64 b2) w := by kernel_rfl
  have n2 : f2.name ≠ "_" := by simpa using hb f2 (by simp)
  have q2 : (Op.equalIn 9999 3 (.int .i64 a2) (.int .i64 b2)).run Try.prog w = .ok (a2 == b2) w := run_equalIn_int w 9998 3 .i64 .i64 _ _ Try.underlying3
  have p3 : (part 45 #[.string a0, .int .i64 a1, .int .i64 a2, .int .i64 a3, .int .i64 a4] 3).run Try.prog w = .ok (.agg #[.int .i64 a3, .int .i64 a4]) w := by kernel_rfl
  have r3 : (part 45 #[.string b0, .int .i64 b1, .int .i64 b2, .int .i64 b3, .int .i64 b4] 3).run Try.prog w = .ok (.agg #[.int .i64 b3, .int .i64 b4]) w := by kernel_rfl
  have n3 : f3.name ≠ "_" := by simpa using hb f3 (by simp)
  have q3 : (Op.equalIn 9999 45 (.agg #[.int .i64 a3, .int .i64 a4]) (.agg #[.int .i64 b3, .int .i64 b4])).run Try.prog w = .ok (decide (a3 = b3 ∧ a4 = b4)) w := eqvR 9997 a3 a4 b3 b4 w
  show (Op.equalIn (9998 + 1 + 1) _ _ _).run _ _ = _
  rw [run_equalIn_agg w (9998 + 1) 67 _ _ (by kernel_rfl) (by kernel_rfl), hf]
  simp only [Op.eqFields, Sem.run_bind, ht0, ho0, p0, r0, ht1, ho1, p1, r1, ht2, ho2, p2, r2, ht3, ho3, p3, r3, q0, q1, q2, q3, Result.andThen_ok, ne_eq, Sem.run_ite, Sem.run_pure, n0, n1, n2, n3, not_false_eq_true, if_true]
  have hby : (a0.toList == b0.toList) = decide (a0 = b0) := by
    rw [Bool.eq_iff_iff]
    simp only [beq_iff_eq, decide_eq_true_eq]
    exact ⟨fun h => ba_inj h, fun h => by rw [h]⟩
  rw [hby]
  by_cases z0 : a0 = b0 <;> by_cases z1 : a1 = b1 <;> by_cases z2 : a2 = b2 <;> by_cases z3 : a3 = b3 ∧ a4 = b4 <;> simp [z0, z1, z2, z3]
theorem eqvA (a0 a1 a2 a3 a4 a5 a6 b0 b1 b2 b3 b4 b5 b6 : Int) (w : World) : (Op.equalIn 10000 69 (.agg #[.int .i64 a0, .int .i64 a1, .int .i64 a2, .int .i64 a3, .int .i64 a4, .int .i64 a5, .int .i64 a6]) (.agg #[.int .i64 b0, .int .i64 b1, .int .i64 b2, .int .i64 b3, .int .i64 b4, .int .i64 b5, .int .i64 b6])).run Try.prog w = .ok (decide (a0 = b0 ∧ a1 = b1 ∧ a2 = b2 ∧ a3 = b3 ∧ a4 = b4 ∧ a5 = b5 ∧ a6 = b6)) w := by
  have e : (Try.prog.fieldsOf 69).toList.map (fun f => (f.name, f.type, f.offset)) = [("Kind", 3, 0), ("Role", 3, 1), ("Give", 3, 2), ("To", 3, 3), ("Unit", 3, 4), ("Lot", 45, 5)] := by kernel_rfl
  obtain ⟨f0, f1, f2, f3, f4, f5, hf, ht0, ht1, ht2, ht3, ht4, ht5, ho0, ho1, ho2, ho3, ho4, ho5⟩ : ∃ f0 f1 f2 f3 f4 f5, (Try.prog.fieldsOf 69).toList = [f0, f1, f2, f3, f4, f5] ∧ f0.type = 3 ∧ f1.type = 3 ∧ f2.type = 3 ∧ f3.type = 3 ∧ f4.type = 3 ∧ f5.type = 45 ∧ f0.offset = 0 ∧ f1.offset = 1 ∧ f2.offset = 2 ∧ f3.offset = 3 ∧ f4.offset = 4 ∧ f5.offset = 5 := by
    have hl := congrArg List.length e
    match hq : (Try.prog.fieldsOf 69).toList with
    | [f0, f1, f2, f3, f4, f5] =>
      rw [hq] at e
      simp only [List.map_cons, List.map_nil, List.cons.injEq, Prod.mk.injEq, and_true] at e
      obtain ⟨⟨_, a0, b0⟩, ⟨_, a1, b1⟩, ⟨_, a2, b2⟩, ⟨_, a3, b3⟩, ⟨_, a4, b4⟩, ⟨_, a5, b5⟩⟩ := e
      exact ⟨f0, f1, f2, f3, f4, f5, rfl, a0, a1, a2, a3, a4, a5, b0, b1, b2, b3, b4, b5⟩
    | [] => rw [hq] at hl; simp at hl
    | [f0] => rw [hq] at hl; simp at hl
    | [f0, f1] => rw [hq] at hl; simp at hl
    | [f0, f1, f2] => rw [hq] at hl; simp at hl
    | [f0, f1, f2, f3] => rw [hq] at hl; simp at hl
    | [f0, f1, f2, f3, f4] => rw [hq] at hl; simp at hl
    | f0 :: f1 :: f2 :: f3 :: f4 :: f5 :: g :: r => rw [hq] at hl; simp at hl
  have hb : ∀ f ∈ [f0, f1, f2, f3, f4, f5], (f.name == "_") = false := by
    have e2 : (Try.prog.fieldsOf 69).toList.all (fun f => !(f.name == "_")) = true := by kernel_rfl
    rw [hf] at e2
    intro f hf2
    have := List.all_eq_true.1 e2 f hf2
    simpa using this
  have p0 : (part 3 #[.int .i64 a0, .int .i64 a1, .int .i64 a2, .int .i64 a3, .int .i64 a4, .int .i64 a5, .int .i64 a6] 0).run Try.prog w = .ok (.int .i64 a0) w := by kernel_rfl
  have r0 : (part 3 #[.int .i64 b0, .int .i64 b1, .int .i64 b2, .int .i64 b3, .int .i64 b4, .int .i64 b5, .int .i64 b6] 0).run Try.prog w = .ok (.int .i64 b0) w := by kernel_rfl
  have n0 : f0.name ≠ "_" := by simpa using hb f0 (by simp)
  have q0 : (Op.equalIn 9999 3 (.int .i64 a0) (.int .i64 b0)).run Try.prog w = .ok (a0 == b0) w := run_equalIn_int w 9998 3 .i64 .i64 _ _ Try.underlying3
  have p1 : (part 3 #[.int .i64 a0, .int .i64 a1, .int .i64 a2, .int .i64 a3, .int .i64 a4, .int .i64 a5, .int .i64 a6] 1).run Try.prog w = .ok (.int .i64 a1) w := by kernel_rfl
  have r1 : (part 3 #[.int .i64 b0, .int .i64 b1, .int .i64 b2, .int .i64 b3, .int .i64 b4, .int .i64 b5, .int .i64 b6] 1).run Try.prog w = .ok (.int .i64 b1) w := by kernel_rfl
  have n1 : f1.name ≠ "_" := by simpa using hb f1 (by simp)
  have q1 : (Op.equalIn 9999 3 (.int .i64 a1) (.int .i64 b1)).run Try.prog w = .ok (a1 == b1) w := run_equalIn_int w 9998 3 .i64 .i64 _ _ Try.underlying3
  have p2 : (part 3 #[.int .i64 a0, .int .i64 a1, .int .i64 a2, .int .i64 a3, .int .i64 a4, .int .i64 a5, .int .i64 a6] 2).run Try.prog w = .ok (.int .i64 a2) w := by kernel_rfl
  have r2 : (part 3 #[.int .i64 b0, .int .i64 b1, .int .i64 b2, .int .i64 b3, .int .i64 b4, .int .i64 b5, .int .i64 b6] 2).run Try.prog w = .ok (.int .i64 b2) w := by kernel_rfl
  have n2 : f2.name ≠ "_" := by simpa using hb f2 (by simp)
  have q2 : (Op.equalIn 9999 3 (.int .i64 a2) (.int .i64 b2)).run Try.prog w = .ok (a2 == b2) w := run_equalIn_int w 9998 3 .i64 .i64 _ _ Try.underlying3
  have p3 : (part 3 #[.int .i64 a0, .int .i64 a1, .int .i64 a2, .int .i64 a3, .int .i64 a4, .int .i64 a5, .int .i64 a6] 3).run Try.prog w = .ok (.int .i64 a3) w := by kernel_rfl
  have r3 : (part 3 #[.int .i64 b0, .int .i64 b1, .int .i64 b2, .int .i64 b3, .int .i64 b4, .int .i64 b5, .int .i64 b6] 3).run Try.prog w = .ok (.int .i64 b3) w := by kernel_rfl
  have n3 : f3.name ≠ "_" := by simpa using hb f3 (by simp)
  have q3 : (Op.equalIn 9999 3 (.int .i64 a3) (.int .i64 b3)).run Try.prog w = .ok (a3 == b3) w := run_equalIn_int w 9998 3 .i64 .i64 _ _ Try.underlying3
  have p4 : (part 3 #[.int .i64 a0, .int .i64 a1, .int .i64 a2, .int .i64 a3, .int .i64 a4, .int .i64 a5, .int .i64 a6] 4).run Try.prog w = .ok (.int .i64 a4) w := by kernel_rfl
  have r4 : (part 3 #[.int .i64 b0, .int .i64 b1, .int .i64 b2, .int .i64 b3, .int .i64 b4, .int .i64 b5, .int .i64 b6] 4).run Try.prog w = .ok (.int .i64 b4) w := by kernel_rfl
  have n4 : f4.name ≠ "_" := by simpa using hb f4 (by simp)
  have q4 : (Op.equalIn 9999 3 (.int .i64 a4) (.int .i64 b4)).run Try.prog w = .ok (a4 == b4) w := run_equalIn_int w 9998 3 .i64 .i64 _ _ Try.underlying3
  have p5 : (part 45 #[.int .i64 a0, .int .i64 a1, .int .i64 a2, .int .i64 a3, .int .i64 a4, .int .i64 a5, .int .i64 a6] 5).run Try.prog w = .ok (.agg #[.int .i64 a5, .int .i64 a6]) w := by kernel_rfl
  have r5 : (part 45 #[.int .i64 b0, .int .i64 b1, .int .i64 b2, .int .i64 b3, .int .i64 b4, .int .i64 b5, .int .i64 b6] 5).run Try.prog w = .ok (.agg #[.int .i64 b5, .int .i64 b6]) w := by kernel_rfl
  have n5 : f5.name ≠ "_" := by simpa using hb f5 (by simp)
  have q5 : (Op.equalIn 9999 45 (.agg #[.int .i64 a5, .int .i64 a6]) (.agg #[.int .i64 b5, .int .i64 b6])).run Try.prog w = .ok (decide (a5 = b5 ∧ a6 = b6)) w := eqvR 9997 a5 a6 b5 b6 w
  show (Op.equalIn (9998 + 1 + 1) _ _ _).run _ _ = _
  rw [run_equalIn_agg w (9998 + 1) 69 _ _ (by kernel_rfl) (by kernel_rfl), hf]
  simp only [Op.eqFields, Sem.run_bind, ht0, ho0, p0, r0, ht1, ho1, p1, r1, ht2, ho2, p2, r2, ht3, ho3, p3, r3, ht4, ho4, p4, r4, ht5, ho5, p5, r5, q0, q1, q2, q3, q4, q5, Result.andThen_ok, ne_eq, Sem.run_ite, Sem.run_pure, n0, n1, n2, n3, n4, n5, not_false_eq_true, if_true]
  by_cases z0 : a0 = b0 <;> by_cases z1 : a1 = b1 <;> by_cases z2 : a2 = b2 <;> by_cases z3 : a3 = b3 <;> by_cases z4 : a4 = b4 <;> by_cases z5 : a5 = b5 ∧ a6 = b6 <;> simp [z0, z1, z2, z3, z4, z5]
end Go.Proofs.Ytcplneglfbdooaa
