/- Contracts of functions and plain laws, joined: Fc5. -/
import Derived.Test.YtemkghgcdpmlbaaDoorMb15
/- What the laws on files call: has, ordered, contains, Same, Small. -/
namespace Go.Proofs.YtemkghgcdpmlbaaDoor
open Go.RowKit Go.Sort

theorem eqvF (x y : Fac) (w : World) : (Op.equalIn 10000 33 (.agg #[.int .i64 x.ref, .int .i64 x.act, .int .i64 x.low, .int .i64 x.high, .int .i64 x.filed, .bool x.sec]) (.agg #[.int .i64 y.ref, .int .i64 y.act, .int .i64 y.low, .int .i64 y.high, .int .i64 y.filed, .bool y.sec])).run Tryd.prog w = .ok (decide (x = y)) w := by
  have e : (Tryd.prog.fieldsOf 33).toList = [{ name := "Ref", type := 3, offset := 0, embedded := false, tag := "", pkgPath := "", byteOffset := 0 }, { name := "Act", type := 3, offset := 1, embedded := false, tag := "", pkgPath := "", byteOffset := 8 }, { name := "Low", type := 3, offset := 2, embedded := false, tag := "", pkgPath := "", byteOffset := 16 }, { name := "High", type := 3, offset := 3, embedded := false, tag := "", pkgPath := "", byteOffset := 24 }, { name := "Filed", type := 3, offset := 4, embedded := false, tag := "", pkgPath := "", byteOffset := 32 }, { name := "Secret", type := 4, offset := 5, embedded := false, tag := "", pkgPath := "", byteOffset := 40 }] := by kernel_rfl
  have px0 : (part 3 #[.int .i64 x.ref, .int .i64 x.act, .int .i64 x.low, .int .i64 x.high, .int .i64 x.filed, .bool x.sec] 0).run Tryd.prog w = .ok (.int .i64 x.ref) w := by kernel_rfl
  have px1 : (part 3 #[.int .i64 x.ref, .int .i64 x.act, .int .i64 x.low, .int .i64 x.high, .int .i64 x.filed, .bool x.sec] 1).run Tryd.prog w = .ok (.int .i64 x.act) w := by kernel_rfl
  have px2 : (part 3 #[.int .i64 x.ref, .int .i64 x.act, .int .i64 x.low, .int .i64 x.high, .int .i64 x.filed, .bool x.sec] 2).run Tryd.prog w = .ok (.int .i64 x.low) w := by kernel_rfl
  have px3 : (part 3 #[.int .i64 x.ref, .int .i64 x.act, .int .i64 x.low, .int .i64 x.high, .int .i64 x.filed, .bool x.sec] 3).run Tryd.prog w = .ok (.int .i64 x.high) w := by kernel_rfl
  have px4 : (part 3 #[.int .i64 x.ref, .int .i64 x.act, .int .i64 x.low, .int .i64 x.high, .int .i64 x.filed, .bool x.sec] 4).run Tryd.prog w = .ok (.int .i64 x.filed) w := by kernel_rfl
  have px5 : (part 4 #[.int .i64 x.ref, .int .i64 x.act, .int .i64 x.low, .int .i64 x.high, .int .i64 x.filed, .bool x.sec] 5).run Tryd.prog w = .ok (.bool x.sec) w := by kernel_rfl
  have py0 : (part 3 #[.int .i64 y.ref, .int .i64 y.act, .int .i64 y.low, .int .i64 y.high, .int .i64 y.filed, .bool y.sec] 0).run Tryd.prog w = .ok (.int .i64 y.ref) w := by kernel_rfl
  have py1 : (part 3 #[.int .i64 y.ref, .int .i64 y.act, .int .i64 y.low, .int .i64 y.high, .int .i64 y.filed, .bool y.sec] 1).run Tryd.prog w = .ok (.int .i64 y.act) w := by kernel_rfl
  have py2 : (part 3 #[.int .i64 y.ref, .int .i64 y.act, .int .i64 y.low, .int .i64 y.high, .int .i64 y.filed, .bool y.sec] 2).run Tryd.prog w = .ok (.int .i64 y.low) w := by kernel_rfl
  have py3 : (part 3 #[.int .i64 y.ref, .int .i64 y.act, .int .i64 y.low, .int .i64 y.high, .int .i64 y.filed, .bool y.sec] 3).run Tryd.prog w = .ok (.int .i64 y.high) w := by kernel_rfl
  have py4 : (part 3 #[.int .i64 y.ref, .int .i64 y.act, .int .i64 y.low, .int .i64 y.high, .int .i64 y.filed, .bool y.sec] 4).run Tryd.prog w = .ok (.int .i64 y.filed) w := by kernel_rfl
  have py5 : (part 4 #[.int .i64 y.ref, .int .i64 y.act, .int .i64 y.low, .int .i64 y.high, .int .i64 y.filed, .bool y.sec] 5).run Tryd.prog w = .ok (.bool y.sec) w := by kernel_rfl
  have u := Tryd.underlying3
  have v := Tryd.underlying4
  show (Op.equalIn (9998 + 1 + 1) _ _ _).run _ _ = _
  rw [run_equalIn_agg w (9998 + 1) 33 _ _ (by kernel_rfl) (by kernel_rfl), e]
  simp only [Op.eqFields, Sem.run_bind, px0, px1, px2, px3, px4, px5, py0, py1, py2, py3, py4, py5, Result.andThen_ok, run_equalIn_int w 9998 3 .i64 .i64 _ _ u, run_equalIn_bool' w 9998 4 _ _ v, ne_eq, Sem.run_ite, Sem.run_pure]
  have he : (x = y) ↔ (x.ref = y.ref ∧ x.act = y.act ∧ x.low = y.low ∧ x.high = y.high ∧ x.filed = y.filed ∧ x.sec = y.sec) := by
    constructor
    · rintro rfl; simp
    · intro h
      cases x; cases y; simp_all
  rw [show decide (x = y) = decide (x.ref = y.ref ∧ x.act = y.act ∧ x.low = y.low ∧ x.high = y.high ∧ x.filed = y.filed ∧ x.sec = y.sec) from decide_eq_decide.2 he]
  by_cases h0 : x.ref = y.ref <;> by_cases h1 : x.act = y.act <;> by_cases h2 : x.low = y.low <;> by_cases h3 : x.high = y.high <;> by_cases h4 : x.filed = y.filed <;> by_cases h5 : x.sec = y.sec <;> simp [h0, h1, h2, h3, h4, h5]
theorem eqvB (x y : Int × Int) (w : World) : (Op.equalIn 10000 35 (.agg #[.int .i64 x.1, .int .i64 x.2]) (.agg #[.int .i64 y.1, .int .i64 y.2])).run Tryd.prog w = .ok (decide (x = y)) w := by
  have e : (Tryd.prog.fieldsOf 35).toList = [{ name := "Ref", type := 3, offset := 0, embedded := false, tag := "", pkgPath := "", byteOffset := 0 }, { name := "Next", type := 3, offset := 1, embedded := false, tag := "", pkgPath := "", byteOffset := 8 }] := by kernel_rfl
  have px0 : (part 3 #[.int .i64 x.1, .int .i64 x.2] 0).run Tryd.prog w = .ok (.int .i64 x.1) w := by kernel_rfl
  have px1 : (part 3 #[.int .i64 x.1, .int .i64 x.2] 1).run Tryd.prog w = .ok (.int .i64 x.2) w := by kernel_rfl
  have py0 : (part 3 #[.int .i64 y.1, .int .i64 y.2] 0).run Tryd.prog w = .ok (.int .i64 y.1) w := by kernel_rfl
  have py1 : (part 3 #[.int .i64 y.1, .int .i64 y.2] 1).run Tryd.prog w = .ok (.int .i64 y.2) w := by kernel_rfl
  have u := Tryd.underlying3
  show (Op.equalIn (9998 + 1 + 1) _ _ _).run _ _ = _
  rw [run_equalIn_agg w (9998 + 1) 35 _ _ (by kernel_rfl) (by kernel_rfl), e]
  simp only [Op.eqFields, Sem.run_bind, px0, px1, py0, py1, Result.andThen_ok, run_equalIn_int w 9998 3 .i64 .i64 _ _ u, ne_eq, Sem.run_ite, Sem.run_pure]
  have he : (x = y) ↔ (x.1 = y.1 ∧ x.2 = y.2) := by
    constructor
    · rintro rfl; simp
    · intro h
      exact Prod.ext h.1 h.2
  rw [show decide (x = y) = decide (x.1 = y.1 ∧ x.2 = y.2) from decide_eq_decide.2 he]
  by_cases h0 : x.1 = y.1 <;> by_cases h1 : x.2 = y.2 <;> simp [h0, h1]
set_option maxRecDepth 100000 in
set_option maxHeartbeats 3200000 in
theorem has_any (f : Fil) (k : Fm) (x : Fac) (w : World) (hk : Filt w f k) :
    Calls Tryd.prog 15 #[.agg (flA f k), .agg (fA x)] w fun e w' => e = .returned (.bool (decide (x ∈ f.facts))) ∧ Below w.heap.size w w' := by
  obtain ⟨R, hR⟩ : ∃ R, decide (x ∈ f.facts) = R := ⟨_, rfl⟩
  rw [hR]
  have HR := Lib.hid hR
  have HS := Lib.hid hk.sf
  have nf := hk.nf
  clear hR hk
  go_enter Tryd.func15, Tryd.ntmps15
  go_upto_region 1 with (fail)
  refine name_wp ?_
  intro X hX
  have gbf : Blk X w.heap.size 31 (flA f k) := by rw [hX]; exact (blk_at (by simp)).alloc _
  have gbx : Blk X (w.heap.size + 1) 33 (fA x) := by rw [hX]; exact blk_at (by simp)
  have HB : Below w.heap.size w X := by rw [hX]; (repeat (first | with_reducible assumption | with_reducible exact Below.refl _ _ | with_reducible refine below_drewN ?_ _ | with_reducible refine Below.drew ?_ | with_reducible refine below_alloc ?_ _ | with_reducible refine Below.setCell ?_ (by first | omega | (simp; done) | (simp; omega)) _ | with_reducible refine below_then ?_ (by with_reducible assumption) | (refine below_then (a := World.drew _) ?_ (by with_reducible assumption))))
  clear hX
  obtain ⟨bx, ebx⟩ : ∃ b, w.heap.size + 1 = b := ⟨_, rfl⟩
  obtain ⟨bf, ebf⟩ : ∃ b, w.heap.size = b := ⟨_, rfl⟩
  have lbf : w.heap.size ≤ bf := by omega
  have lbx : w.heap.size ≤ bx := by omega
  have nbfbx : bf ≠ bx := by omega
  rw [ebx] at gbx ⊢
  rw [ebf] at gbf ⊢
  clear ebf ebx
  have HBX := Lib.hid HB
  clear HB
  go_upto_region 2 with (fail)
  go_loopw [5] (fun y WR => ∃ (i : Nat), i ≤ f.facts.length ∧ y = .int .i64 i ∧ Hid (∀ j y, j < i → f.facts[j]? = some y → y ≠ x) ∧ Hid (Below X.heap.size X WR)) (fun y _ => 2000000 - (intOf y).toNat)
  case atStart => exact ⟨0, by omega, rfl, fun j y hj => absurd hj (by omega), Below.refl _ _⟩
  case round =>
    obtain ⟨i, hi', rfl, hpre, hB⟩ := hrel
    have gf2 := gbf.then_ hB.out
    have gx2 := gbx.then_ hB.out
    have f0 : wr.cell? ⟨bf, 0, none⟩ = some (.int .i64 f.house) := (gf2).cell 0
    have f1 : wr.cell? ⟨bf, 1, none⟩ = some (.slice k.f f.facts.length k.fc) := (gf2).cell 1
    have f2 : wr.cell? ⟨bf, 2, none⟩ = some (.slice k.o f.ords.length k.oc) := (gf2).cell 2
    have x0 : wr.cell? ⟨bx, 0, none⟩ = some (.int .i64 x.ref) := (gx2).cell 0
    have x1 : wr.cell? ⟨bx, 1, none⟩ = some (.int .i64 x.act) := (gx2).cell 1
    have x2 : wr.cell? ⟨bx, 2, none⟩ = some (.int .i64 x.low) := (gx2).cell 2
    have x3 : wr.cell? ⟨bx, 3, none⟩ = some (.int .i64 x.high) := (gx2).cell 3
    have x4 : wr.cell? ⟨bx, 4, none⟩ = some (.int .i64 x.filed) := (gx2).cell 4
    have x5 : wr.cell? ⟨bx, 5, none⟩ = some (.bool x.sec) := (gx2).cell 5
    by_cases hlt : i < f.facts.length
    case neg =>
      have hf : Hid (R = false) := by
        unfold Hid
        rw [← HR.out]
        refine decide_eq_false fun h => ?_
        obtain ⟨j, hj, e⟩ := List.getElem_of_mem h
        exact hpre.out j _ (by omega) (List.getElem?_eq_getElem hj) e
      have tl : decide ((i : Int) < (f.facts.length : Int)) = false := decide_eq_false (by omega)
      go_wp2
      go_ret
      exact ⟨ret_bool hf.out.symm, below_then HBX.out hB.out⟩
    obtain ⟨y, hy⟩ : ∃ y, f.facts[i]? = some y := ⟨_, List.getElem?_eq_getElem hlt⟩
    obtain ⟨b0, o0, e0, hb0, hc0⟩ := segAt (((HS.out.below HBX.out).more HBX.out.size).below hB.out) hy
    have hix := fun W => idx_at (t := 28) (size := 6) (cap := k.fc) (len := f.facts.length) e0 hlt (by kernel_rfl) (fun W => by kernel_rfl) W
    have y0 : wr.cell? ⟨b0, o0 + i * 6, none⟩ = some (.int .i64 y.ref) := hc0 0 _ rfl
    have y1 : wr.cell? ⟨b0, o0 + i * 6 + 1, none⟩ = some (.int .i64 y.act) := hc0 1 _ rfl
    have y2 : wr.cell? ⟨b0, o0 + i * 6 + 2, none⟩ = some (.int .i64 y.low) := hc0 2 _ rfl
    have y3 : wr.cell? ⟨b0, o0 + i * 6 + 3, none⟩ = some (.int .i64 y.high) := hc0 3 _ rfl
    have y4 : wr.cell? ⟨b0, o0 + i * 6 + 4, none⟩ = some (.int .i64 y.filed) := hc0 4 _ rfl
    have y5 : wr.cell? ⟨b0, o0 + i * 6 + 5, none⟩ = some (.bool y.sec) := hc0 5 _ rfl
    have HY := Lib.hid hy
    have tl : decide ((i : Int) < (f.facts.length : Int)) = true := decide_eq_true (by omega)
    have heq := fun W => eqvF y x W
    obtain ⟨v, ev⟩ : ∃ v, decide (y = x) = v := ⟨_, rfl⟩
    simp only [ev] at heq
    have HEV := Lib.hid ev
    clear hy hc0 e0 ev
    go_upto_region 4 with (fail)
    clear tl
    cases v with
    | true =>
      have hf : Hid (R = true) := by unfold Hid; rw [← HR.out]; exact decide_eq_true (of_decide_eq_true HEV.out ▸ List.mem_of_getElem? HY.out)
      have rg0 := cell_regrown f1
      have rg1 := cell_regrown x0
      have rg2 := cell_regrown x1
      have rg3 := cell_regrown x2
      have rg4 := cell_regrown x3
      have rg5 := cell_regrown x4
      have rg6 := cell_regrown x5
      have rg7 := cell_regrown y0
      have rg8 := cell_regrown y1
      have rg9 := cell_regrown y2
      have rg10 := cell_regrown y3
      have rg11 := cell_regrown y4
      have rg12 := cell_regrown y5
      refine wp_region_qt [0, 1, 2, 3, 4, 5, 6] [] (by kernel_rfl) (by kernel_rfl) (by repeat (first | with_reducible refine panOk_then ?_ | with_reducible refine panOk_block ?_ | exact panOk_body)) ?_
      simp only [opsAt, List.getElem?_toArray, List.getElem?_cons_succ, List.getElem?_cons_zero, Option.toList_some, List.cons_append, List.nil_append]
      repeat (go_big_quiet_step (fail))
      refine wpQuiet_nil ?_
      intro Y hw2
      have hbY := qt_world hw2
      clear hw2 rg0 rg1 rg2 rg3 rg4 rg5 rg6 rg7 rg8 rg9 rg10 rg11 rg12
      refine wpList_done ?_
      go_wp2
      go_ret
      exact ⟨ret_bool hf.out.symm, below_then HBX.out (below_then hB.out hbY)⟩
    | false =>
      have hp2 : Hid (∀ j y, j < i + 1 → f.facts[j]? = some y → y ≠ x) := by
        intro j z hj hz
        by_cases e : j = i
        · subst e
          have h5 := HY.out.symm.trans hz
          cases h5
          exact of_decide_eq_false HEV.out
        · exact hpre.out j z (by omega) hz
      have rg0 := cell_regrown f1
      have rg1 := cell_regrown x0
      have rg2 := cell_regrown x1
      have rg3 := cell_regrown x2
      have rg4 := cell_regrown x3
      have rg5 := cell_regrown x4
      have rg6 := cell_regrown x5
      have rg7 := cell_regrown y0
      have rg8 := cell_regrown y1
      have rg9 := cell_regrown y2
      have rg10 := cell_regrown y3
      have rg11 := cell_regrown y4
      have rg12 := cell_regrown y5
      refine wp_region_qt [0, 1, 2, 3, 4, 5, 6] [] (by kernel_rfl) (by kernel_rfl) (by repeat (first | with_reducible refine panOk_then ?_ | with_reducible refine panOk_block ?_ | exact panOk_body)) ?_
      simp only [opsAt, List.getElem?_toArray, List.getElem?_cons_succ, List.getElem?_cons_zero, Option.toList_some, List.cons_append, List.nil_append]
      repeat (go_big_quiet_step (fail))
      refine wpQuiet_nil ?_
      intro Y hw2
      have hbY := qt_world hw2
      clear hw2 rg0 rg1 rg2 rg3 rg4 rg5 rg6 rg7 rg8 rg9 rg10 rg11 rg12
      refine wpList_done ?_
      go_wp2
      go_roundw
      case rel => exact ⟨i + 1, by omega, by simp, hp2, below_then hB.out hbY⟩
      case measure => simp [intOf]; omega
set_option maxRecDepth 100000 in
set_option maxHeartbeats 3200000 in
theorem ordered_any (f : Fil) (k : Fm) (x : Int × Int) (w : World) (hk : Filt w f k) :
    Calls Tryd.prog 16 #[.agg (flA f k), .agg (bA x)] w fun e w' => e = .returned (.bool (decide (x ∈ f.ords))) ∧ Below w.heap.size w w' := by
  obtain ⟨R, hR⟩ : ∃ R, decide (x ∈ f.ords) = R := ⟨_, rfl⟩
  rw [hR]
  have HR := Lib.hid hR
  have HS := Lib.hid hk.so
  have nf := hk.no
  clear hR hk
  go_enter Tryd.func16, Tryd.ntmps16
  go_upto_region 1 with (fail)
  refine name_wp ?_
  intro X hX
  have gbf : Blk X w.heap.size 31 (flA f k) := by rw [hX]; exact (blk_at (by simp)).alloc _
  have gbx : Blk X (w.heap.size + 1) 35 (bA x) := by rw [hX]; exact blk_at (by simp)
  have HB : Below w.heap.size w X := by rw [hX]; (repeat (first | with_reducible assumption | with_reducible exact Below.refl _ _ | with_reducible refine below_drewN ?_ _ | with_reducible refine Below.drew ?_ | with_reducible refine below_alloc ?_ _ | with_reducible refine Below.setCell ?_ (by first | omega | (simp; done) | (simp; omega)) _ | with_reducible refine below_then ?_ (by with_reducible assumption) | (refine below_then (a := World.drew _) ?_ (by with_reducible assumption))))
  clear hX
  obtain ⟨bx, ebx⟩ : ∃ b, w.heap.size + 1 = b := ⟨_, rfl⟩
  obtain ⟨bf, ebf⟩ : ∃ b, w.heap.size = b := ⟨_, rfl⟩
  have lbf : w.heap.size ≤ bf := by omega
  have lbx : w.heap.size ≤ bx := by omega
  have nbfbx : bf ≠ bx := by omega
  rw [ebx] at gbx ⊢
  rw [ebf] at gbf ⊢
  clear ebf ebx
  have HBX := Lib.hid HB
  clear HB
  go_upto_region 2 with (fail)
  go_loopw [5] (fun y WR => ∃ (i : Nat), i ≤ f.ords.length ∧ y = .int .i64 i ∧ Hid (∀ j y, j < i → f.ords[j]? = some y → y ≠ x) ∧ Hid (Below X.heap.size X WR)) (fun y _ => 2000000 - (intOf y).toNat)
  case atStart => exact ⟨0, by omega, rfl, fun j y hj => absurd hj (by omega), Below.refl _ _⟩
  case round =>
    obtain ⟨i, hi', rfl, hpre, hB⟩ := hrel
    have gf2 := gbf.then_ hB.out
    have gx2 := gbx.then_ hB.out
    have f0 : wr.cell? ⟨bf, 0, none⟩ = some (.int .i64 f.house) := (gf2).cell 0
    have f1 : wr.cell? ⟨bf, 1, none⟩ = some (.slice k.f f.facts.length k.fc) := (gf2).cell 1
    have f2 : wr.cell? ⟨bf, 2, none⟩ = some (.slice k.o f.ords.length k.oc) := (gf2).cell 2
    have x0 : wr.cell? ⟨bx, 0, none⟩ = some (.int .i64 x.1) := (gx2).cell 0
    have x1 : wr.cell? ⟨bx, 1, none⟩ = some (.int .i64 x.2) := (gx2).cell 1
    by_cases hlt : i < f.ords.length
    case neg =>
      have hf : Hid (R = false) := by
        unfold Hid
        rw [← HR.out]
        refine decide_eq_false fun h => ?_
        obtain ⟨j, hj, e⟩ := List.getElem_of_mem h
        exact hpre.out j _ (by omega) (List.getElem?_eq_getElem hj) e
      have tl : decide ((i : Int) < (f.ords.length : Int)) = false := decide_eq_false (by omega)
      go_wp2
      go_ret
      exact ⟨ret_bool hf.out.symm, below_then HBX.out hB.out⟩
    obtain ⟨y, hy⟩ : ∃ y, f.ords[i]? = some y := ⟨_, List.getElem?_eq_getElem hlt⟩
    obtain ⟨b0, o0, e0, hb0, hc0⟩ := segAt (((HS.out.below HBX.out).more HBX.out.size).below hB.out) hy
    have hix := fun W => idx_at (t := 29) (size := 2) (cap := k.oc) (len := f.ords.length) e0 hlt (by kernel_rfl) (fun W => by kernel_rfl) W
    have y0 : wr.cell? ⟨b0, o0 + i * 2, none⟩ = some (.int .i64 y.1) := hc0 0 _ rfl
    have y1 : wr.cell? ⟨b0, o0 + i * 2 + 1, none⟩ = some (.int .i64 y.2) := hc0 1 _ rfl
    have HY := Lib.hid hy
    have tl : decide ((i : Int) < (f.ords.length : Int)) = true := decide_eq_true (by omega)
    have heq := fun W => eqvB y x W
    obtain ⟨v, ev⟩ : ∃ v, decide (y = x) = v := ⟨_, rfl⟩
    simp only [ev] at heq
    have HEV := Lib.hid ev
    clear hy hc0 e0 ev
    go_upto_region 4 with (fail)
    clear tl
    cases v with
    | true =>
      have hf : Hid (R = true) := by unfold Hid; rw [← HR.out]; exact decide_eq_true (of_decide_eq_true HEV.out ▸ List.mem_of_getElem? HY.out)
      have rg0 := cell_regrown f2
      have rg1 := cell_regrown x0
      have rg2 := cell_regrown x1
      have rg3 := cell_regrown y0
      have rg4 := cell_regrown y1
      refine wp_region_qt [0, 1, 2, 3, 4, 5, 6] [] (by kernel_rfl) (by kernel_rfl) (by repeat (first | with_reducible refine panOk_then ?_ | with_reducible refine panOk_block ?_ | exact panOk_body)) ?_
      simp only [opsAt, List.getElem?_toArray, List.getElem?_cons_succ, List.getElem?_cons_zero, Option.toList_some, List.cons_append, List.nil_append]
      repeat (go_big_quiet_step (fail))
      refine wpQuiet_nil ?_
      intro Y hw2
      have hbY := qt_world hw2
      clear hw2 rg0 rg1 rg2 rg3 rg4
      refine wpList_done ?_
      go_wp2
      go_ret
      exact ⟨ret_bool hf.out.symm, below_then HBX.out (below_then hB.out hbY)⟩
    | false =>
      have hp2 : Hid (∀ j y, j < i + 1 → f.ords[j]? = some y → y ≠ x) := by
        intro j z hj hz
        by_cases e : j = i
        · subst e
          have h5 := HY.out.symm.trans hz
          cases h5
          exact of_decide_eq_false HEV.out
        · exact hpre.out j z (by omega) hz
      have rg0 := cell_regrown f2
      have rg1 := cell_regrown x0
      have rg2 := cell_regrown x1
      have rg3 := cell_regrown y0
      have rg4 := cell_regrown y1
      refine wp_region_qt [0, 1, 2, 3, 4, 5, 6] [] (by kernel_rfl) (by kernel_rfl) (by repeat (first | with_reducible refine panOk_then ?_ | with_reducible refine panOk_block ?_ | exact panOk_body)) ?_
      simp only [opsAt, List.getElem?_toArray, List.getElem?_cons_succ, List.getElem?_cons_zero, Option.toList_some, List.cons_append, List.nil_append]
      repeat (go_big_quiet_step (fail))
      refine wpQuiet_nil ?_
      intro Y hw2
      have hbY := qt_world hw2
      clear hw2 rg0 rg1 rg2 rg3 rg4
      refine wpList_done ?_
      go_wp2
      go_roundw
      case rel => exact ⟨i + 1, by omega, by simp, hp2, below_then hB.out hbY⟩
      case measure => simp [intOf]; omega
set_option maxRecDepth 100000 in
set_option maxHeartbeats 3200000 in
theorem contains_any (f g : Fil) (k m : Fm) (w : World) (hk : Filt w f k) (hg : Filt w g m) :
    Calls Tryd.prog 14 #[.agg (flA f k), .agg (flA g m)] w fun e w' => e = .returned (.bool (f.has g)) ∧ Below w.heap.size w w' := by
  obtain ⟨R, hR⟩ : ∃ R, f.has g = R := ⟨_, rfl⟩
  rw [hR]
  have HR := Lib.hid hR
  have HSF := Lib.hid hg.sf
  have HSO := Lib.hid hg.so
  have nf := hg.nf
  have no := hg.no
  have HH := Lib.hid (fun x W (hb : Below w.heap.size w W) => has_any f k x W (hk.then_ hb))
  have HO := Lib.hid (fun x W (hb : Below w.heap.size w W) => ordered_any f k x W (hk.then_ hb))
  clear hR hk hg
  go_enter Tryd.func14, Tryd.ntmps14
  go_upto_region 1 with (fail)
  refine name_wp ?_
  intro X hX
  have gbf : Blk X w.heap.size 31 (flA f k) := by rw [hX]; exact (blk_at (by simp)).alloc _
  have gbg : Blk X (w.heap.size + 1) 31 (flA g m) := by rw [hX]; exact blk_at (by simp)
  have HB : Below w.heap.size w X := by rw [hX]; (repeat (first | with_reducible assumption | with_reducible exact Below.refl _ _ | with_reducible refine below_drewN ?_ _ | with_reducible refine Below.drew ?_ | with_reducible refine below_alloc ?_ _ | with_reducible refine Below.setCell ?_ (by first | omega | (simp; done) | (simp; omega)) _ | with_reducible refine below_then ?_ (by with_reducible assumption) | (refine below_then (a := World.drew _) ?_ (by with_reducible assumption))))
  clear hX
  obtain ⟨bg, ebg⟩ : ∃ b, w.heap.size + 1 = b := ⟨_, rfl⟩
  obtain ⟨bf, ebf⟩ : ∃ b, w.heap.size = b := ⟨_, rfl⟩
  have lbf : w.heap.size ≤ bf := by omega
  have lbg : w.heap.size ≤ bg := by omega
  have nbfbg : bf ≠ bg := by omega
  rw [ebg] at gbg ⊢
  rw [ebf] at gbf ⊢
  clear ebf ebg
  have HBX := Lib.hid HB
  clear HB
  go_upto_region 2 with (fail)
  go_loopw [5] (fun y WR => ∃ (i : Nat), i ≤ g.facts.length ∧ y = .int .i64 i ∧ Hid (∀ j y, j < i → g.facts[j]? = some y → y ∈ f.facts) ∧ Hid (Below X.heap.size X WR)) (fun y _ => 2000000 - (intOf y).toNat)
  case atStart => exact ⟨0, by omega, rfl, fun j y hj => absurd hj (by omega), Below.refl _ _⟩
  case round =>
    obtain ⟨i, hi', rfl, hpre, hB⟩ := hrel
    have gf2 := gbf.then_ hB.out
    have gg2 := gbg.then_ hB.out
    have f0 : wr.cell? ⟨bf, 0, none⟩ = some (.int .i64 f.house) := (gf2).cell 0
    have f1 : wr.cell? ⟨bf, 1, none⟩ = some (.slice k.f f.facts.length k.fc) := (gf2).cell 1
    have f2 : wr.cell? ⟨bf, 2, none⟩ = some (.slice k.o f.ords.length k.oc) := (gf2).cell 2
    have g0 : wr.cell? ⟨bg, 0, none⟩ = some (.int .i64 g.house) := (gg2).cell 0
    have g1 : wr.cell? ⟨bg, 1, none⟩ = some (.slice m.f g.facts.length m.fc) := (gg2).cell 1
    have g2 : wr.cell? ⟨bg, 2, none⟩ = some (.slice m.o g.ords.length m.oc) := (gg2).cell 2
    by_cases hlt : i < g.facts.length
    case neg =>
      have hfa : Hid (∀ x ∈ g.facts, x ∈ f.facts) := by
        intro b hb
        obtain ⟨j, hj, e⟩ := List.getElem_of_mem hb
        exact e ▸ hpre.out j _ (by omega) (List.getElem?_eq_getElem hj)
      have tl : decide ((i : Int) < (g.facts.length : Int)) = false := decide_eq_false (by omega)
      have HBW := Lib.hid (below_then HBX.out hB.out)
      clear hpre hB HBX gbf gbg
      obtain ⟨wo, rfl⟩ : ∃ wo : World, wo = wr := ⟨_, rfl⟩
      have gwf := gf2
      have gwg := gg2
      clear gf2 gg2
      go_upto_region 7 with (fail)
      clear tl f0 f1 f2 g0 g1 g2 hi' hlt
      go_loopw [6] (fun y WR => ∃ (i : Nat), i ≤ g.ords.length ∧ y = .int .i64 i ∧ Hid (∀ j y, j < i → g.ords[j]? = some y → y ∈ f.ords) ∧ Hid (Below wo.heap.size wo WR)) (fun y _ => 2000000 - (intOf y).toNat)
      case atStart => exact ⟨0, by omega, rfl, fun j y hj => absurd hj (by omega), Below.refl _ _⟩
      case round =>
        obtain ⟨i, hi', rfl, hpre, hB⟩ := hrel
        have gf2 := gwf.then_ hB.out
        have gg2 := gwg.then_ hB.out
        have f0 : wr.cell? ⟨bf, 0, none⟩ = some (.int .i64 f.house) := (gf2).cell 0
        have f1 : wr.cell? ⟨bf, 1, none⟩ = some (.slice k.f f.facts.length k.fc) := (gf2).cell 1
        have f2 : wr.cell? ⟨bf, 2, none⟩ = some (.slice k.o f.ords.length k.oc) := (gf2).cell 2
        have g0 : wr.cell? ⟨bg, 0, none⟩ = some (.int .i64 g.house) := (gg2).cell 0
        have g1 : wr.cell? ⟨bg, 1, none⟩ = some (.slice m.f g.facts.length m.fc) := (gg2).cell 1
        have g2 : wr.cell? ⟨bg, 2, none⟩ = some (.slice m.o g.ords.length m.oc) := (gg2).cell 2
        by_cases hlt : i < g.ords.length
        case neg =>
          have ho : Hid (∀ b ∈ g.ords, b ∈ f.ords) := by
            intro b hb
            obtain ⟨j, hj, e⟩ := List.getElem_of_mem hb
            exact e ▸ hpre.out j _ (by omega) (List.getElem?_eq_getElem hj)
          have tl : decide ((i : Int) < (g.ords.length : Int)) = false := decide_eq_false (by omega)
          have hr : Hid (R = (f.house == g.house)) := by
            unfold Hid
            rw [Bool.eq_iff_iff, ← HR.out, has_iff, beq_iff_eq]
            exact ⟨fun h => h.2.2, fun h => ⟨hfa.out, ho.out, h⟩⟩
          go_wp2
          go_ret
          exact ⟨ret_bool hr.out.symm, below_then HBW.out hB.out⟩
        obtain ⟨y, hy⟩ : ∃ y, g.ords[i]? = some y := ⟨_, List.getElem?_eq_getElem hlt⟩
        obtain ⟨b0, o0, e0, hb0, hc0⟩ := segAt (((HSO.out.below HBW.out).more HBW.out.size).below hB.out) hy
        have hix := fun W => idx_at (t := 29) (size := 2) (cap := m.oc) (len := g.ords.length) e0 hlt (by kernel_rfl) (fun W => by kernel_rfl) W
        have y0 : wr.cell? ⟨b0, o0 + i * 2, none⟩ = some (.int .i64 y.1) := hc0 0 _ rfl
        have y1 : wr.cell? ⟨b0, o0 + i * 2 + 1, none⟩ = some (.int .i64 y.2) := hc0 1 _ rfl
        have HY := Lib.hid hy
        have tl : decide ((i : Int) < (g.ords.length : Int)) = true := decide_eq_true (by omega)
        obtain ⟨v, ev⟩ : ∃ v, decide (y ∈ f.ords) = v := ⟨_, rfl⟩
        have HHX := Lib.hid (fun W (hb : Below wr.heap.size wr W) => HO.out y W (below_then HBW.out (below_then hB.out hb)))
        rw [ev] at HHX
        have HEV := Lib.hid ev
        clear hy hc0 e0 ev
        go_upto_region 9 with (fail)
        clear tl
        cases v with
        | false =>
          have hf : Hid (R = false) := by
            unfold Hid
            cases hRR : R with
            | false => rfl
            | true =>
              have := has_iff.1 (HR.out.trans hRR)
              exact absurd (this.2.1 y (List.mem_of_getElem? HY.out)) (of_decide_eq_false HEV.out)
          have rg0 := cell_regrown f0
          have rg1 := cell_regrown f1
          have rg2 := cell_regrown f2
          have rg3 := cell_regrown g2
          have rg4 := cell_regrown y0
          have rg5 := cell_regrown y1
          refine wp_region_qt [0, 1, 2, 3, 4, 5, 6, 7] [] (by kernel_rfl) (by kernel_rfl) (by repeat (first | with_reducible refine panOk_then ?_ | with_reducible refine panOk_block ?_ | exact panOk_body)) ?_
          simp only [opsAt, List.getElem?_toArray, List.getElem?_cons_succ, List.getElem?_cons_zero, Option.toList_some, List.cons_append, List.nil_append]
          repeat (go_big_quiet_step ((go_at_call 16; with_reducible exact qt_call (fun W' hW => HHX.out W' hW) _ _)))
          refine wpQuiet_nil ?_
          intro Y hw2
          have hbY := qt_world hw2
          clear hw2 rg0 rg1 rg2 rg3 rg4 rg5
          refine wpList_done ?_
          go_wp2
          go_ret
          exact ⟨ret_bool hf.out.symm, below_then HBW.out (below_then hB.out hbY)⟩
        | true =>
          have hp2 : Hid (∀ j y, j < i + 1 → g.ords[j]? = some y → y ∈ f.ords) := by
            intro j z hj hz
            by_cases e : j = i
            · subst e
              have h5 := HY.out.symm.trans hz
              cases h5
              exact of_decide_eq_true HEV.out
            · exact hpre.out j z (by omega) hz
          have rg0 := cell_regrown f0
          have rg1 := cell_regrown f1
          have rg2 := cell_regrown f2
          have rg3 := cell_regrown g2
          have rg4 := cell_regrown y0
          have rg5 := cell_regrown y1
          refine wp_region_qt [0, 1, 2, 3, 4, 5, 6, 7] [] (by kernel_rfl) (by kernel_rfl) (by repeat (first | with_reducible refine panOk_then ?_ | with_reducible refine panOk_block ?_ | exact panOk_body)) ?_
          simp only [opsAt, List.getElem?_toArray, List.getElem?_cons_succ, List.getElem?_cons_zero, Option.toList_some, List.cons_append, List.nil_append]
          repeat (go_big_quiet_step ((go_at_call 16; with_reducible exact qt_call (fun W' hW => HHX.out W' hW) _ _)))
          refine wpQuiet_nil ?_
          intro Y hw2
          have hbY := qt_world hw2
          clear hw2 rg0 rg1 rg2 rg3 rg4 rg5
          refine wpList_done ?_
          go_wp2
          go_roundw
          case rel => exact ⟨i + 1, by omega, by simp, hp2, below_then hB.out hbY⟩
          case measure => simp [intOf]; omega
    obtain ⟨y, hy⟩ : ∃ y, g.facts[i]? = some y := ⟨_, List.getElem?_eq_getElem hlt⟩
    obtain ⟨b0, o0, e0, hb0, hc0⟩ := segAt (((HSF.out.below HBX.out).more HBX.out.size).below hB.out) hy
    have hix := fun W => idx_at (t := 28) (size := 6) (cap := m.fc) (len := g.facts.length) e0 hlt (by kernel_rfl) (fun W => by kernel_rfl) W
    have y0 : wr.cell? ⟨b0, o0 + i * 6, none⟩ = some (.int .i64 y.ref) := hc0 0 _ rfl
    have y1 : wr.cell? ⟨b0, o0 + i * 6 + 1, none⟩ = some (.int .i64 y.act) := hc0 1 _ rfl
    have y2 : wr.cell? ⟨b0, o0 + i * 6 + 2, none⟩ = some (.int .i64 y.low) := hc0 2 _ rfl
    have y3 : wr.cell? ⟨b0, o0 + i * 6 + 3, none⟩ = some (.int .i64 y.high) := hc0 3 _ rfl
    have y4 : wr.cell? ⟨b0, o0 + i * 6 + 4, none⟩ = some (.int .i64 y.filed) := hc0 4 _ rfl
    have y5 : wr.cell? ⟨b0, o0 + i * 6 + 5, none⟩ = some (.bool y.sec) := hc0 5 _ rfl
    have HY := Lib.hid hy
    have tl : decide ((i : Int) < (g.facts.length : Int)) = true := decide_eq_true (by omega)
    obtain ⟨v, ev⟩ : ∃ v, decide (y ∈ f.facts) = v := ⟨_, rfl⟩
    have HHX := Lib.hid (fun W (hb : Below wr.heap.size wr W) => HH.out y W (below_then HBX.out (below_then hB.out hb)))
    rw [ev] at HHX
    have HEV := Lib.hid ev
    clear hy hc0 e0 ev
    go_upto_region 4 with (fail)
    clear tl
    cases v with
    | false =>
      have hf : Hid (R = false) := by
        unfold Hid
        cases hRR : R with
        | false => rfl
        | true =>
          have := has_iff.1 (HR.out.trans hRR)
          exact absurd (this.1 y (List.mem_of_getElem? HY.out)) (of_decide_eq_false HEV.out)
      have rg0 := cell_regrown f0
      have rg1 := cell_regrown f1
      have rg2 := cell_regrown f2
      have rg3 := cell_regrown g1
      have rg4 := cell_regrown y0
      have rg5 := cell_regrown y1
      have rg6 := cell_regrown y2
      have rg7 := cell_regrown y3
      have rg8 := cell_regrown y4
      have rg9 := cell_regrown y5
      refine wp_region_qt [0, 1, 2, 3, 4, 5, 6, 7] [] (by kernel_rfl) (by kernel_rfl) (by repeat (first | with_reducible refine panOk_then ?_ | with_reducible refine panOk_block ?_ | exact panOk_body)) ?_
      simp only [opsAt, List.getElem?_toArray, List.getElem?_cons_succ, List.getElem?_cons_zero, Option.toList_some, List.cons_append, List.nil_append]
      repeat (go_big_quiet_step ((go_at_call 15; with_reducible exact qt_call (fun W' hW => HHX.out W' hW) _ _)))
      refine wpQuiet_nil ?_
      intro Y hw2
      have hbY := qt_world hw2
      clear hw2 rg0 rg1 rg2 rg3 rg4 rg5 rg6 rg7 rg8 rg9
      refine wpList_done ?_
      go_wp2
      go_ret
      exact ⟨ret_bool hf.out.symm, below_then HBX.out (below_then hB.out hbY)⟩
    | true =>
      have hp2 : Hid (∀ j y, j < i + 1 → g.facts[j]? = some y → y ∈ f.facts) := by
        intro j z hj hz
        by_cases e : j = i
        · subst e
          have h5 := HY.out.symm.trans hz
          cases h5
          exact of_decide_eq_true HEV.out
        · exact hpre.out j z (by omega) hz
      have rg0 := cell_regrown f0
      have rg1 := cell_regrown f1
      have rg2 := cell_regrown f2
      have rg3 := cell_regrown g1
      have rg4 := cell_regrown y0
      have rg5 := cell_regrown y1
      have rg6 := cell_regrown y2
      have rg7 := cell_regrown y3
      have rg8 := cell_regrown y4
      have rg9 := cell_regrown y5
      refine wp_region_qt [0, 1, 2, 3, 4, 5, 6, 7] [] (by kernel_rfl) (by kernel_rfl) (by repeat (first | with_reducible refine panOk_then ?_ | with_reducible refine panOk_block ?_ | exact panOk_body)) ?_
      simp only [opsAt, List.getElem?_toArray, List.getElem?_cons_succ, List.getElem?_cons_zero, Option.toList_some, List.cons_append, List.nil_append]
      repeat (go_big_quiet_step ((go_at_call 15; with_reducible exact qt_call (fun W' hW => HHX.out W' hW) _ _)))
      refine wpQuiet_nil ?_
      intro Y hw2
      have hbY := qt_world hw2
      clear hw2 rg0 rg1 rg2 rg3 rg4 rg5 rg6 rg7 rg8 rg9
      refine wpList_done ?_
      go_wp2
      go_roundw
      case rel => exact ⟨i + 1, by omega, by simp, hp2, below_then hB.out hbY⟩
      case measure => simp [intOf]; omega
set_option maxRecDepth 100000 in
set_option maxHeartbeats 6400000 in
theorem same_any (f g : Fil) (k m : Fm) (w : World) (hk : Filt w f k) (hg : Filt w g m) :
    Calls Tryd.prog 17 #[.agg (flA f k), .agg (flA g m)] w fun e w' => e = .returned (.bool (decide (f = g))) ∧ Below w.heap.size w w' := by
  obtain ⟨R, hR⟩ : ∃ R, decide (f = g) = R := ⟨_, rfl⟩
  rw [hR]
  have HR := Lib.hid hR
  have HF1 := Lib.hid hk.sf
  have HO1 := Lib.hid hk.so
  have HF2 := Lib.hid hg.sf
  have HO2 := Lib.hid hg.so
  have nf := hk.nf
  have no := hk.no
  clear hR hk hg
  have dif : f ≠ g → Hid (R = false) := fun h => by unfold Hid; rw [← HR.out]; exact decide_eq_false h
  have DIF := Lib.hid dif
  clear dif
  cases t0 : (f.house != g.house) with
  | true =>
    have hf := DIF.out (fun e => by subst e; simp at t0)
    clear DIF
    go_enter Tryd.func17, Tryd.ntmps17
    go_upto_region 1 with (fail)
    refine name_wp ?_
    intro X hX
    have gbf : Blk X w.heap.size 31 (flA f k) := by rw [hX]; exact (blk_at (by simp)).alloc _
    have gbg : Blk X (w.heap.size + 1) 31 (flA g m) := by rw [hX]; exact blk_at (by simp)
    have HB : Below w.heap.size w X := by rw [hX]; (repeat (first | with_reducible assumption | with_reducible exact Below.refl _ _ | with_reducible refine below_drewN ?_ _ | with_reducible refine Below.drew ?_ | with_reducible refine below_alloc ?_ _ | with_reducible refine Below.setCell ?_ (by first | omega | (simp; done) | (simp; omega)) _ | with_reducible refine below_then ?_ (by with_reducible assumption) | (refine below_then (a := World.drew _) ?_ (by with_reducible assumption))))
    clear hX
    obtain ⟨bg, ebg⟩ : ∃ b, w.heap.size + 1 = b := ⟨_, rfl⟩
    obtain ⟨bf, ebf⟩ : ∃ b, w.heap.size = b := ⟨_, rfl⟩
    have lbf : w.heap.size ≤ bf := by omega
    have lbg : w.heap.size ≤ bg := by omega
    have nbfbg : bf ≠ bg := by omega
    rw [ebg] at gbg ⊢
    rw [ebf] at gbf ⊢
    clear ebf ebg
    have f0 : X.cell? ⟨bf, 0, none⟩ = some (.int .i64 f.house) := (gbf).cell 0
    have f1 : X.cell? ⟨bf, 1, none⟩ = some (.slice k.f f.facts.length k.fc) := (gbf).cell 1
    have f2 : X.cell? ⟨bf, 2, none⟩ = some (.slice k.o f.ords.length k.oc) := (gbf).cell 2
    have g0 : X.cell? ⟨bg, 0, none⟩ = some (.int .i64 g.house) := (gbg).cell 0
    have g1 : X.cell? ⟨bg, 1, none⟩ = some (.slice m.f g.facts.length m.fc) := (gbg).cell 1
    have g2 : X.cell? ⟨bg, 2, none⟩ = some (.slice m.o g.ords.length m.oc) := (gbg).cell 2
    go_wp2
    go_ret
    exact ⟨ret_bool hf.out.symm, HB⟩
  | false =>
  have hh : Hid (f.house = g.house) := by unfold Hid; simpa using t0
  by_cases hl1 : f.facts.length = g.facts.length
  case neg =>
    have hf := DIF.out (fun e => by subst e; exact hl1 rfl)
    have t1 : ((f.facts.length : Int) != (g.facts.length : Int)) = true := by simp; omega
    have hl1' := Lib.hid hl1
    clear DIF hl1
    go_enter Tryd.func17, Tryd.ntmps17
    go_upto_region 1 with (fail)
    refine name_wp ?_
    intro X hX
    have gbf : Blk X w.heap.size 31 (flA f k) := by rw [hX]; exact (blk_at (by simp)).alloc _
    have gbg : Blk X (w.heap.size + 1) 31 (flA g m) := by rw [hX]; exact blk_at (by simp)
    have HB : Below w.heap.size w X := by rw [hX]; (repeat (first | with_reducible assumption | with_reducible exact Below.refl _ _ | with_reducible refine below_drewN ?_ _ | with_reducible refine Below.drew ?_ | with_reducible refine below_alloc ?_ _ | with_reducible refine Below.setCell ?_ (by first | omega | (simp; done) | (simp; omega)) _ | with_reducible refine below_then ?_ (by with_reducible assumption) | (refine below_then (a := World.drew _) ?_ (by with_reducible assumption))))
    clear hX
    obtain ⟨bg, ebg⟩ : ∃ b, w.heap.size + 1 = b := ⟨_, rfl⟩
    obtain ⟨bf, ebf⟩ : ∃ b, w.heap.size = b := ⟨_, rfl⟩
    have lbf : w.heap.size ≤ bf := by omega
    have lbg : w.heap.size ≤ bg := by omega
    have nbfbg : bf ≠ bg := by omega
    rw [ebg] at gbg ⊢
    rw [ebf] at gbf ⊢
    clear ebf ebg
    have f0 : X.cell? ⟨bf, 0, none⟩ = some (.int .i64 f.house) := (gbf).cell 0
    have f1 : X.cell? ⟨bf, 1, none⟩ = some (.slice k.f f.facts.length k.fc) := (gbf).cell 1
    have f2 : X.cell? ⟨bf, 2, none⟩ = some (.slice k.o f.ords.length k.oc) := (gbf).cell 2
    have g0 : X.cell? ⟨bg, 0, none⟩ = some (.int .i64 g.house) := (gbg).cell 0
    have g1 : X.cell? ⟨bg, 1, none⟩ = some (.slice m.f g.facts.length m.fc) := (gbg).cell 1
    have g2 : X.cell? ⟨bg, 2, none⟩ = some (.slice m.o g.ords.length m.oc) := (gbg).cell 2
    go_wp2
    go_ret
    exact ⟨ret_bool hf.out.symm, HB⟩
  by_cases hl2 : f.ords.length = g.ords.length
  case neg =>
    have hf := DIF.out (fun e => by subst e; exact hl2 rfl)
    have t1 : ((f.facts.length : Int) != (g.facts.length : Int)) = false := by simp; omega
    have t2 : ((f.ords.length : Int) != (g.ords.length : Int)) = true := by simp; omega
    have hl1' := Lib.hid hl1
    have hl2' := Lib.hid hl2
    clear DIF hl1 hl2
    go_enter Tryd.func17, Tryd.ntmps17
    go_upto_region 1 with (fail)
    refine name_wp ?_
    intro X hX
    have gbf : Blk X w.heap.size 31 (flA f k) := by rw [hX]; exact (blk_at (by simp)).alloc _
    have gbg : Blk X (w.heap.size + 1) 31 (flA g m) := by rw [hX]; exact blk_at (by simp)
    have HB : Below w.heap.size w X := by rw [hX]; (repeat (first | with_reducible assumption | with_reducible exact Below.refl _ _ | with_reducible refine below_drewN ?_ _ | with_reducible refine Below.drew ?_ | with_reducible refine below_alloc ?_ _ | with_reducible refine Below.setCell ?_ (by first | omega | (simp; done) | (simp; omega)) _ | with_reducible refine below_then ?_ (by with_reducible assumption) | (refine below_then (a := World.drew _) ?_ (by with_reducible assumption))))
    clear hX
    obtain ⟨bg, ebg⟩ : ∃ b, w.heap.size + 1 = b := ⟨_, rfl⟩
    obtain ⟨bf, ebf⟩ : ∃ b, w.heap.size = b := ⟨_, rfl⟩
    have lbf : w.heap.size ≤ bf := by omega
    have lbg : w.heap.size ≤ bg := by omega
    have nbfbg : bf ≠ bg := by omega
    rw [ebg] at gbg ⊢
    rw [ebf] at gbf ⊢
    clear ebf ebg
    have f0 : X.cell? ⟨bf, 0, none⟩ = some (.int .i64 f.house) := (gbf).cell 0
    have f1 : X.cell? ⟨bf, 1, none⟩ = some (.slice k.f f.facts.length k.fc) := (gbf).cell 1
    have f2 : X.cell? ⟨bf, 2, none⟩ = some (.slice k.o f.ords.length k.oc) := (gbf).cell 2
    have g0 : X.cell? ⟨bg, 0, none⟩ = some (.int .i64 g.house) := (gbg).cell 0
    have g1 : X.cell? ⟨bg, 1, none⟩ = some (.slice m.f g.facts.length m.fc) := (gbg).cell 1
    have g2 : X.cell? ⟨bg, 2, none⟩ = some (.slice m.o g.ords.length m.oc) := (gbg).cell 2
    go_wp2
    go_ret
    exact ⟨ret_bool hf.out.symm, HB⟩
  have t1 : ((f.facts.length : Int) != (g.facts.length : Int)) = false := by simp; omega
  have t2 : ((f.ords.length : Int) != (g.ords.length : Int)) = false := by simp; omega
  have HL1 := Lib.hid hl1
  have HL2 := Lib.hid hl2
  clear hl1 hl2
  go_enter Tryd.func17, Tryd.ntmps17
  go_upto_region 1 with (fail)
  refine name_wp ?_
  intro X hX
  have gbf : Blk X w.heap.size 31 (flA f k) := by rw [hX]; exact (blk_at (by simp)).alloc _
  have gbg : Blk X (w.heap.size + 1) 31 (flA g m) := by rw [hX]; exact blk_at (by simp)
  have HB : Below w.heap.size w X := by rw [hX]; (repeat (first | with_reducible assumption | with_reducible exact Below.refl _ _ | with_reducible refine below_drewN ?_ _ | with_reducible refine Below.drew ?_ | with_reducible refine below_alloc ?_ _ | with_reducible refine Below.setCell ?_ (by first | omega | (simp; done) | (simp; omega)) _ | with_reducible refine below_then ?_ (by with_reducible assumption) | (refine below_then (a := World.drew _) ?_ (by with_reducible assumption))))
  clear hX
  obtain ⟨bg, ebg⟩ : ∃ b, w.heap.size + 1 = b := ⟨_, rfl⟩
  obtain ⟨bf, ebf⟩ : ∃ b, w.heap.size = b := ⟨_, rfl⟩
  have lbf : w.heap.size ≤ bf := by omega
  have lbg : w.heap.size ≤ bg := by omega
  have nbfbg : bf ≠ bg := by omega
  rw [ebg] at gbg ⊢
  rw [ebf] at gbf ⊢
  clear ebf ebg
  have f0 : X.cell? ⟨bf, 0, none⟩ = some (.int .i64 f.house) := (gbf).cell 0
  have f1 : X.cell? ⟨bf, 1, none⟩ = some (.slice k.f f.facts.length k.fc) := (gbf).cell 1
  have f2 : X.cell? ⟨bf, 2, none⟩ = some (.slice k.o f.ords.length k.oc) := (gbf).cell 2
  have g0 : X.cell? ⟨bg, 0, none⟩ = some (.int .i64 g.house) := (gbg).cell 0
  have g1 : X.cell? ⟨bg, 1, none⟩ = some (.slice m.f g.facts.length m.fc) := (gbg).cell 1
  have g2 : X.cell? ⟨bg, 2, none⟩ = some (.slice m.o g.ords.length m.oc) := (gbg).cell 2
  have HBX := Lib.hid HB
  clear HB
  go_upto_region 4 with (fail)
  clear t0 t1 t2 f0 f1 f2 g0 g1 g2
  go_loopw [5] (fun y WR => ∃ (i : Nat), i ≤ f.facts.length ∧ y = .int .i64 i ∧ Hid (∀ j, j < i → f.facts[j]? = g.facts[j]?) ∧ Hid (Below X.heap.size X WR)) (fun y _ => 2000000 - (intOf y).toNat)
  case atStart => exact ⟨0, by omega, rfl, fun j hj => absurd hj (by omega), Below.refl _ _⟩
  case round =>
    obtain ⟨i, hi', rfl, hpre, hB⟩ := hrel
    have gf2 := gbf.then_ hB.out
    have gg2 := gbg.then_ hB.out
    have f0 : wr.cell? ⟨bf, 0, none⟩ = some (.int .i64 f.house) := (gf2).cell 0
    have f1 : wr.cell? ⟨bf, 1, none⟩ = some (.slice k.f f.facts.length k.fc) := (gf2).cell 1
    have f2 : wr.cell? ⟨bf, 2, none⟩ = some (.slice k.o f.ords.length k.oc) := (gf2).cell 2
    have g0 : wr.cell? ⟨bg, 0, none⟩ = some (.int .i64 g.house) := (gg2).cell 0
    have g1 : wr.cell? ⟨bg, 1, none⟩ = some (.slice m.f g.facts.length m.fc) := (gg2).cell 1
    have g2 : wr.cell? ⟨bg, 2, none⟩ = some (.slice m.o g.ords.length m.oc) := (gg2).cell 2
    by_cases hlt : i < f.facts.length
    case neg =>
      have hfa : Hid (f.facts = g.facts) := by
        refine List.ext_getElem? fun j => ?_
        by_cases hj : j < i
        · exact hpre.out j hj
        · rw [List.getElem?_eq_none (by omega), List.getElem?_eq_none (by have := HL1.out; omega)]
      have tl : decide ((i : Int) < (f.facts.length : Int)) = false := decide_eq_false (by omega)
      have HBW := Lib.hid (below_then HBX.out hB.out)
      clear hpre hB HBX gbf gbg
      obtain ⟨wo, rfl⟩ : ∃ wo : World, wo = wr := ⟨_, rfl⟩
      have gwf := gf2
      have gwg := gg2
      clear gf2 gg2
      go_upto_region 9 with (fail)
      clear tl f0 f1 f2 g0 g1 g2 hi' hlt
      go_loopw [6] (fun y WR => ∃ (i : Nat), i ≤ f.ords.length ∧ y = .int .i64 i ∧ Hid (∀ j, j < i → f.ords[j]? = g.ords[j]?) ∧ Hid (Below wo.heap.size wo WR)) (fun y _ => 2000000 - (intOf y).toNat)
      case atStart => exact ⟨0, by omega, rfl, fun j hj => absurd hj (by omega), Below.refl _ _⟩
      case round =>
        obtain ⟨i, hi', rfl, hpre, hB⟩ := hrel
        have gf2 := gwf.then_ hB.out
        have gg2 := gwg.then_ hB.out
        have f0 : wr.cell? ⟨bf, 0, none⟩ = some (.int .i64 f.house) := (gf2).cell 0
        have f1 : wr.cell? ⟨bf, 1, none⟩ = some (.slice k.f f.facts.length k.fc) := (gf2).cell 1
        have f2 : wr.cell? ⟨bf, 2, none⟩ = some (.slice k.o f.ords.length k.oc) := (gf2).cell 2
        have g0 : wr.cell? ⟨bg, 0, none⟩ = some (.int .i64 g.house) := (gg2).cell 0
        have g1 : wr.cell? ⟨bg, 1, none⟩ = some (.slice m.f g.facts.length m.fc) := (gg2).cell 1
        have g2 : wr.cell? ⟨bg, 2, none⟩ = some (.slice m.o g.ords.length m.oc) := (gg2).cell 2
        by_cases hlt : i < f.ords.length
        case neg =>
          have ho : Hid (f.ords = g.ords) := by
            refine List.ext_getElem? fun j => ?_
            by_cases hj : j < i
            · exact hpre.out j hj
            · rw [List.getElem?_eq_none (by omega), List.getElem?_eq_none (by have := HL2.out; omega)]
          have tl : decide ((i : Int) < (f.ords.length : Int)) = false := decide_eq_false (by omega)
          have hr : Hid (R = true) := by unfold Hid; rw [← HR.out]; refine decide_eq_true ?_; have h1 := hh.out; have h2 := hfa.out; have h3 := ho.out; cases f; cases g; simp_all
          go_wp2
          go_ret
          exact ⟨ret_bool hr.out.symm, below_then HBW.out hB.out⟩
        have hlt2 : i < g.ords.length := by have := HL2.out; omega
        obtain ⟨x, hx⟩ : ∃ x, f.ords[i]? = some x := ⟨_, List.getElem?_eq_getElem hlt⟩
        obtain ⟨y, hy⟩ : ∃ y, g.ords[i]? = some y := ⟨_, List.getElem?_eq_getElem hlt2⟩
        obtain ⟨bbx, ox, ex, hbx, hcx⟩ := segAt (((HO1.out.below HBW.out).more HBW.out.size).below hB.out) hx
        have hix := fun W => idx_at (t := 29) (size := 2) (cap := k.oc) (len := f.ords.length) ex hlt (by kernel_rfl) (fun W => by kernel_rfl) W
        have x0 : wr.cell? ⟨bbx, ox + i * 2, none⟩ = some (.int .i64 x.1) := hcx 0 _ rfl
        have x1 : wr.cell? ⟨bbx, ox + i * 2 + 1, none⟩ = some (.int .i64 x.2) := hcx 1 _ rfl
        obtain ⟨bby, oy, ey, hby, hcy⟩ := segAt (((HO2.out.below HBW.out).more HBW.out.size).below hB.out) hy
        have hiy := fun W => idx_at (t := 29) (size := 2) (cap := m.oc) (len := g.ords.length) ey hlt2 (by kernel_rfl) (fun W => by kernel_rfl) W
        have y0 : wr.cell? ⟨bby, oy + i * 2, none⟩ = some (.int .i64 y.1) := hcy 0 _ rfl
        have y1 : wr.cell? ⟨bby, oy + i * 2 + 1, none⟩ = some (.int .i64 y.2) := hcy 1 _ rfl
        have HX := Lib.hid hx
        have HY := Lib.hid hy
        have tl : decide ((i : Int) < (f.ords.length : Int)) = true := decide_eq_true (by omega)
        have heq := fun W => eqvB x y W
        obtain ⟨v, ev⟩ : ∃ v, decide (x = y) = v := ⟨_, rfl⟩
        simp only [ev] at heq
        have HEV := Lib.hid ev
        clear hx hy hcx hcy ex ey ev
        go_upto_region 11 with (fail)
        clear tl
        cases v with
        | false =>
          have hf := DIF.out (fun e => of_decide_eq_false HEV.out (by subst e; exact Option.some.inj (HX.out.symm.trans HY.out)))
          have rg0 := cell_regrown f2
          have rg1 := cell_regrown g2
          have rg2 := cell_regrown x0
          have rg3 := cell_regrown x1
          have rg4 := cell_regrown y0
          have rg5 := cell_regrown y1
          refine wp_region_qt [0, 1, 2, 3, 4, 5, 6, 7, 8, 9, 10] [] (by kernel_rfl) (by kernel_rfl) (by repeat (first | with_reducible refine panOk_then ?_ | with_reducible refine panOk_block ?_ | exact panOk_body)) ?_
          simp only [opsAt, List.getElem?_toArray, List.getElem?_cons_succ, List.getElem?_cons_zero, Option.toList_some, List.cons_append, List.nil_append]
          repeat (go_big_quiet_step (fail))
          refine wpQuiet_nil ?_
          intro Y hw2
          have hbY := qt_world hw2
          clear hw2 rg0 rg1 rg2 rg3 rg4 rg5
          refine wpList_done ?_
          go_wp2
          go_ret
          exact ⟨ret_bool hf.out.symm, below_then HBW.out (below_then hB.out hbY)⟩
        | true =>
          have hp2 : Hid (∀ j, j < i + 1 → f.ords[j]? = g.ords[j]?) := by
            intro j hj
            by_cases e : j = i
            · subst e
              rw [HX.out, HY.out, of_decide_eq_true HEV.out]
            · exact hpre.out j (by omega)
          have rg0 := cell_regrown f2
          have rg1 := cell_regrown g2
          have rg2 := cell_regrown x0
          have rg3 := cell_regrown x1
          have rg4 := cell_regrown y0
          have rg5 := cell_regrown y1
          refine wp_region_qt [0, 1, 2, 3, 4, 5, 6, 7, 8, 9, 10] [] (by kernel_rfl) (by kernel_rfl) (by repeat (first | with_reducible refine panOk_then ?_ | with_reducible refine panOk_block ?_ | exact panOk_body)) ?_
          simp only [opsAt, List.getElem?_toArray, List.getElem?_cons_succ, List.getElem?_cons_zero, Option.toList_some, List.cons_append, List.nil_append]
          repeat (go_big_quiet_step (fail))
          refine wpQuiet_nil ?_
          intro Y hw2
          have hbY := qt_world hw2
          clear hw2 rg0 rg1 rg2 rg3 rg4 rg5
          refine wpList_done ?_
          go_wp2
          go_roundw
          case rel => exact ⟨i + 1, by omega, by simp, hp2, below_then hB.out hbY⟩
          case measure => simp [intOf]; omega
    have hlt2 : i < g.facts.length := by have := HL1.out; omega
    obtain ⟨x, hx⟩ : ∃ x, f.facts[i]? = some x := ⟨_, List.getElem?_eq_getElem hlt⟩
    obtain ⟨y, hy⟩ : ∃ y, g.facts[i]? = some y := ⟨_, List.getElem?_eq_getElem hlt2⟩
    obtain ⟨bbx, ox, ex, hbx, hcx⟩ := segAt (((HF1.out.below HBX.out).more HBX.out.size).below hB.out) hx
    have hix := fun W => idx_at (t := 28) (size := 6) (cap := k.fc) (len := f.facts.length) ex hlt (by kernel_rfl) (fun W => by kernel_rfl) W
    have x0 : wr.cell? ⟨bbx, ox + i * 6, none⟩ = some (.int .i64 x.ref) := hcx 0 _ rfl
    have x1 : wr.cell? ⟨bbx, ox + i * 6 + 1, none⟩ = some (.int .i64 x.act) := hcx 1 _ rfl
    have x2 : wr.cell? ⟨bbx, ox + i * 6 + 2, none⟩ = some (.int .i64 x.low) := hcx 2 _ rfl
    have x3 : wr.cell? ⟨bbx, ox + i * 6 + 3, none⟩ = some (.int .i64 x.high) := hcx 3 _ rfl
    have x4 : wr.cell? ⟨bbx, ox + i * 6 + 4, none⟩ = some (.int .i64 x.filed) := hcx 4 _ rfl
    have x5 : wr.cell? ⟨bbx, ox + i * 6 + 5, none⟩ = some (.bool x.sec) := hcx 5 _ rfl
    obtain ⟨bby, oy, ey, hby, hcy⟩ := segAt (((HF2.out.below HBX.out).more HBX.out.size).below hB.out) hy
    have hiy := fun W => idx_at (t := 28) (size := 6) (cap := m.fc) (len := g.facts.length) ey hlt2 (by kernel_rfl) (fun W => by kernel_rfl) W
    have y0 : wr.cell? ⟨bby, oy + i * 6, none⟩ = some (.int .i64 y.ref) := hcy 0 _ rfl
    have y1 : wr.cell? ⟨bby, oy + i * 6 + 1, none⟩ = some (.int .i64 y.act) := hcy 1 _ rfl
    have y2 : wr.cell? ⟨bby, oy + i * 6 + 2, none⟩ = some (.int .i64 y.low) := hcy 2 _ rfl
    have y3 : wr.cell? ⟨bby, oy + i * 6 + 3, none⟩ = some (.int .i64 y.high) := hcy 3 _ rfl
    have y4 : wr.cell? ⟨bby, oy + i * 6 + 4, none⟩ = some (.int .i64 y.filed) := hcy 4 _ rfl
    have y5 : wr.cell? ⟨bby, oy + i * 6 + 5, none⟩ = some (.bool y.sec) := hcy 5 _ rfl
    have HX := Lib.hid hx
    have HY := Lib.hid hy
    have tl : decide ((i : Int) < (f.facts.length : Int)) = true := decide_eq_true (by omega)
    have heq := fun W => eqvF x y W
    obtain ⟨v, ev⟩ : ∃ v, decide (x = y) = v := ⟨_, rfl⟩
    simp only [ev] at heq
    have HEV := Lib.hid ev
    clear hx hy hcx hcy ex ey ev
    go_upto_region 6 with (fail)
    clear tl
    cases v with
    | false =>
      have hf := DIF.out (fun e => of_decide_eq_false HEV.out (by subst e; exact Option.some.inj (HX.out.symm.trans HY.out)))
      have rg0 := cell_regrown f1
      have rg1 := cell_regrown g1
      have rg2 := cell_regrown x0
      have rg3 := cell_regrown x1
      have rg4 := cell_regrown x2
      have rg5 := cell_regrown x3
      have rg6 := cell_regrown x4
      have rg7 := cell_regrown x5
      have rg8 := cell_regrown y0
      have rg9 := cell_regrown y1
      have rg10 := cell_regrown y2
      have rg11 := cell_regrown y3
      have rg12 := cell_regrown y4
      have rg13 := cell_regrown y5
      refine wp_region_qt [0, 1, 2, 3, 4, 5, 6, 7, 8, 9, 10] [] (by kernel_rfl) (by kernel_rfl) (by repeat (first | with_reducible refine panOk_then ?_ | with_reducible refine panOk_block ?_ | exact panOk_body)) ?_
      simp only [opsAt, List.getElem?_toArray, List.getElem?_cons_succ, List.getElem?_cons_zero, Option.toList_some, List.cons_append, List.nil_append]
      repeat (go_big_quiet_step (fail))
      refine wpQuiet_nil ?_
      intro Y hw2
      have hbY := qt_world hw2
      clear hw2 rg0 rg1 rg2 rg3 rg4 rg5 rg6 rg7 rg8 rg9 rg10 rg11 rg12 rg13
      refine wpList_done ?_
      go_wp2
      go_ret
      exact ⟨ret_bool hf.out.symm, below_then HBX.out (below_then hB.out hbY)⟩
    | true =>
      have hp2 : Hid (∀ j, j < i + 1 → f.facts[j]? = g.facts[j]?) := by
        intro j hj
        by_cases e : j = i
        · subst e
          rw [HX.out, HY.out, of_decide_eq_true HEV.out]
        · exact hpre.out j (by omega)
      have rg0 := cell_regrown f1
      have rg1 := cell_regrown g1
      have rg2 := cell_regrown x0
      have rg3 := cell_regrown x1
      have rg4 := cell_regrown x2
      have rg5 := cell_regrown x3
      have rg6 := cell_regrown x4
      have rg7 := cell_regrown x5
      have rg8 := cell_regrown y0
      have rg9 := cell_regrown y1
      have rg10 := cell_regrown y2
      have rg11 := cell_regrown y3
      have rg12 := cell_regrown y4
      have rg13 := cell_regrown y5
      refine wp_region_qt [0, 1, 2, 3, 4, 5, 6, 7, 8, 9, 10] [] (by kernel_rfl) (by kernel_rfl) (by repeat (first | with_reducible refine panOk_then ?_ | with_reducible refine panOk_block ?_ | exact panOk_body)) ?_
      simp only [opsAt, List.getElem?_toArray, List.getElem?_cons_succ, List.getElem?_cons_zero, Option.toList_some, List.cons_append, List.nil_append]
      repeat (go_big_quiet_step (fail))
      refine wpQuiet_nil ?_
      intro Y hw2
      have hbY := qt_world hw2
      clear hw2 rg0 rg1 rg2 rg3 rg4 rg5 rg6 rg7 rg8 rg9 rg10 rg11 rg12 rg13
      refine wpList_done ?_
      go_wp2
      go_roundw
      case rel => exact ⟨i + 1, by omega, by simp, hp2, below_then hB.out hbY⟩
      case measure => simp [intOf]; omega
/-- few facts and orders -/
def Fil.small (f : Fil) (n : Int) : Bool := decide ((f.facts.length : Int) ≤ n) && decide ((f.ords.length : Int) ≤ n)
theorem fsmall_any (f : Fil) (k : Fm) (n : Int) (w : World) :
    Calls Tryd.prog 10 #[.agg (flA f k), .int .i64 n] w fun e w' => e = .returned (.bool (f.small n)) ∧ Below w.heap.size w w' := by
  obtain ⟨e0, E0⟩ : ∃ b, decide ((f.facts.length : Int) ≤ n) = b := ⟨_, rfl⟩
  obtain ⟨e1, E1⟩ : ∃ b, decide ((f.ords.length : Int) ≤ n) = b := ⟨_, rfl⟩
  have hs : Hid (f.small n = (e0 && e1)) := by unfold Hid Fil.small; rw [E0, E1]
  obtain ⟨R, hR⟩ : ∃ R, f.small n = R := ⟨_, rfl⟩
  rw [hR]
  have hr : Hid (R = (e0 && e1)) := by unfold Hid; rw [← hR]; exact hs.out
  clear hR hs
  go_enter Tryd.func10, Tryd.ntmps10
  go_wp2
  all_goals (go_ret; exact ⟨ret_bool (by rw [hr.out]; simp_all), wa1 _ _⟩)
end Go.Proofs.YtemkghgcdpmlbaaDoor
