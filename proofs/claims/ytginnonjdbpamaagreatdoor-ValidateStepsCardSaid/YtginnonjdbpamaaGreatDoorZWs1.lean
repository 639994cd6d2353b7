/- The walks of the reference's Same and States. -/
import Derived.Test.YtginnonjdbpamaaGreatDoorZWb1
import Derived.Test.YtginnonjdbpamaaGreatDoorMb33
import Derived.Test.YtginnonjdbpamaaGreatDoorMb1
set_option maxHeartbeats 12800000
set_option maxRecDepth 100000
namespace Go.Proofs.YtginnonjdbpamaaGreatDoor
open Go.RowKit
theorem rsame_any (x y : Sta) (q r : Qm) (w : World) (hx : Stm w x q) (hy : Stm w y r) :
  Calls Tryz.prog 53 #[.agg (stA x q), .agg (stA y r)] w fun e w' => e = .returned (.bool (decide (x = y))) ∧ Below w.heap.size w w' := by
 have HX := Lib.hid hx
 have HY := Lib.hid hy
 obtain ⟨R, eR⟩ : ∃ R, decide (x = y) = R := ⟨_, rfl⟩
 rw [eR]
 have HR : Hid (R = decide (x = y)) := eR.symm
 have n1 := Lib.hid hx.nh
 have n2 := Lib.hid hx.nu
 have n3 := Lib.hid hx.nm
 clear hx hy eR
 go_enter Tryz.func53, Tryz.ntmps53
 go_upto_region 1 with (fail)
 refine name_wp ?_
 intro X hX
 have ga : Blk X w.heap.size 43 (stA x q) := by rw [hX]; exact (Blk.new _ _ _).alloc _
 have gb : Blk X (w.heap.size + 1) 43 (stA y r) := by rw [hX]; exact blk_at (by simp)
 have HB : Below w.heap.size w X := by rw [hX]; (repeat (first | exact Below.refl _ _ | refine below_alloc ?_ _))
 obtain ⟨bb, eb⟩ : ∃ b, w.heap.size + 1 = b := ⟨_, rfl⟩
 obtain ⟨ba, ea⟩ : ∃ b, w.heap.size = b := ⟨_, rfl⟩
 rw [eb] at gb ⊢
 rw [ea] at ga ⊢
 clear hX eb ea
 have GA := Lib.hid ga
 have GB := Lib.hid gb
 have HBX := Lib.hid HB
 clear HB
 obtain ⟨a0, a1, a2, a3⟩ := stC (c := x) (m := q) ga rfl
 obtain ⟨b0, b1, b2, b3⟩ := stC (c := y) (m := r) gb rfl
 clear ga gb
 by_cases h0 : x.day ≠ y.day
 ·have t1 : (x.day != y.day) = true := bne_iff_ne.2 h0
  have hf : Hid (R = false) := by unfold Hid; rw [HR.out]; exact decide_eq_false fun h => h0 (by rw [h])
  clear h0
  go_wp2
  go_ret
  exact ⟨ret_bool hf.out.symm, HBX.out⟩
 have h00 : x.day = y.day := Decidable.byContradiction h0
 have t1 : (x.day != y.day) = false := bne_eq_false_iff_eq.2 h00
 have H0 := Lib.hid h00
 clear h0 h00
 by_cases h1 : x.hol.length ≠ y.hol.length
 ·have u1 : (((x.hol.length : Nat) : Int) != ((y.hol.length : Nat) : Int)) = true := by rw [bne_iff_ne]; omega
  have hf : Hid (R = false) := by unfold Hid; rw [HR.out]; exact decide_eq_false fun h => h1 (by rw [h])
  clear h1
  go_wp2
  go_ret
  exact ⟨ret_bool hf.out.symm, HBX.out⟩
 have g1 : x.hol.length = y.hol.length := Decidable.byContradiction h1
 have u1 : (((x.hol.length : Nat) : Int) != ((y.hol.length : Nat) : Int)) = false := by rw [bne_eq_false_iff_eq]; omega
 have L1 := Lib.hid g1
 clear h1 g1
 by_cases h2 : x.used.length ≠ y.used.length
 ·have u2 : (((x.used.length : Nat) : Int) != ((y.used.length : Nat) : Int)) = true := by rw [bne_iff_ne]; omega
  have hf : Hid (R = false) := by unfold Hid; rw [HR.out]; exact decide_eq_false fun h => h2 (by rw [h])
  clear h2
  go_wp2
  go_ret
  exact ⟨ret_bool hf.out.symm, HBX.out⟩
 have g2 : x.used.length = y.used.length := Decidable.byContradiction h2
 have u2 : (((x.used.length : Nat) : Int) != ((y.used.length : Nat) : Int)) = false := by rw [bne_eq_false_iff_eq]; omega
 have L2 := Lib.hid g2
 clear h2 g2
 by_cases h3 : x.marks.length ≠ y.marks.length
 ·have u3 : (((x.marks.length : Nat) : Int) != ((y.marks.length : Nat) : Int)) = true := by rw [bne_iff_ne]; omega
  have hf : Hid (R = false) := by unfold Hid; rw [HR.out]; exact decide_eq_false fun h => h3 (by rw [h])
  clear h3
  go_wp2
  go_ret
  exact ⟨ret_bool hf.out.symm, HBX.out⟩
 have g3 : x.marks.length = y.marks.length := Decidable.byContradiction h3
 have u3 : (((x.marks.length : Nat) : Int) != ((y.marks.length : Nat) : Int)) = false := by rw [bne_eq_false_iff_eq]; omega
 have L3 := Lib.hid g3
 clear h3 g3
 go_upto_region 4 with (fail)
 clear a0 a1 a2 a3 b0 b1 b2 b3 t1 u1 u2 u3
 go_loopw [5] (fun v WR => ∃ (i : Nat), i ≤ x.hol.length ∧ v = .int .i64 i ∧ Hid (∀ j, j < i → x.hol[j]? = y.hol[j]?) ∧ Hid (Below X.heap.size X WR)) (fun v _ => 2000000 - (intOf v).toNat)
 case atStart => exact ⟨0, by omega, rfl, fun j hj => by omega, Below.refl _ _⟩
 case round =>
 obtain ⟨i, hi', rfl, hpre, hB⟩ := hrel
 have a1 : wr.cell? ⟨ba, 1, none⟩ = some (.slice q.h x.hol.length q.hc) := (GA.out.then_ hB.out).cell 1
 have b1 : wr.cell? ⟨bb, 1, none⟩ = some (.slice r.h y.hol.length r.hc) := (GB.out.then_ hB.out).cell 1
 by_cases hlt : i < x.hol.length
 ·have tn : decide ((i : Int) < (x.hol.length : Int)) = true := decide_eq_true (by omega)
  have hl2 : i < y.hol.length := by rw [← L1.out]; exact hlt
  have hnn := n1.out
  obtain ⟨s, hs⟩ : ∃ s, x.hol[i]? = some s := ⟨_, qzJ hlt⟩
  obtain ⟨t, ht⟩ : ∃ t, y.hol[i]? = some t := ⟨_, qzJ hl2⟩
  obtain ⟨c1, o1, e1, hb1, hc1⟩ := segAt (HX.out.then_ (below_then HBX.out hB.out)).h hs
  obtain ⟨c2, o2, e2, hb2, hc2⟩ := segAt (HY.out.then_ (below_then HBX.out hB.out)).h ht
  have s0 : wr.cell? ⟨c1, o1 + i, none⟩ = some (.int .i64 s) := by simpa using hc1 0 _ rfl
  have t0 : wr.cell? ⟨c2, o2 + i, none⟩ = some (.int .i64 t) := by simpa using hc2 0 _ rfl
  have hix := fun W => idx_at (t := 22) (size := 1) (cap := q.hc) (len := x.hol.length) e1 hlt (by kernel_rfl) (fun W => by kernel_rfl) W
  have hiy := fun W => idx_at (t := 22) (size := 1) (cap := r.hc) (len := y.hol.length) e2 hl2 (by kernel_rfl) (fun W => by kernel_rfl) W
  have HS := Lib.hid hs
  have HT := Lib.hid ht
  clear hc1 hc2 hs ht e1 e2
  by_cases he : s = t
  ·have tq : (s != t) = false := bne_eq_false_iff_eq.2 he
   have hp2 : Hid (∀ j, j < i + 1 → x.hol[j]? = y.hol[j]?) := by
    intro j hj
    by_cases q : j = i
    ·rw [q, HS.out, HT.out, he]
    ·exact hpre.out j (by omega)
   clear he hpre
   go_upto_region 6 with (fail)
   have rg0 := cR a1
   have rg1 := cR b1
   have rg2 := cR s0
   have rg3 := cR t0
   refine wp_region_qt [0, 1, 2, 3, 4, 5, 6, 7, 8, 9, 10] [] (by kernel_rfl) (by kernel_rfl) pO ?_
   simp only [opsAt, qzA, qzB, qzC, qzD, qzE, qzF]
   repeat (go_big_quiet_step (fail))
   refine wpQuiet_nil ?_
   intro W2 hw2
   have hbW2 := qt_world hw2
   clear hw2 rg0 rg1 rg2 rg3
   refine wpList_done ?_
   go_wp2
   go_roundw
   case rel => exact ⟨i + 1, by omega, by simp, hp2, below_then hB.out hbW2⟩
   case measure => simp [intOf]; omega
  ·have tq : (s != t) = true := bne_iff_ne.2 he
   have hf : Hid (R = false) := by
    unfold Hid
    rw [HR.out]
    refine decide_eq_false fun h => he ?_
    have := HS.out
    rw [h, HT.out] at this
    exact (Option.some.inj this).symm
   clear he hpre
   go_upto_region 6 with (fail)
   have rg0 := cR a1
   have rg1 := cR b1
   have rg2 := cR s0
   have rg3 := cR t0
   refine wp_region_qt [0, 1, 2, 3, 4, 5, 6, 7, 8, 9, 10] [] (by kernel_rfl) (by kernel_rfl) pO ?_
   simp only [opsAt, qzA, qzB, qzC, qzD, qzE, qzF]
   repeat (go_big_quiet_step (fail))
   refine wpQuiet_nil ?_
   intro W2 hw2
   have hbW2 := qt_world hw2
   clear hw2 rg0 rg1 rg2 rg3
   refine wpList_done ?_
   go_wp2
   go_ret
   exact ⟨ret_bool hf.out.symm, below_then HBX.out (below_then hB.out hbW2)⟩
 have tn : decide ((i : Int) < (x.hol.length : Int)) = false := decide_eq_false (by omega)
 have G1 : Hid (x.hol = y.hol) := by
  unfold Hid
  refine List.ext_getElem? fun j => ?_
  by_cases hj : j < i
  ·exact hpre.out j hj
  ·rw [List.getElem?_eq_none (by omega), List.getElem?_eq_none (by have := L1.out; omega)]
 clear hpre
 go_upto_region 8 with (fail)
 go_upto_region 9 with (fail)
 have hB0 := hB
 clear a1 b1 tn hlt
 go_loopw [6] (fun v WR => ∃ (i : Nat), i ≤ x.used.length ∧ v = .int .i64 i ∧ Hid (∀ j, j < i → x.used[j]? = y.used[j]?) ∧ Hid (Below X.heap.size X WR)) (fun v _ => 2000000 - (intOf v).toNat)
 case atStart => exact ⟨0, by omega, rfl, fun j hj => by omega, hB0⟩
 case round =>
 obtain ⟨i, hi', rfl, hpre, hB⟩ := hrel
 have a2 : wr.cell? ⟨ba, 2, none⟩ = some (.slice q.u x.used.length q.uc) := (GA.out.then_ hB.out).cell 2
 have b2 : wr.cell? ⟨bb, 2, none⟩ = some (.slice r.u y.used.length r.uc) := (GB.out.then_ hB.out).cell 2
 by_cases hlt : i < x.used.length
 ·have tn : decide ((i : Int) < (x.used.length : Int)) = true := decide_eq_true (by omega)
  have hl2 : i < y.used.length := by rw [← L2.out]; exact hlt
  have hnn := n2.out
  obtain ⟨s, hs⟩ : ∃ s, x.used[i]? = some s := ⟨_, qzJ hlt⟩
  obtain ⟨t, ht⟩ : ∃ t, y.used[i]? = some t := ⟨_, qzJ hl2⟩
  obtain ⟨c1, o1, e1, hb1, hc1⟩ := segAt (HX.out.then_ (below_then HBX.out hB.out)).u hs
  obtain ⟨c2, o2, e2, hb2, hc2⟩ := segAt (HY.out.then_ (below_then HBX.out hB.out)).u ht
  have s0 : wr.cell? ⟨c1, o1 + i, none⟩ = some (.bool s) := by simpa using hc1 0 _ rfl
  have t0 : wr.cell? ⟨c2, o2 + i, none⟩ = some (.bool t) := by simpa using hc2 0 _ rfl
  have hix := fun W => idx_at (t := 40) (size := 1) (cap := q.uc) (len := x.used.length) e1 hlt (by kernel_rfl) (fun W => by kernel_rfl) W
  have hiy := fun W => idx_at (t := 40) (size := 1) (cap := r.uc) (len := y.used.length) e2 hl2 (by kernel_rfl) (fun W => by kernel_rfl) W
  have HS := Lib.hid hs
  have HT := Lib.hid ht
  clear hc1 hc2 hs ht e1 e2
  by_cases he : s = t
  ·have td : (s == t) = true := by simpa using he
   have tq : (s != t) = false := by simpa using he
   have hp2 : Hid (∀ j, j < i + 1 → x.used[j]? = y.used[j]?) := by
    intro j hj
    by_cases q : j = i
    ·rw [q, HS.out, HT.out, he]
    ·exact hpre.out j (by omega)
   clear he hpre
   go_upto_region 11 with (fail)
   have rg0 := cR a2
   have rg1 := cR b2
   have rg2 := cR s0
   have rg3 := cR t0
   refine wp_region_qt [0, 1, 2, 3, 4, 5, 6, 7, 8, 9, 10] [] (by kernel_rfl) (by kernel_rfl) pO ?_
   simp only [opsAt, qzA, qzB, qzC, qzD, qzE, qzF]
   repeat (go_big_quiet_step (fail))
   refine wpQuiet_nil ?_
   intro W2 hw2
   have hbW2 := qt_world hw2
   clear hw2 rg0 rg1 rg2 rg3
   refine wpList_done ?_
   go_wp2
   refine ⟨⟨i + 1, by omega, by simp, hp2, below_then hB.out hbW2⟩, ?_⟩
   simp [intOf]
   omega
  ·have td : (s == t) = false := by simpa using he
   have tq : (s != t) = true := by simpa using he
   have hf : Hid (R = false) := by
    unfold Hid
    rw [HR.out]
    refine decide_eq_false fun h => he ?_
    have := HS.out
    rw [h, HT.out] at this
    exact (Option.some.inj this).symm
   clear he hpre
   go_upto_region 11 with (fail)
   have rg0 := cR a2
   have rg1 := cR b2
   have rg2 := cR s0
   have rg3 := cR t0
   refine wp_region_qt [0, 1, 2, 3, 4, 5, 6, 7, 8, 9, 10] [] (by kernel_rfl) (by kernel_rfl) pO ?_
   simp only [opsAt, qzA, qzB, qzC, qzD, qzE, qzF]
   repeat (go_big_quiet_step (fail))
   refine wpQuiet_nil ?_
   intro W2 hw2
   have hbW2 := qt_world hw2
   clear hw2 rg0 rg1 rg2 rg3
   refine wpList_done ?_
   go_wp2
   go_ret
   exact ⟨ret_bool hf.out.symm, below_then HBX.out (below_then hB.out hbW2)⟩
 have tn : decide ((i : Int) < (x.used.length : Int)) = false := decide_eq_false (by omega)
 have G2 : Hid (x.used = y.used) := by
  unfold Hid
  refine List.ext_getElem? fun j => ?_
  by_cases hj : j < i
  ·exact hpre.out j hj
  ·rw [List.getElem?_eq_none (by omega), List.getElem?_eq_none (by have := L2.out; omega)]
 clear hpre
 go_upto_region 13 with (fail)
 go_upto_region 14 with (fail)
 have hB0 := hB
 clear a2 b2 tn hlt
 go_loopw [7] (fun v WR => ∃ (i : Nat), i ≤ x.marks.length ∧ v = .int .i64 i ∧ Hid (∀ j, j < i → x.marks[j]? = y.marks[j]?) ∧ Hid (Below X.heap.size X WR)) (fun v _ => 2000000 - (intOf v).toNat)
 case atStart => exact ⟨0, by omega, rfl, fun j hj => by omega, hB0⟩
 case round =>
 obtain ⟨i, hi', rfl, hpre, hB⟩ := hrel
 have a3 : wr.cell? ⟨ba, 3, none⟩ = some (.slice q.m x.marks.length q.mc) := (GA.out.then_ hB.out).cell 3
 have b3 : wr.cell? ⟨bb, 3, none⟩ = some (.slice r.m y.marks.length r.mc) := (GB.out.then_ hB.out).cell 3
 by_cases hlt : i < x.marks.length
 ·have tn : decide ((i : Int) < (x.marks.length : Int)) = true := decide_eq_true (by omega)
  have hl2 : i < y.marks.length := by rw [← L3.out]; exact hlt
  have hnn := n3.out
  obtain ⟨s, hs⟩ : ∃ s, x.marks[i]? = some s := ⟨_, qzJ hlt⟩
  obtain ⟨t, ht⟩ : ∃ t, y.marks[i]? = some t := ⟨_, qzJ hl2⟩
  obtain ⟨c1, o1, e1, hb1, hc1⟩ := segAt (HX.out.then_ (below_then HBX.out hB.out)).m hs
  obtain ⟨c2, o2, e2, hb2, hc2⟩ := segAt (HY.out.then_ (below_then HBX.out hB.out)).m ht
  have s0 : wr.cell? ⟨c1, o1 + i * 5, none⟩ = some (.int .i64 s.st) := by simpa using hc1 0 _ rfl
  have t0 : wr.cell? ⟨c2, o2 + i * 5, none⟩ = some (.int .i64 t.st) := by simpa using hc2 0 _ rfl
  have s1 : wr.cell? ⟨c1, o1 + i * 5 + 1, none⟩ = some (.int .i64 s.left) := hc1 1 _ rfl
  have t1 : wr.cell? ⟨c2, o2 + i * 5 + 1, none⟩ = some (.int .i64 t.left) := hc2 1 _ rfl
  have s2 : wr.cell? ⟨c1, o1 + i * 5 + 2, none⟩ = some (.int .i64 s.got) := hc1 2 _ rfl
  have t2 : wr.cell? ⟨c2, o2 + i * 5 + 2, none⟩ = some (.int .i64 t.got) := hc2 2 _ rfl
  have s3 : wr.cell? ⟨c1, o1 + i * 5 + 3, none⟩ = some (.int .i64 s.brr) := hc1 3 _ rfl
  have t3 : wr.cell? ⟨c2, o2 + i * 5 + 3, none⟩ = some (.int .i64 t.brr) := hc2 3 _ rfl
  have s4 : wr.cell? ⟨c1, o1 + i * 5 + 4, none⟩ = some (.bool s.pau) := hc1 4 _ rfl
  have t4 : wr.cell? ⟨c2, o2 + i * 5 + 4, none⟩ = some (.bool t.pau) := hc2 4 _ rfl
  have hix := fun W => idx_at (t := 41) (size := 5) (cap := q.mc) (len := x.marks.length) e1 hlt (by kernel_rfl) (fun W => by kernel_rfl) W
  have hiy := fun W => idx_at (t := 41) (size := 5) (cap := r.mc) (len := y.marks.length) e2 hl2 (by kernel_rfl) (fun W => by kernel_rfl) W
  have HS := Lib.hid hs
  have HT := Lib.hid ht
  clear hc1 hc2 hs ht e1 e2
  by_cases he : s = t
  ·have heq := fun W => eqvM s t W
   simp only [decide_eq_true he] at heq
   have hp2 : Hid (∀ j, j < i + 1 → x.marks[j]? = y.marks[j]?) := by
    intro j hj
    by_cases q : j = i
    ·rw [q, HS.out, HT.out, he]
    ·exact hpre.out j (by omega)
   clear he hpre
   go_upto_region 16 with (fail)
   have rg0 := cR a3
   have rg1 := cR b3
   have rg2 := cR s0
   have rg3 := cR t0
   have rg4 := cR s1
   have rg5 := cR t1
   have rg6 := cR s2
   have rg7 := cR t2
   have rg8 := cR s3
   have rg9 := cR t3
   have rg10 := cR s4
   have rg11 := cR t4
   refine wp_region_qt [0, 1, 2, 3, 4, 5, 6, 7, 8, 9, 10] [] (by kernel_rfl) (by kernel_rfl) pO ?_
   simp only [opsAt, qzA, qzB, qzC, qzD, qzE, qzF]
   repeat (go_big_quiet_step (fail))
   refine wpQuiet_nil ?_
   intro W2 hw2
   have hbW2 := qt_world hw2
   clear hw2 rg0 rg1 rg2 rg3 rg4 rg5 rg6 rg7 rg8 rg9 rg10 rg11
   refine wpList_done ?_
   go_wp2
   refine ⟨⟨i + 1, by omega, by simp, hp2, below_then hB.out hbW2⟩, ?_⟩
   simp [intOf]
   omega
  ·have heq := fun W => eqvM s t W
   simp only [decide_eq_false he] at heq
   have hf : Hid (R = false) := by
    unfold Hid
    rw [HR.out]
    refine decide_eq_false fun h => he ?_
    have := HS.out
    rw [h, HT.out] at this
    exact (Option.some.inj this).symm
   clear he hpre
   go_upto_region 16 with (fail)
   have rg0 := cR a3
   have rg1 := cR b3
   have rg2 := cR s0
   have rg3 := cR t0
   have rg4 := cR s1
   have rg5 := cR t1
   have rg6 := cR s2
   have rg7 := cR t2
   have rg8 := cR s3
   have rg9 := cR t3
   have rg10 := cR s4
   have rg11 := cR t4
   refine wp_region_qt [0, 1, 2, 3, 4, 5, 6, 7, 8, 9, 10] [] (by kernel_rfl) (by kernel_rfl) pO ?_
   simp only [opsAt, qzA, qzB, qzC, qzD, qzE, qzF]
   repeat (go_big_quiet_step (fail))
   refine wpQuiet_nil ?_
   intro W2 hw2
   have hbW2 := qt_world hw2
   clear hw2 rg0 rg1 rg2 rg3 rg4 rg5 rg6 rg7 rg8 rg9 rg10 rg11
   refine wpList_done ?_
   go_wp2
   go_ret
   exact ⟨ret_bool hf.out.symm, below_then HBX.out (below_then hB.out hbW2)⟩
 have tn : decide ((i : Int) < (x.marks.length : Int)) = false := decide_eq_false (by omega)
 have G3 : Hid (x.marks = y.marks) := by
  unfold Hid
  refine List.ext_getElem? fun j => ?_
  by_cases hj : j < i
  ·exact hpre.out j hj
  ·rw [List.getElem?_eq_none (by omega), List.getElem?_eq_none (by have := L3.out; omega)]
 clear hpre
 have hf : Hid (R = true) := by
  unfold Hid
  rw [HR.out]
  refine decide_eq_true ?_
  have e1 := H0.out
  have e2 := G1.out
  have e3 := G2.out
  have e4 := G3.out
  cases x; cases y
  simp only at e1 e2 e3 e4
  rw [e1, e2, e3, e4]
 go_wp2
 go_ret
 exact ⟨ret_bool hf.out.symm, below_then HBX.out hB.out⟩
end Go.Proofs.YtginnonjdbpamaaGreatDoor
