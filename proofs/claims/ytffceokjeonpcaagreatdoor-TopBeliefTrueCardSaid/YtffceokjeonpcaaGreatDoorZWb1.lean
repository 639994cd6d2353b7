/- The walks of slices.Equal at ints, bools, marks, and of system.Same. -/
import Derived.Test.YtffceokjeonpcaaGreatDoorMb10
import Derived.Test.YtffceokjeonpcaaGreatDoorMb1
set_option maxHeartbeats 3200000
set_option maxRecDepth 100000
namespace Go.Proofs.YtffceokjeonpcaaGreatDoor
open Go.RowKit
theorem eqI_any (A1 A2 : Option Addr) (c1 c2 : Nat) (l1 l2 : List Int) (w : World) (h1 : Seg w w.heap.size 1 eI A1 l1) (h2 : Seg w w.heap.size 1 eI A2 l2) (n1 : l1.length ≤ 1000000) :
  Calls Tryz.prog 35 #[.slice A1 l1.length c1, .slice A2 l2.length c2] w fun e w' => e = .returned (.bool (decide (l1 = l2))) ∧ Below w.heap.size w w' := by
 have H1 := qzL h1
 have H2 := qzL h2
 obtain ⟨R, hR⟩ : ∃ R, decide (l1 = l2) = R := ⟨_, rfl⟩
 rw [hR]
 have HR := qzL hR
 clear hR h1 h2
 by_cases hl : l1.length = l2.length
 ·have tl : ((l1.length : Int) != (l2.length : Int)) = false := by simp [hl]
  have tl' : ((l1.length : Int) == (l2.length : Int)) = true := by simp [hl]
  have HL := qzL hl
  clear hl
  go_enter Tryz.func35, Tryz.ntmps35
  go_upto_region 4 with (fail)
  go_loopw [13] (fun y WR => ∃ (i : Nat), i ≤ l1.length ∧ y = .int .i64 i ∧ Hid (∀ j, j < i → l1[j]? = l2[j]?) ∧ Hid (Below w.heap.size w WR)) (fun y _ => 2000000 - (intOf y).toNat)
  case atStart => exact ⟨0, by omega, rfl, fun j hj => by omega, by unfold Hid; (repeat (first | (with_reducible first | assumption | exact Below.refl _ _ | refine xAk ?_ _ | refine Below.drew ?_ | refine xAc ?_ _ | refine Below.setCell ?_ (by first | omega | (simp; done) | (simp; omega)) _ | refine xAa ?_ (by assumption)) | (refine xAa (a := World.drew _) ?_ (by with_reducible assumption))))⟩
  case round =>
   obtain ⟨i, hi', rfl, hpre, hB⟩ := hrel
   by_cases hlt : i < l1.length
   ·have tn : decide ((i : Int) < (l1.length : Int)) = true := qzO (by omega)
    have hl2 : i < l2.length := by rw [← HL.out]; exact hlt
    obtain ⟨x, hx⟩ : ∃ x, l1[i]? = some x := ⟨_, qzJ hlt⟩
    obtain ⟨y, hy⟩ : ∃ y, l2[i]? = some y := ⟨_, qzJ hl2⟩
    obtain ⟨b1, o1, e1, hb1, hc1⟩ := xAv (H1.out.below hB.out) hx
    obtain ⟨b2, o2, e2, hb2, hc2⟩ := xAv (H2.out.below hB.out) hy
    have x0 : wr.cell? ⟨b1, o1 + i, none⟩ = some (.int .i64 x) := by simpa using hc1 0 _ rfl
    have y0 : wr.cell? ⟨b2, o2 + i, none⟩ = some (.int .i64 y) := by simpa using hc2 0 _ rfl
    have hix := fun W => xAp (t := 22) (size := 1) (cap := c1) (len := l1.length) e1 hlt (by kernel_rfl) (fun W => by kernel_rfl) W
    have hiy := fun W => xAp (t := 22) (size := 1) (cap := c2) (len := l2.length) e2 hl2 (by kernel_rfl) (fun W => by kernel_rfl) W
    simp only [Nat.mul_one] at hix hiy
    have HX := qzL hx
    have HY := qzL hy
    clear hc1 hc2 hx hy e1 e2
    by_cases he : x = y
    ·have td : (x == y) = true := by simpa using he
     have td' : (x != y) = false := by simpa using he
     have hp2 : Hid (∀ j, j < i + 1 → l1[j]? = l2[j]?) := by
      intro j hj
      by_cases q : j = i
      ·rw [q, HX.out, HY.out, he]
      ·exact hpre.out j (by omega)
     clear he hpre
     go_upto_region 6 with (fail)
     have rg0 := cR x0
     have rg1 := cR y0
     refine xAg [0, 1, 2, 3, 4, 5, 6, 7, 8] [] (by kernel_rfl) (by kernel_rfl) pO ?_
     simp only [xAn, qzA, qzB, qzC, qzD, qzE, qzF]
     repeat (go_big_quiet_step (fail))
     refine wpQuiet_nil ?_
     intro W2 hw2
     have hbW2 := xAj hw2
     clear hw2 rg0 rg1
     refine xAw ?_
     go_wp2
     go_roundw
     case rel => exact ⟨i + 1, by omega, by simp, hp2, xAa hB.out hbW2⟩
     case measure => simp [intOf]; omega
    ·have td : (x == y) = false := by simpa using he
     have td' : (x != y) = true := by simpa using he
     have hf : Hid (R = false) := by
      unfold Hid
      rw [← HR.out]
      refine qzN fun h => he ?_
      have := HX.out
      rw [h, HY.out] at this
      exact (Option.some.inj this).symm
     clear he hpre
     go_upto_region 6 with (fail)
     have rg0 := cR x0
     have rg1 := cR y0
     refine xAg [0, 1, 2, 3, 4, 5, 6, 7, 8] [] (by kernel_rfl) (by kernel_rfl) pO ?_
     simp only [xAn, qzA, qzB, qzC, qzD, qzE, qzF]
     repeat (go_big_quiet_step (fail))
     refine wpQuiet_nil ?_
     intro W2 hw2
     have hbW2 := xAj hw2
     clear hw2 rg0 rg1
     refine xAw ?_
     go_wp2
     go_ret
     exact ⟨xAb hf.out.symm, xAa hB.out hbW2⟩
   ·have tn : decide ((i : Int) < (l1.length : Int)) = false := qzN (by omega)
    have hf : Hid (R = true) := by
     unfold Hid
     rw [← HR.out]
     refine qzO (List.ext_getElem? fun j => ?_)
     by_cases hj : j < i
     ·exact hpre.out j hj
     ·rw [List.getElem?_eq_none (by omega), List.getElem?_eq_none (by have := HL.out; omega)]
    go_wp2
    go_ret
    exact ⟨xAb hf.out.symm, hB.out⟩
 ·have tl : ((l1.length : Int) != (l2.length : Int)) = true := by simp; omega
  have tl' : ((l1.length : Int) == (l2.length : Int)) = false := by simp; omega
  have hf : Hid (R = false) := by
   unfold Hid
   rw [← HR.out]
   exact qzN fun h => hl (by rw [h])
  clear hl
  go_enter Tryz.func35, Tryz.ntmps35
  go_wp2
  go_ret
  exact ⟨xAb hf.out.symm, Below.refl _ _⟩
theorem eqU_any (A1 A2 : Option Addr) (c1 c2 : Nat) (l1 l2 : List Bool) (w : World) (h1 : Seg w w.heap.size 1 eB A1 l1) (h2 : Seg w w.heap.size 1 eB A2 l2) (n1 : l1.length ≤ 1000000) :
  Calls Tryz.prog 36 #[.slice A1 l1.length c1, .slice A2 l2.length c2] w fun e w' => e = .returned (.bool (decide (l1 = l2))) ∧ Below w.heap.size w w' := by
 have H1 := qzL h1
 have H2 := qzL h2
 obtain ⟨R, hR⟩ : ∃ R, decide (l1 = l2) = R := ⟨_, rfl⟩
 rw [hR]
 have HR := qzL hR
 clear hR h1 h2
 by_cases hl : l1.length = l2.length
 ·have tl : ((l1.length : Int) != (l2.length : Int)) = false := by simp [hl]
  have tl' : ((l1.length : Int) == (l2.length : Int)) = true := by simp [hl]
  have HL := qzL hl
  clear hl
  go_enter Tryz.func36, Tryz.ntmps36
  go_upto_region 4 with (fail)
  go_loopw [13] (fun y WR => ∃ (i : Nat), i ≤ l1.length ∧ y = .int .i64 i ∧ Hid (∀ j, j < i → l1[j]? = l2[j]?) ∧ Hid (Below w.heap.size w WR)) (fun y _ => 2000000 - (intOf y).toNat)
  case atStart => exact ⟨0, by omega, rfl, fun j hj => by omega, by unfold Hid; (repeat (first | (with_reducible first | assumption | exact Below.refl _ _ | refine xAk ?_ _ | refine Below.drew ?_ | refine xAc ?_ _ | refine Below.setCell ?_ (by first | omega | (simp; done) | (simp; omega)) _ | refine xAa ?_ (by assumption)) | (refine xAa (a := World.drew _) ?_ (by with_reducible assumption))))⟩
  case round =>
   obtain ⟨i, hi', rfl, hpre, hB⟩ := hrel
   by_cases hlt : i < l1.length
   ·have tn : decide ((i : Int) < (l1.length : Int)) = true := qzO (by omega)
    have hl2 : i < l2.length := by rw [← HL.out]; exact hlt
    obtain ⟨x, hx⟩ : ∃ x, l1[i]? = some x := ⟨_, qzJ hlt⟩
    obtain ⟨y, hy⟩ : ∃ y, l2[i]? = some y := ⟨_, qzJ hl2⟩
    obtain ⟨b1, o1, e1, hb1, hc1⟩ := xAv (H1.out.below hB.out) hx
    obtain ⟨b2, o2, e2, hb2, hc2⟩ := xAv (H2.out.below hB.out) hy
    have x0 : wr.cell? ⟨b1, o1 + i, none⟩ = some (.bool x) := by simpa using hc1 0 _ rfl
    have y0 : wr.cell? ⟨b2, o2 + i, none⟩ = some (.bool y) := by simpa using hc2 0 _ rfl
    have hix := fun W => xAp (t := 44) (size := 1) (cap := c1) (len := l1.length) e1 hlt (by kernel_rfl) (fun W => by kernel_rfl) W
    have hiy := fun W => xAp (t := 44) (size := 1) (cap := c2) (len := l2.length) e2 hl2 (by kernel_rfl) (fun W => by kernel_rfl) W
    simp only [Nat.mul_one] at hix hiy
    have HX := qzL hx
    have HY := qzL hy
    clear hc1 hc2 hx hy e1 e2
    by_cases he : x = y
    ·have td : (x == y) = true := by simpa using he
     have td' : (x != y) = false := by simpa using he
     have hp2 : Hid (∀ j, j < i + 1 → l1[j]? = l2[j]?) := by
      intro j hj
      by_cases q : j = i
      ·rw [q, HX.out, HY.out, he]
      ·exact hpre.out j (by omega)
     clear he hpre
     go_upto_region 6 with (fail)
     have rg0 := cR x0
     have rg1 := cR y0
     refine xAg [0, 1, 2, 3, 4, 5, 6, 7, 8] [] (by kernel_rfl) (by kernel_rfl) pO ?_
     simp only [xAn, qzA, qzB, qzC, qzD, qzE, qzF]
     repeat (go_big_quiet_step (fail))
     refine wpQuiet_nil ?_
     intro W2 hw2
     have hbW2 := xAj hw2
     clear hw2 rg0 rg1
     refine xAw ?_
     go_wp2
     go_roundw
     case rel => exact ⟨i + 1, by omega, by simp, hp2, xAa hB.out hbW2⟩
     case measure => simp [intOf]; omega
    ·have td : (x == y) = false := by simpa using he
     have td' : (x != y) = true := by simpa using he
     have hf : Hid (R = false) := by
      unfold Hid
      rw [← HR.out]
      refine qzN fun h => he ?_
      have := HX.out
      rw [h, HY.out] at this
      exact (Option.some.inj this).symm
     clear he hpre
     go_upto_region 6 with (fail)
     have rg0 := cR x0
     have rg1 := cR y0
     refine xAg [0, 1, 2, 3, 4, 5, 6, 7, 8] [] (by kernel_rfl) (by kernel_rfl) pO ?_
     simp only [xAn, qzA, qzB, qzC, qzD, qzE, qzF]
     repeat (go_big_quiet_step (fail))
     refine wpQuiet_nil ?_
     intro W2 hw2
     have hbW2 := xAj hw2
     clear hw2 rg0 rg1
     refine xAw ?_
     go_wp2
     go_ret
     exact ⟨xAb hf.out.symm, xAa hB.out hbW2⟩
   ·have tn : decide ((i : Int) < (l1.length : Int)) = false := qzN (by omega)
    have hf : Hid (R = true) := by
     unfold Hid
     rw [← HR.out]
     refine qzO (List.ext_getElem? fun j => ?_)
     by_cases hj : j < i
     ·exact hpre.out j hj
     ·rw [List.getElem?_eq_none (by omega), List.getElem?_eq_none (by have := HL.out; omega)]
    go_wp2
    go_ret
    exact ⟨xAb hf.out.symm, hB.out⟩
 ·have tl : ((l1.length : Int) != (l2.length : Int)) = true := by simp; omega
  have tl' : ((l1.length : Int) == (l2.length : Int)) = false := by simp; omega
  have hf : Hid (R = false) := by
   unfold Hid
   rw [← HR.out]
   exact qzN fun h => hl (by rw [h])
  clear hl
  go_enter Tryz.func36, Tryz.ntmps36
  go_wp2
  go_ret
  exact ⟨xAb hf.out.symm, Below.refl _ _⟩
theorem eqM_any (A1 A2 : Option Addr) (c1 c2 : Nat) (l1 l2 : List Mk) (w : World) (h1 : Seg w w.heap.size 5 eM A1 l1) (h2 : Seg w w.heap.size 5 eM A2 l2) (n1 : l1.length ≤ 1000000) :
  Calls Tryz.prog 37 #[.slice A1 l1.length c1, .slice A2 l2.length c2] w fun e w' => e = .returned (.bool (decide (l1 = l2))) ∧ Below w.heap.size w w' := by
 have H1 := qzL h1
 have H2 := qzL h2
 obtain ⟨R, hR⟩ : ∃ R, decide (l1 = l2) = R := ⟨_, rfl⟩
 rw [hR]
 have HR := qzL hR
 clear hR h1 h2
 by_cases hl : l1.length = l2.length
 ·have tl : ((l1.length : Int) != (l2.length : Int)) = false := by simp [hl]
  have tl' : ((l1.length : Int) == (l2.length : Int)) = true := by simp [hl]
  have HL := qzL hl
  clear hl
  go_enter Tryz.func37, Tryz.ntmps37
  go_upto_region 4 with (fail)
  go_loopw [13] (fun y WR => ∃ (i : Nat), i ≤ l1.length ∧ y = .int .i64 i ∧ Hid (∀ j, j < i → l1[j]? = l2[j]?) ∧ Hid (Below w.heap.size w WR)) (fun y _ => 2000000 - (intOf y).toNat)
  case atStart => exact ⟨0, by omega, rfl, fun j hj => by omega, by unfold Hid; (repeat (first | (with_reducible first | assumption | exact Below.refl _ _ | refine xAk ?_ _ | refine Below.drew ?_ | refine xAc ?_ _ | refine Below.setCell ?_ (by first | omega | (simp; done) | (simp; omega)) _ | refine xAa ?_ (by assumption)) | (refine xAa (a := World.drew _) ?_ (by with_reducible assumption))))⟩
  case round =>
   obtain ⟨i, hi', rfl, hpre, hB⟩ := hrel
   by_cases hlt : i < l1.length
   ·have tn : decide ((i : Int) < (l1.length : Int)) = true := qzO (by omega)
    have hl2 : i < l2.length := by rw [← HL.out]; exact hlt
    obtain ⟨x, hx⟩ : ∃ x, l1[i]? = some x := ⟨_, qzJ hlt⟩
    obtain ⟨y, hy⟩ : ∃ y, l2[i]? = some y := ⟨_, qzJ hl2⟩
    obtain ⟨b1, o1, e1, hb1, hc1⟩ := xAv (H1.out.below hB.out) hx
    obtain ⟨b2, o2, e2, hb2, hc2⟩ := xAv (H2.out.below hB.out) hy
    have x0 : wr.cell? ⟨b1, o1 + i * 5, none⟩ = some (.int .i64 x.st) := by simpa using hc1 0 _ rfl
    have x1 : wr.cell? ⟨b1, o1 + i * 5 + 1, none⟩ = some (.int .i64 x.left) := hc1 1 _ rfl
    have x2 : wr.cell? ⟨b1, o1 + i * 5 + 2, none⟩ = some (.int .i64 x.got) := hc1 2 _ rfl
    have x3 : wr.cell? ⟨b1, o1 + i * 5 + 3, none⟩ = some (.int .i64 x.brr) := hc1 3 _ rfl
    have x4 : wr.cell? ⟨b1, o1 + i * 5 + 4, none⟩ = some (.bool x.pau) := hc1 4 _ rfl
    have y0 : wr.cell? ⟨b2, o2 + i * 5, none⟩ = some (.int .i64 y.st) := by simpa using hc2 0 _ rfl
    have y1 : wr.cell? ⟨b2, o2 + i * 5 + 1, none⟩ = some (.int .i64 y.left) := hc2 1 _ rfl
    have y2 : wr.cell? ⟨b2, o2 + i * 5 + 2, none⟩ = some (.int .i64 y.got) := hc2 2 _ rfl
    have y3 : wr.cell? ⟨b2, o2 + i * 5 + 3, none⟩ = some (.int .i64 y.brr) := hc2 3 _ rfl
    have y4 : wr.cell? ⟨b2, o2 + i * 5 + 4, none⟩ = some (.bool y.pau) := hc2 4 _ rfl
    have hix := fun W => xAp (t := 45) (size := 5) (cap := c1) (len := l1.length) e1 hlt (by kernel_rfl) (fun W => by kernel_rfl) W
    have hiy := fun W => xAp (t := 45) (size := 5) (cap := c2) (len := l2.length) e2 hl2 (by kernel_rfl) (fun W => by kernel_rfl) W
    have HX := qzL hx
    have HY := qzL hy
    have heq := fun W => eqvM x y W
    clear hc1 hc2 hx hy e1 e2
    by_cases he : x = y
    ·have hd : decide (x = y) = true := qzO he
     simp only [hd] at heq
     have hp2 : Hid (∀ j, j < i + 1 → l1[j]? = l2[j]?) := by
      intro j hj
      by_cases q : j = i
      ·rw [q, HX.out, HY.out, he]
      ·exact hpre.out j (by omega)
     clear hd he hpre
     go_upto_region 6 with (fail)
     have rg0 := cR x0
     have rg1 := cR x1
     have rg2 := cR x2
     have rg3 := cR x3
     have rg4 := cR x4
     have rg5 := cR y0
     have rg6 := cR y1
     have rg7 := cR y2
     have rg8 := cR y3
     have rg9 := cR y4
     refine xAg [0, 1, 2, 3, 4, 5, 6, 7, 8] [] (by kernel_rfl) (by kernel_rfl) pO ?_
     simp only [xAn, qzA, qzB, qzC, qzD, qzE, qzF]
     repeat (go_big_quiet_step (fail))
     refine wpQuiet_nil ?_
     intro W2 hw2
     have hbW2 := xAj hw2
     clear hw2 rg0 rg1 rg2 rg3 rg4 rg5 rg6 rg7 rg8 rg9
     refine xAw ?_
     go_wp2
     go_roundw
     case rel => exact ⟨i + 1, by omega, by simp, hp2, xAa hB.out hbW2⟩
     case measure => simp [intOf]; omega
    ·have hd : decide (x = y) = false := qzN he
     simp only [hd] at heq
     have hf : Hid (R = false) := by
      unfold Hid
      rw [← HR.out]
      refine qzN fun h => he ?_
      have := HX.out
      rw [h, HY.out] at this
      exact (Option.some.inj this).symm
     clear he hpre
     go_upto_region 6 with (fail)
     have rg0 := cR x0
     have rg1 := cR x1
     have rg2 := cR x2
     have rg3 := cR x3
     have rg4 := cR x4
     have rg5 := cR y0
     have rg6 := cR y1
     have rg7 := cR y2
     have rg8 := cR y3
     have rg9 := cR y4
     refine xAg [0, 1, 2, 3, 4, 5, 6, 7, 8] [] (by kernel_rfl) (by kernel_rfl) pO ?_
     simp only [xAn, qzA, qzB, qzC, qzD, qzE, qzF]
     repeat (go_big_quiet_step (fail))
     refine wpQuiet_nil ?_
     intro W2 hw2
     have hbW2 := xAj hw2
     clear hw2 rg0 rg1 rg2 rg3 rg4 rg5 rg6 rg7 rg8 rg9
     refine xAw ?_
     go_wp2
     go_ret
     exact ⟨xAb hf.out.symm, xAa hB.out hbW2⟩
   ·have tn : decide ((i : Int) < (l1.length : Int)) = false := qzN (by omega)
    have hf : Hid (R = true) := by
     unfold Hid
     rw [← HR.out]
     refine qzO (List.ext_getElem? fun j => ?_)
     by_cases hj : j < i
     ·exact hpre.out j hj
     ·rw [List.getElem?_eq_none (by omega), List.getElem?_eq_none (by have := HL.out; omega)]
    go_wp2
    go_ret
    exact ⟨xAb hf.out.symm, hB.out⟩
 ·have tl : ((l1.length : Int) != (l2.length : Int)) = true := by simp; omega
  have tl' : ((l1.length : Int) == (l2.length : Int)) = false := by simp; omega
  have hf : Hid (R = false) := by
   unfold Hid
   rw [← HR.out]
   exact qzN fun h => hl (by rw [h])
  clear hl
  go_enter Tryz.func37, Tryz.ntmps37
  go_wp2
  go_ret
  exact ⟨xAb hf.out.symm, Below.refl _ _⟩
theorem same_any (x y : Sta) (q r : Qm) (w : World) (hx : Stm w x q) (hy : Stm w y r) :
  Calls Tryz.prog 13 #[.agg (stA x q), .agg (stA y r)] w fun e w' => e = .returned (.bool (decide (x = y))) ∧ Below w.heap.size w w' := by
 obtain ⟨B1, h1⟩ : ∃ b, decide (x.hol = y.hol) = b := ⟨_, rfl⟩
 obtain ⟨B2, h2⟩ : ∃ b, decide (x.used = y.used) = b := ⟨_, rfl⟩
 obtain ⟨B3, h3⟩ : ∃ b, decide (x.marks = y.marks) = b := ⟨_, rfl⟩
 have hR : Hid (decide (x = y) = (x.day == y.day && B1 && B2 && B3)) := by
  unfold Hid
  rw [← h1, ← h2, ← h3]
  obtain ⟨a1, a2, a3, a4⟩ := x
  obtain ⟨b1, b2, b3, b4⟩ := y
  rw [Bool.eq_iff_iff]
  simp [and_assoc]
 obtain ⟨R, eR⟩ : ∃ R, decide (x = y) = R := ⟨_, rfl⟩
 rw [eR] at hR ⊢
 have HX := qzL hx
 have HY := qzL hy
 have C1 : Hid (∀ W, Below w.heap.size w W → Calls Tryz.prog 35 #[.slice q.h x.hol.length q.hc, .slice r.h y.hol.length r.hc] W fun e w' => e = .returned (.bool B1) ∧ Below W.heap.size W w') := fun W hb => h1 ▸ eqI_any q.h r.h q.hc r.hc x.hol y.hol W (hx.then_ hb).h (hy.then_ hb).h hx.nh
 have C2 : Hid (∀ W, Below w.heap.size w W → Calls Tryz.prog 36 #[.slice q.u x.used.length q.uc, .slice r.u y.used.length r.uc] W fun e w' => e = .returned (.bool B2) ∧ Below W.heap.size W w') := fun W hb => h2 ▸ eqU_any q.u r.u q.uc r.uc x.used y.used W (hx.then_ hb).u (hy.then_ hb).u hx.nu
 have C3 : Hid (∀ W, Below w.heap.size w W → Calls Tryz.prog 37 #[.slice q.m x.marks.length q.mc, .slice r.m y.marks.length r.mc] W fun e w' => e = .returned (.bool B3) ∧ Below W.heap.size W w') := fun W hb => h3 ▸ eqM_any q.m r.m q.mc r.mc x.marks y.marks W (hx.then_ hb).m (hy.then_ hb).m hx.nm
 clear hx hy h1 h2 h3 eR
 go_enter Tryz.func13, Tryz.ntmps13
 go_upto_region 1 with (fail)
 refine xAi ?_
 intro X hX
 have ga : Blk X w.heap.size 47 (stA x q) := by rw [hX]; exact (Blk.new _ _ _).alloc _
 have gb : Blk X (w.heap.size + 1) 47 (stA y r) := by rw [hX]; exact xA0 (by simp)
 have HB : Below w.heap.size w X := by rw [hX]; (repeat (first | exact Below.refl _ _ | refine xAc ?_ _))
 obtain ⟨bb, eb⟩ : ∃ b, w.heap.size + 1 = b := ⟨_, rfl⟩
 obtain ⟨ba, ea⟩ : ∃ b, w.heap.size = b := ⟨_, rfl⟩
 rw [eb] at gb ⊢
 rw [ea] at ga ⊢
 have la := ga.lt
 have lb := gb.lt
 clear hX eb ea
 have GA := qzL ga
 have GB := qzL gb
 have a0 : X.cell? ⟨ba, 0, none⟩ = some (.int .i64 x.day) := ga.cell 0
 have a1 : X.cell? ⟨ba, 1, none⟩ = some (.slice q.h x.hol.length q.hc) := ga.cell 1
 have b0 : X.cell? ⟨bb, 0, none⟩ = some (.int .i64 y.day) := gb.cell 0
 have b1 : X.cell? ⟨bb, 1, none⟩ = some (.slice r.h y.hol.length r.hc) := gb.cell 1
 clear ga gb
 cases t1 : (x.day == y.day) with
 | false =>
  have hf : Hid (R = false) := by unfold Hid; rw [hR.out, t1]; rfl
  go_wp2
  go_ret
  exact ⟨xAb hf.out.symm, HB⟩
 | true =>
 have HR1 : Hid (R = (B1 && B2 && B3)) := by unfold Hid; rw [hR.out, t1]; rfl
 cases B1 with
 | false =>
  have hf : Hid (R = false) := by unfold Hid; rw [HR1.out]; rfl
  go_wp2_with (go_at_call 35; (with_reducible refine (C1.out _ HB).mono ?_); rintro e w1 ⟨rfl, hb1⟩)
  go_ret
  exact ⟨xAb hf.out.symm, xAa HB hb1⟩
 | true =>
 have HR2 : Hid (R = (B2 && B3)) := by unfold Hid; rw [HR1.out]; rfl
 cases B2 with
 | false =>
  have hf : Hid (R = false) := by unfold Hid; rw [HR2.out]; rfl
  go_wp2_with (first | (go_at_call 35; (with_reducible refine (C1.out _ HB).mono ?_); rintro e w1 ⟨rfl, hb1⟩; have a2 : w1.cell? ⟨ba, 2, none⟩ = some (.slice q.u x.used.length q.uc) := (GA.out.then_ hb1).cell 2; have b2 : w1.cell? ⟨bb, 2, none⟩ = some (.slice r.u y.used.length r.uc) := (GB.out.then_ hb1).cell 2; have HB1 := xAa HB hb1) | (go_at_call 36; (with_reducible refine (C2.out _ HB1).mono ?_); rintro e w2 ⟨rfl, hb2⟩))
  go_ret
  exact ⟨xAb hf.out.symm, xAa HB1 hb2⟩
 | true =>
 have HR3 : Hid (R = B3) := by unfold Hid; rw [HR2.out]; rfl
 go_wp2_with (first | (go_at_call 35; (with_reducible refine (C1.out _ HB).mono ?_); rintro e w1 ⟨rfl, hb1⟩; have a2 : w1.cell? ⟨ba, 2, none⟩ = some (.slice q.u x.used.length q.uc) := (GA.out.then_ hb1).cell 2; have b2 : w1.cell? ⟨bb, 2, none⟩ = some (.slice r.u y.used.length r.uc) := (GB.out.then_ hb1).cell 2; have HB1 := xAa HB hb1) | (go_at_call 36; (with_reducible refine (C2.out _ HB1).mono ?_); rintro e w2 ⟨rfl, hb2⟩; have a3 : w2.cell? ⟨ba, 3, none⟩ = some (.slice q.m x.marks.length q.mc) := (GA.out.then_ (xAa hb1 hb2)).cell 3; have b3 : w2.cell? ⟨bb, 3, none⟩ = some (.slice r.m y.marks.length r.mc) := (GB.out.then_ (xAa hb1 hb2)).cell 3; have HB2 := xAa HB1 hb2) | (go_at_call 37; (with_reducible refine (C3.out _ HB2).mono ?_); rintro e w3 ⟨rfl, hb3⟩))
 go_ret
 exact ⟨xAb HR3.out.symm, xAa HB2 hb3⟩
end Go.Proofs.YtffceokjeonpcaaGreatDoor
