/- The walk of the reference's Ints: lists of numbers compared. -/
import Derived.Test.YtginnonjdbpamaaGreatDoorMc18
import Derived.Test.YtginnonjdbpamaaGreatDoorMc5
import Derived.Test.YtginnonjdbpamaaGreatDoorMc10
import Derived.Test.YtginnonjdbpamaaGreatDoorMc1
set_option maxHeartbeats 3200000
set_option maxRecDepth 100000
namespace Go.Proofs.YtginnonjdbpamaaGreatDoor
open Go.RowKit
theorem ints_any (A B : Option Addr) (ca cb : Nat) (l m : List Int) (w : World) (hA : Seg w w.heap.size 1 eI A l) (hB : Seg w w.heap.size 1 eI B m) (hl : l.length ≤ 1000000) :
  Calls Tryz.prog 28 #[.slice A l.length ca, .slice B m.length cb] w fun e w' => e = .returned (.bool (decide (l = m))) ∧ Below w.heap.size w w' := by
 obtain ⟨R, hR⟩ : ∃ R, decide (l = m) = R := ⟨_, rfl⟩
 rw [hR]
 have HR : Hid (R = decide (l = m)) := hR.symm
 have HA := qzL hA
 have HB := qzL hB
 clear hR hA hB
 by_cases hn : l.length = m.length
 ·have t0 : ((l.length : Int) != (m.length : Int)) = false := by rw [bne_eq_false_iff_eq]; omega
  have HN := qzL hn
  clear hn
  go_enter Tryz.func28, Tryz.ntmps28
  go_upto_region 4 with (fail)
  clear t0
  go_loopw [5] (fun y WR => ∃ i : Nat, y = .int .i64 i ∧ i ≤ l.length ∧ Hid (∀ k, k < i → l[k]? = m[k]?) ∧ Hid (Below w.heap.size w WR)) (fun y _ => 2000000 - (intOf y).toNat)
  case atStart => exact ⟨0, rfl, by omega, fun k h => by omega, Below.refl _ _⟩
  case round =>
   obtain ⟨i, rfl, hi, hE, hb⟩ := hrel
   by_cases hlt : i < l.length
   ·have t1 : decide ((i : Int) < (l.length : Int)) = true := qzO (by omega)
    have hlm : i < m.length := by have := HN.out; omega
    obtain ⟨x, hx⟩ : ∃ x, l[i]? = some x := ⟨_, qzJ hlt⟩
    obtain ⟨y, hy⟩ : ∃ y, m[i]? = some y := ⟨_, qzJ hlm⟩
    obtain ⟨b0, o0, eA0, hb0, hc0⟩ := xAx (HA.out.below hb.out) hx
    obtain ⟨b1, o1, eA1, hb1, hc1⟩ := xAx (HB.out.below hb.out) hy
    have hix0 := fun W => xAq (t := 22) (size := 1) (cap := ca) eA0 hlt (by kernel_rfl) (fun W => by kernel_rfl) W
    have hix1 := fun W => xAq (t := 22) (size := 1) (cap := cb) eA1 hlm (by kernel_rfl) (fun W => by kernel_rfl) W
    have d0 : wr.cell? ⟨b0, o0 + i, none⟩ = some (.int .i64 x) := by simpa using hc0 0 _ rfl
    have d1 : wr.cell? ⟨b1, o1 + i, none⟩ = some (.int .i64 y) := by simpa using hc1 0 _ rfl
    simp only [Nat.mul_one] at hix0 hix1
    have HX := qzL hx
    have HY := qzL hy
    clear hx hy hc0 hc1 eA0 eA1
    go_upto_region 6 with (fail)
    by_cases hxy : x = y
    ·have t2 : (x != y) = false := bne_eq_false_iff_eq.2 hxy
     have hE2 : Hid (∀ k, k < i + 1 → l[k]? = m[k]?) := fun k hk => by
      by_cases e : k = i
      ·rw [e, HX.out, HY.out, hxy]
      ·exact hE.out k (by omega)
     clear hxy hE
     have rg0 := cR d0
     have rg1 := cR d1
     refine xAe [0, 1, 2, 3, 4, 5, 6, 7, 8] [] (by kernel_rfl) (by kernel_rfl) pO ?_
     simp only [xAm, qzA, qzB, qzC, qzD, qzE, qzF]
     repeat (go_big_quiet_step (fail))
     refine wpQuiet_nil ?_
     intro Z hw2
     have hbZ := xAh hw2
     clear hw2 rg0 rg1
     refine xAt ?_
     have hb2 := qzL (xAa hb.out hbZ)
     clear hbZ d0 d1 hix0 hix1
     go_wp2
     go_roundw
     case rel => exact ⟨i + 1, by simp, by omega, hE2, hb2⟩
     case measure => simp [intOf]; omega
    ·have t2 : (x != y) = true := bne_iff_ne.2 hxy
     have hf : Hid (R = false) := by
      unfold Hid
      rw [HR.out]
      refine qzN fun e => hxy ?_
      have h := HX.out
      rw [e, HY.out] at h
      exact (Option.some.inj h).symm
     clear hxy hE
     have rg0 := cR d0
     have rg1 := cR d1
     refine xAe [0, 1, 2, 3, 4, 5, 6, 7, 8] [] (by kernel_rfl) (by kernel_rfl) pO ?_
     simp only [xAm, qzA, qzB, qzC, qzD, qzE, qzF]
     repeat (go_big_quiet_step (fail))
     refine wpQuiet_nil ?_
     intro Z hw2
     have hbZ := xAh hw2
     clear hw2 rg0 rg1
     refine xAt ?_
     have hb2 := qzL (xAa hb.out hbZ)
     clear hbZ d0 d1 hix0 hix1
     go_wp2
     go_ret
     exact ⟨xAb hf.out.symm, hb2.out⟩
   ·have t1 : decide ((i : Int) < (l.length : Int)) = false := qzN (by omega)
    have hf : Hid (R = true) := by
     unfold Hid
     rw [HR.out]
     refine qzO (List.ext_getElem? fun k => ?_)
     by_cases hk : k < l.length
     ·exact hE.out k (by omega)
     ·rw [List.getElem?_eq_none (by omega), List.getElem?_eq_none (by have := HN.out; omega)]
    go_wp2
    go_ret
    exact ⟨xAb hf.out.symm, hb.out⟩
 ·have t0 : ((l.length : Int) != (m.length : Int)) = true := by rw [bne_iff_ne]; omega
  have hf : Hid (R = false) := by unfold Hid; rw [HR.out]; exact qzN fun e => hn (by rw [e])
  clear hn
  go_enter Tryz.func28, Tryz.ntmps28
  go_wp2
  go_ret
  exact ⟨xAb hf.out.symm, Below.refl _ _⟩
end Go.Proofs.YtginnonjdbpamaaGreatDoor
