/- The walk of short: the laws' limit on states. -/
import Derived.Test.YtginnonjdbpamaaGreatDoorMc35
import Derived.Test.YtginnonjdbpamaaGreatDoorMc1
set_option maxHeartbeats 3200000
set_option maxRecDepth 100000
namespace Go.Proofs.YtginnonjdbpamaaGreatDoor
open Go.RowKit
def shQ (x : Sta × Qm) : Bool := !(decide ((20 : Int) < (x.1.hol.length : Int)) || decide ((80 : Int) < (x.1.used.length : Int)) || decide ((20 : Int) < (x.1.marks.length : Int)))
theorem short_any (rows : List (Sta × Qm)) (A : Option Addr) (cap : Nat) (w : World) (hA : Seg w w.heap.size 4 eQ A rows) (hn : rows.length ≤ 62) :
  Calls Tryz.prog 18 #[.slice A rows.length cap] w fun e w' => e = .returned (.bool (rows.all shQ)) ∧ Below w.heap.size w w' := by
 obtain ⟨R, hR⟩ : ∃ r, rows.all shQ = r := ⟨_, rfl⟩
 rw [hR]
 have HR := qzL hR
 have HA := qzL hA
 have t0 : decide ((62 : Int) < (rows.length : Int)) = false := qzN (by omega)
 have HN := qzL hn
 clear hR hA hn
 go_enter Tryz.func18, Tryz.ntmps18
 go_upto_region 4 with (fail)
 go_loopw [3] (fun y WR => ∃ (i : Nat), i ≤ rows.length ∧ y = .int .i64 i ∧ Hid (∀ j x, j < i → rows[j]? = some x → shQ x = true) ∧ w = WR) (fun y _ => 2000000 - (intOf y).toNat)
 case atStart => exact ⟨0, by omega, rfl, (fun j k hj => by omega), rfl⟩
 case round =>
  obtain ⟨i, hi', rfl, hpre, rfl⟩ := hrel
  by_cases hlt : i < rows.length
  ·have tn : decide ((i : Int) < (rows.length : Int)) = true := qzO (by omega)
   obtain ⟨x, hx⟩ : ∃ k, rows[i]? = some k := ⟨_, qzJ hlt⟩
   obtain ⟨b0, o0, eA0, hb0, hc0⟩ := xAx HA.out hx
   have x1 : w.cell? ⟨b0, o0 + i * 4 + 1, none⟩ = some (.slice x.2.h x.1.hol.length x.2.hc) := hc0 1 _ rfl
   have x2 : w.cell? ⟨b0, o0 + i * 4 + 2, none⟩ = some (.slice x.2.u x.1.used.length x.2.uc) := hc0 2 _ rfl
   have x3 : w.cell? ⟨b0, o0 + i * 4 + 3, none⟩ = some (.slice x.2.m x.1.marks.length x.2.mc) := hc0 3 _ rfl
   have hix := fun W => xAq (t := 30) (size := 4) (cap := cap) (len := rows.length) eA0 hlt (by kernel_rfl) (fun W => by kernel_rfl) W
   have HX := qzL hx
   obtain ⟨e1, E1⟩ : ∃ z, decide ((20 : Int) < (x.1.hol.length : Int)) = z := ⟨_, rfl⟩
   obtain ⟨e2, E2⟩ : ∃ z, decide ((80 : Int) < (x.1.used.length : Int)) = z := ⟨_, rfl⟩
   obtain ⟨e3, E3⟩ : ∃ z, decide ((20 : Int) < (x.1.marks.length : Int)) = z := ⟨_, rfl⟩
   have hq : Hid (shQ x = !(e1 || e2 || e3)) := by unfold Hid shQ; rw [E1, E2, E3]
   have hno : Hid (shQ x = false → R = false) := fun h => by
    rw [← HR.out]
    exact List.all_eq_false.2 ⟨x, qzK HX.out, by rw [h]; decide⟩
   have hyes : Hid (shQ x = true → ∀ j y, j < i + 1 → rows[j]? = some y → shQ y = true) := fun h j y hj hy => by
    by_cases q : j = i
    ·rw [q, HX.out] at hy
     cases hy
     exact h
    ·exact hpre.out j y (by omega) hy
   clear hc0 hx eA0 hpre
   cases e1
   case true =>
    have hf : Hid (R = false) := hno.out (by rw [hq.out]; rfl)
    go_wp2
    go_ret
    exact ⟨xAb hf.out.symm, Below.refl _ _⟩
   cases e2
   case true =>
    have hf : Hid (R = false) := hno.out (by rw [hq.out]; rfl)
    go_wp2
    go_ret
    exact ⟨xAb hf.out.symm, Below.refl _ _⟩
   cases e3
   case true =>
    have hf : Hid (R = false) := hno.out (by rw [hq.out]; rfl)
    go_wp2
    go_ret
    exact ⟨xAb hf.out.symm, Below.refl _ _⟩
   have hp := qzL (hyes.out (by rw [hq.out]; rfl))
   have hnn := HN.out
   go_wp2
   go_roundw
   case rel => exact ⟨i + 1, by omega, by simp, hp, by trivial⟩
   case measure => simp [intOf]; omega
  ·have tn : decide ((i : Int) < (rows.length : Int)) = false := qzN (by omega)
   have hf : Hid (R = true) := by
    unfold Hid
    rw [← HR.out, List.all_eq_true]
    intro x hx
    obtain ⟨j, hj, e⟩ := List.getElem_of_mem hx
    exact hpre.out j x (by omega) (by rw [← e]; exact qzJ hj)
   clear hpre
   go_wp2
   go_ret
   exact ⟨xAb hf.out.symm, Below.refl _ _⟩
end Go.Proofs.YtginnonjdbpamaaGreatDoor
