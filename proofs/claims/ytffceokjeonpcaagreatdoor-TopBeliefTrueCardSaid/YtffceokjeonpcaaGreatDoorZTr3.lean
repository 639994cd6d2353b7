/- The walk of w11Holds: is a state in a list? -/
import Derived.Test.YtffceokjeonpcaaGreatDoorZWb1
import Derived.Test.YtffceokjeonpcaaGreatDoorMb1
set_option maxHeartbeats 6400000
set_option maxRecDepth 100000
namespace Go.Proofs.YtffceokjeonpcaaGreatDoor
open Go.RowKit
theorem holds_any (rows : List (Sta × Qm)) (A : Option Addr) (cap : Nat) (s : Sta) (q : Qm) (w : World) (hA : Seg w w.heap.size 4 eQ A rows) (hrow : ∀ x ∈ rows, Stm w x.1 x.2) (hS : Stm w s q) (nl : rows.length ≤ 1000000) :
  Calls Tryz.prog 14 #[.slice A rows.length cap, .agg (stA s q)] w fun e w' => e = .returned (.bool (rows.any fun x => decide (x.1 = s))) ∧ Below w.heap.size w w' := by
 obtain ⟨R, hR⟩ : ∃ r, (rows.any fun x => decide (x.1 = s)) = r := ⟨_, rfl⟩
 rw [hR]
 have HR := qzL hR.symm
 have HA := qzL hA
 have HC0 : Hid (∀ x ∈ rows, ∀ W, Below w.heap.size w W → Calls Tryz.prog 13 #[.agg (stA x.1 x.2), .agg (stA s q)] W fun e w' => e = .returned (.bool (decide (x.1 = s))) ∧ Below W.heap.size W w') := fun x hx W hb => same_any x.1 s x.2 q W ((hrow x hx).then_ hb) (hS.then_ hb)
 clear hR hA hrow hS
 go_enter Tryz.func14, Tryz.ntmps14
 go_upto_region 1 with (fail)
 refine xAi ?_
 intro X hX
 have gs : Blk X w.heap.size 47 (stA s q) := by rw [hX]; exact Blk.new _ _ _
 have HB : Hid (Below w.heap.size w X) := by unfold Hid; rw [hX]; (repeat first | exact Below.refl _ _ | refine xAc ?_ _)
 obtain ⟨bs, ebs⟩ : ∃ b, w.heap.size = b := ⟨_, rfl⟩
 rw [ebs] at gs ⊢
 have GX := qzL gs
 clear hX ebs gs
 go_upto_region 2 with (fail)
 go_loopw [5] (fun y WR => ∃ (i : Nat), i ≤ rows.length ∧ y = .int .i64 i ∧ Hid (∀ j x, j < i → rows[j]? = some x → decide (x.1 = s) = false) ∧ Hid (Below X.heap.size X WR)) (fun y _ => 2000000 - (intOf y).toNat)
 case atStart => exact ⟨0, by omega, rfl, (fun j k hj => by omega), Below.refl _ _⟩
 case round =>
  obtain ⟨i, hi', rfl, hpre, hB0⟩ := hrel
  have hB := qzL (xAa HB.out hB0.out)
  by_cases hlt : i < rows.length
  case neg =>
   have tn : decide ((i : Int) < (rows.length : Int)) = false := qzN (by omega)
   have hf : Hid (R = false) := by
    unfold Hid
    rw [HR.out]
    refine List.any_eq_false.2 fun x hx hh => ?_
    obtain ⟨j, hj, e⟩ := List.getElem_of_mem hx
    exact absurd ((hpre.out j x (by omega) (by rw [← e]; exact qzJ hj)).symm.trans hh) (by decide)
   clear hpre
   go_wp2
   go_ret
   exact ⟨xAb hf.out.symm, hB.out⟩
  have tn : decide ((i : Int) < (rows.length : Int)) = true := qzO (by omega)
  obtain ⟨x, hx⟩ : ∃ k, rows[i]? = some k := ⟨_, qzJ hlt⟩
  obtain ⟨b0, o0, eA0, hb0', hc0⟩ := xAv HA.out hx
  have hb0 : b0 < wr.heap.size := Nat.lt_of_lt_of_le hb0' hB.out.size
  have hrg : wr.rangeAt b0 (o0 + i * 4) (eQ x) := fun j v hv => (hB.out.cell (p := ⟨b0, o0 + i * 4 + j, none⟩) hb0').trans (hc0 j v hv)
  have hix := fun W => xAp (t := 31) (size := 4) (cap := cap) (len := rows.length) eA0 hlt (by kernel_rfl) (fun W => by kernel_rfl) W
  have GS := qzL (GX.out.then_ hB0.out)
  obtain ⟨bb, hbb⟩ : ∃ b, decide (x.1 = s) = b := ⟨_, rfl⟩
  have HC : Hid (∀ W, Below wr.heap.size wr W → Calls Tryz.prog 13 #[.agg (eQ x).toArray, .agg (stA s q)] W fun e w' => e = .returned (.bool bb) ∧ Below W.heap.size W w') := fun W hb => by rw [← hbb]; exact HC0.out x (qzK hx) W (xAa hB.out hb)
  have HX := qzL hx
  have HBB := qzL hbb
  clear hx hc0 eA0 hbb hb0'
  go_upto_region 4 with (fail)
  refine xBf (fun w' => Hid (Below wr.heap.size wr w')) [0, 1, 2, 3, 4] [5] (by kernel_rfl) (by kernel_rfl) pO (qzL (Below.drew (Below.refl _ _))) (fun hdir hsel hpan hHeld => ?_)
  refine xAd (i := 0) (oi := ⟨some 12, _, _, _, _, _⟩) hdir hsel hpan rfl (by kernel_rfl) (by kernel_rfl) (by kernel_rfl) (Or.inl ⟨by rfl, fun _ _ => by rfl⟩) (by assumption) ?_
  try simp only [Act.put, qzG, qzI, qzH]
  refine xAd (i := 1) (oi := ⟨some 13, _, _, _, _, _⟩) hdir hsel hpan rfl (by kernel_rfl) (by kernel_rfl) (by kernel_rfl) (Or.inl ⟨by rfl, fun _ _ => by rfl⟩) (by assumption) ?_
  try simp only [Act.put, qzG, qzI, qzH]
  refine xAd (i := 2) (oi := ⟨some 14, _, _, _, _, _⟩) (v := .pointer (some ⟨b0, o0 + i * 4, none⟩)) hdir hsel hpan rfl (by kernel_rfl) (by kernel_rfl) (by kernel_rfl) (Or.inl ⟨by rfl, fun w hw => by have h := hix w; go_simp⟩) (by assumption) ?_
  try simp only [Act.put, qzG, qzI, qzH]
  refine xAd (i := 3) (oi := ⟨some 15, _, _, _, _, _⟩) hdir hsel hpan rfl (by kernel_rfl) (by kernel_rfl) (by kernel_rfl) (yieldsIf_load_mid (by rfl) 47 _ rfl b0 _ rfl (eQ x) _ (fun w hw => (fun j v hv => (hw.out.cell (p := ⟨b0, _, none⟩) hb0).trans (hrg j v hv))) Tryz.underlying47 rfl (by kernel_rfl)) (by assumption) ?_
  try simp only [Act.put, qzG, qzI, qzH]
  refine xAd (i := 4) (oi := ⟨some 16, _, _, _, _, _⟩) hdir hsel hpan rfl (by kernel_rfl) (by kernel_rfl) (by kernel_rfl) (yieldsIf_row (by rfl) 47 _ rfl bs rfl 47 _ (fun w hw => (GS.out.then_ hw.out)) ⟨_, Tryz.underlying47⟩ (by kernel_rfl)) (by assumption) ?_
  try simp only [Act.put, qzG, qzI, qzH]
  refine xA6 (by kernel_rfl) (by kernel_rfl) ?_
  clear hdir hsel hpan
  simp only [xAn, qzA, qzB, qzC, qzD, qzE, qzF]
  have HSM := qzL (HC.out _ hHeld.out)
  cases bb with
  | true =>
   have hf : Hid (R = true) := by unfold Hid; rw [HR.out]; exact List.any_eq_true.2 ⟨x, qzK HX.out, HBB.out⟩
   go_wp2_with (go_at_call 13; (with_reducible refine HSM.out.mono ?_); rintro e w1 ⟨rfl, hb1⟩; have HB1 := qzL (xAa hHeld.out hb1); clear hb1)
   go_ret
   exact ⟨xAb hf.out.symm, xAa hB.out HB1.out⟩
  | false =>
   have hp : Hid (∀ j y, j < i + 1 → rows[j]? = some y → decide (y.1 = s) = false) := fun j y hj hy => by
    by_cases e : j = i
    ·rw [e, HX.out] at hy; cases hy; exact HBB.out
    ·exact hpre.out j y (by omega) hy
   have hii : i + 1 ≤ rows.length := hlt
   go_wp2_with (go_at_call 13; (with_reducible refine HSM.out.mono ?_); rintro e w1 ⟨rfl, hb1⟩; have HB1 := qzL (xAa hHeld.out hb1); clear hb1)
   refine ⟨⟨i + 1, hii, by simp, hp, xAa hB0.out HB1.out⟩, ?_⟩
   simp [intOf]
   omega
end Go.Proofs.YtffceokjeonpcaaGreatDoor
