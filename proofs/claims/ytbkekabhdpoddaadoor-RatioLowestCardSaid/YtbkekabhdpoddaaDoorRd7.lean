/- RatioLowest at every two integers. -/
import Derived.Test.YtbkekabhdpoddaaDoorRd6
import Derived.Test.YtbkekabhdpoddaaDoorRdm
namespace Go.Proofs.YtbkekabhdpoddaaDoor
open Go.RowKit

theorem mx_mag (a : Int) : max a (-a) = mag a := by unfold mag; omega
theorem den_mag {a b : Int} (hb : b ≠ 0) : ((Rat.divInt a b).den : Int) = mag b / (Int.gcd (mag a) (mag b) : Int) := by
  rw [← divInt_mag a b]
  exact sgn_den _ (by unfold mag; omega)
theorem lowest_law (p1 p2 : Int) (w : World) (hL : Lw w) (h1 : B64 p1) (h2 : B64 p2) :
    Calls Tryd.prog 3 #[.int .i64 p1, .int .i64 p2] w fun e w' => e = .returned (.bool true) ∧ Below w.heap.size w w' := by
  obtain ⟨a, ea⟩ : ∃ x, p1.tmod 1000000001 = x := ⟨_, rfl⟩
  obtain ⟨b, eb⟩ : ∃ x, p2.tmod 1000000001 = x := ⟨_, rfl⟩
  have ra : -1000000000 ≤ a ∧ a ≤ 1000000000 := by
    have h1 := Int.tmod_lt_of_pos p1 (show (0 : Int) < 1000000001 by omega)
    have h2 := Int.lt_tmod_of_pos p1 (show (0 : Int) < 1000000001 by omega)
    omega
  have rb : -1000000000 ≤ b ∧ b ≤ 1000000000 := by
    have h1 := Int.tmod_lt_of_pos p2 (show (0 : Int) < 1000000001 by omega)
    have h2 := Int.lt_tmod_of_pos p2 (show (0 : Int) < 1000000001 by omega)
    omega
  have S1 : Hid (∀ W, Calls Tryd.prog 12 #[.int .i64 p1] W fun e w' => e = .returned (.int .i64 a) ∧ Below W.heap.size W w') := fun W => ea ▸ small_any p1 W
  have S2 : Hid (∀ W, Calls Tryd.prog 12 #[.int .i64 p2] W fun e w' => e = .returned (.int .i64 b) ∧ Below W.heap.size W w') := fun W => eb ▸ small_any p2 W
  have HH : Hid (∀ W, Below w.heap.size w W → Calls Tryd.prog 11 #[] W fun e w' => e = .returned (.bool true) ∧ Below W.heap.size W w') := fun W hb => head_any W (hL.below hb)
  by_cases h0 : b = 0
  · exact lowest_zero p1 p2 a b (max a (-a)) (max b (-b)) 0 0 0 0 1 0 w HH S1 S2 (fun W => by rw [h0]; exact make0_any a W) ra rb (fun W ts t => mx_run2 _ _ W ts t) (fun W ts t => mx_run2 _ _ W ts t) h0 rfl rfl rfl
  · have HM := fun W => make_any a b W h0 (by omega) (by omega) (by omega) (by omega)
    have hG := Int.gcd_pos_of_ne_zero_right (mag a) (b := mag b) (by unfold mag; omega)
    have hbd := gcd_bd (mag a) (mag b) (by unfold mag; omega)
    have rB : 0 < mag b ∧ mag b ≤ 1000000000 := by unfold mag; omega
    have rA : 0 ≤ mag a ∧ mag a ≤ 1000000000 := by unfold mag; omega
    have hden := den_mag (a := a) h0
    have hq := quot_bd' (a := a) (A := 1000000000) (B := 1000000000) h0 (by omega) (by omega) (by omega) (by omega)
    have hx := quot_cross (a := a) h0
    have hg := gcd_any (mag a) (mag b)
    have hpos := den_pos' (Rat.divInt a b)
    refine lowest_key p1 p2 a b (mag a) (mag b) (Int.gcd (mag a) (mag b)) (mag b / (Int.gcd (mag a) (mag b) : Int)) (oN (Rat.divInt a b)) (oD (Rat.divInt a b)) (oE (Rat.divInt a b)) (a * (Rat.divInt a b).den) w HH S1 S2 HM ra rb (fun W ts t => mx_mag a ▸ mx_run2 _ _ W ts t) (fun W ts t => mx_mag b ▸ mx_run2 _ _ W ts t) h0 rA rB (fun W => (hg W (by omega) (by omega) (by omega) (by omega)).mono fun _ _ ⟨x, n, y⟩ => ⟨x, y ▸ below_drewN (Below.refl _ _) n⟩) (by omega)
      (Int.tdiv_eq_ediv_of_nonneg (by omega)) (by rw [← hden]; omega) ?_ ?_
    · intro W he
      have hi : inR (Rat.divInt a b) = true := oE_ok he
      rw [oN_yes hi, oD_yes hi]
      exact valid_rat _ W hi
    · rw [← hden]
      cases hi : inR (Rat.divInt a b) with
      | false =>
        refine .inl ⟨?_, oN_no hi, oD_no hi, oE_no hi⟩
        simp only [inR, decide_eq_false_iff_not] at hi
        omega
      | true =>
        have hb' := inR_bd hi
        rw [oN_yes hi, oD_yes hi]
        have hr := mul_rng (A := 1000000000) (B := 1000000) (by omega) (by omega) (a := a) (b := ((Rat.divInt a b).den : Int)) (by omega) (by omega)
        exact .inr ⟨by omega, oE_yes hi, hx, rfl, rfl, by omega⟩
end Go.Proofs.YtbkekabhdpoddaaDoor
