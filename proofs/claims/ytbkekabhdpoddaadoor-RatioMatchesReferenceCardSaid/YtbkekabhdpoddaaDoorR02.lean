/- The contracts of the functions of package ratio, second part: fraction, Make, Add, Sub, Div, Cmp. -/
import Derived.Test.YtbkekabhdpoddaaDoorR01
namespace Go.Proofs.YtbkekabhdpoddaaDoor
open Go.RowKit

theorem tup_ok {a b a' b' e e' : Int} (h1 : a = a') (h2 : b = b') (h3 : e = e') : Ending.returned (.tuple #[.agg #[.int .i64 a, .int .i64 b], .int .i64 e]) = .returned (.tuple #[.agg #[.int .i64 a', .int .i64 b'], .int .i64 e']) := by rw [h1, h2, h3]

/-- ratio.fraction: a sign, two magnitudes, the second one positive -/
theorem fraction_any (sg : Bool) (a b : Int) (w : World) (ha : 0 ≤ a) (hb : 0 < b) (ha' : a < 18446744073709551616) (hb' : b < 18446744073709551616) :
    Calls Tryd.prog 37 #[.bool sg, .int .u64 a, .int .u64 b] w fun e w' =>
      e = .returned (.tuple #[.agg #[.int .i64 (oN (Rat.divInt (if sg then -a else a) b)), .int .i64 (oD (Rat.divInt (if sg then -a else a) b))], .int .i64 (oE (Rat.divInt (if sg then -a else a) b))]) ∧ Below w.heap.size w w' := by
  have hg := gcd_bd a b hb
  have hN := Lib.hid (sgn_num sg (a := a) (b := b) hb)
  have hD := Lib.hid (sgn_den sg (a := a) (b := b) hb)
  generalize Rat.divInt (if sg then -a else a) b = r at hN hD ⊢
  have q1 : 0 ≤ a / (Int.gcd a b : Int) := Int.ediv_nonneg ha (by omega)
  have q3 : 1 ≤ b / (Int.gcd a b : Int) := by
    have := Int.ediv_pos_of_pos_of_dvd hb (by omega) (Int.gcd_dvd_right a b)
    omega
  have q2 : a / (Int.gcd a b : Int) ≤ a := Int.ediv_le_self _ ha
  have q4 : b / (Int.gcd a b : Int) ≤ b := Int.ediv_le_self _ (by omega)
  by_cases hr : a / (Int.gcd a b : Int) ≤ 1000000000000 ∧ b / (Int.gcd a b : Int) ≤ 1000000
  · have hin : inR r = true := by
      have e1 := hN.out
      have e2 := hD.out
      cases sg <;> simp at e1 <;> simp only [inR, decide_eq_true_eq] <;> omega
    have H := Lib.hid (And.intro (oN_yes hin) (And.intro (oD_yes hin) (oE_yes hin)))
    obtain ⟨r1, r2⟩ := hr
    cases sg
    all_goals
      go_enter Tryd.func37, Tryd.ntmps37
      go_wp2_with (go_at_call 39; refine (dvs_any _ a b _ (by omega) (by omega) (by omega) (by omega) (by simp [go_sem]) (by simp [go_sem])).mono ?_; rintro e w' ⟨rfl, nn, rfl⟩)
      go_quiet (fail)
      go_wp2
      refine bodyPost_ret (by simp [results, Tryd.results37, go_sem]; rfl) rfl ⟨?_, ?_⟩
      · have e1 := hN.out
        have e2 := hD.out
        simp at e1
        exact tup_ok (by rw [H.out.1, e1]) (by rw [H.out.2.1, e2]) H.out.2.2.symm
      · (repeat (first | exact Below.refl _ _ | refine below_drewN ?_ _ | refine Below.drew ?_ | refine below_alloc ?_ _ | refine Below.setCell ?_ (by first | omega | (simp; done) | (simp; omega)) _ | refine below_then ?_ (by assumption)))
  · have hin : inR r = false := by
      have e1 := hN.out
      have e2 := hD.out
      cases sg <;> simp at e1 <;> simp only [inR, decide_eq_false_iff_not] <;> omega
    have H := Lib.hid (And.intro (oN_no hin) (And.intro (oD_no hin) (oE_no hin)))
    have hc : 1000000000000 < a / (Int.gcd a b : Int) ∨ (a / (Int.gcd a b : Int) ≤ 1000000000000 ∧ 1000000 < b / (Int.gcd a b : Int)) := by omega
    clear hr
    rcases hc with r1 | ⟨r1, r2⟩
    all_goals
      go_enter Tryd.func37, Tryd.ntmps37
      go_wp2_with (go_at_call 39; refine (dvs_any _ a b _ (by omega) (by omega) (by omega) (by omega) (by simp [go_sem]) (by simp [go_sem])).mono ?_; rintro e w' ⟨rfl, nn, rfl⟩)
      go_quiet (fail)
      go_wp2
      refine bodyPost_ret (by simp [results, Tryd.results37, go_sem]; rfl) rfl ⟨?_, ?_⟩
      · exact tup_ok H.out.1.symm H.out.2.1.symm H.out.2.2.symm
      · (repeat (first | exact Below.refl _ _ | refine below_drewN ?_ _ | refine Below.drew ?_ | refine below_alloc ?_ _ | refine Below.setCell ?_ (by first | omega | (simp; done) | (simp; omega)) _ | refine below_then ?_ (by assumption)))

/-- ratio.Make at a second number that is not 0 -/
theorem make_any (p q : Int) (w : World) (hq : q ≠ 0) (p1 : -9223372036854775808 ≤ p) (p2 : p ≤ 9223372036854775807) (q1 : -9223372036854775808 ≤ q) (q2 : q ≤ 9223372036854775807) :
    Calls Tryd.prog 13 #[.int .i64 p, .int .i64 q] w fun e w' =>
      e = .returned (.tuple #[.agg #[.int .i64 (oN (Rat.divInt p q)), .int .i64 (oD (Rat.divInt p q))], .int .i64 (oE (Rat.divInt p q))]) ∧ Below w.heap.size w w' := by
  have H := divInt_mag p q
  have m1 := mag_bd p1 p2
  have m2 := mag_bd q1 q2
  have m3 : 0 < mag q := by unfold mag; omega
  have hq' : (q == 0) = false := by simpa using hq
  clear hq
  by_cases h1 : p < 0 <;> by_cases h2 : q < 0
  all_goals
    simp only [h1, h2, decide_true, decide_false, bne_self_eq_false, Bool.true_bne, Bool.false_bne, Bool.not_false, Bool.false_eq_true, if_true, if_false] at H
    have HH := Lib.hid H
    clear H
    go_enter Tryd.func13, Tryd.ntmps13
    go_wp2_with (first | (go_at_call 38; refine (mag_any _ _ (by omega) (by omega)).mono ?_; rintro e w' ⟨rfl, rfl⟩) | (go_at_call 37; refine (fraction_any _ _ _ _ (by omega) (by omega) (by omega) (by omega)).mono ?_; rintro e w1 ⟨rfl, hb⟩; obtain ⟨hc, hf⟩ := bcell hb))
    refine bodyPost_ret (by simp [results, Tryd.results13, go_sem, *]; rfl) rfl ⟨?_, ?_⟩
    · simp [HH.out]
    · (repeat (first | exact Below.refl _ _ | refine below_drewN ?_ _ | refine Below.drew ?_ | refine below_alloc ?_ _ | refine Below.setCell ?_ (by first | omega | (simp; done) | (simp; omega)) _ | refine below_then ?_ (by assumption)))
end Go.Proofs.YtbkekabhdpoddaaDoor
