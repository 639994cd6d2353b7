/- The contracts of the reference of package ratio: of, Make, Valid, Add, Cmp; and ratio.Cmp. -/
import Derived.Test.YtbkekabhdpoddaaDoorR03
namespace Go.Proofs.YtbkekabhdpoddaaDoor
open Go.RowKit

theorem quiet_left {P : Program} {f : FuncId} {args : Array Value} {w : World} {n : Nat} {v : Value}
    (h : Calls P f args (w.drewN n) fun e w' => e = .returned v ∧ w.drewN n = w') : Calls P f args (w.drewN n) fun e w'' => e = .returned v ∧ ∃ m, w'' = w.drewN m :=
  h.mono fun _ _ ⟨he, hm⟩ => ⟨he, n, hm.symm⟩

/-- what a comparison gives -/
def cmpN (q r : Rat) : Int := if q < r then -1 else if r < q then 1 else 0
theorem cmpN_lt {q r : Rat} (h : q.num * r.den < r.num * q.den) : cmpN q r = -1 := by rw [cmpN, if_pos ((Rat.lt_iff q r).2 h)]
theorem cmpN_gt {q r : Rat} (h : r.num * q.den < q.num * r.den) : cmpN q r = 1 := by
  have h1 := (Rat.lt_iff r q).2 h
  rw [cmpN, if_neg (fun h2 => Rat.lt_irrefl (by grind : q < q)), if_pos h1]
theorem cmpN_eq {q r : Rat} (h1 : ¬ q.num * r.den < r.num * q.den) (h2 : ¬ r.num * q.den < q.num * r.den) : cmpN q r = 0 := by
  rw [cmpN, if_neg (fun h => h1 ((Rat.lt_iff q r).1 h)), if_neg (fun h => h2 ((Rat.lt_iff r q).1 h))]

set_option maxHeartbeats 400000 in
/-- ratio.Cmp at two valid ratios -/
theorem cmp_any (q r : Rat) (w : World) (hq : inR q = true) (hr : inR r = true) :
    Calls Tryd.prog 16 #[.agg #[.int .i64 q.num, .int .i64 q.den], .agg #[.int .i64 r.num, .int .i64 r.den]] w fun e w' => e = .returned (.int .i64 (cmpN q r)) ∧ Below w.heap.size w w' := by
  have bd := add_bd hq hr
  have b1 := inR_bd hq
  have b2 := inR_bd hr
  have v1 := inR_vld hq
  have v2 := inR_vld hr
  have H : Hid ((q.num * r.den < r.num * q.den → cmpN q r = -1) ∧ (r.num * q.den < q.num * r.den → cmpN q r = 1) ∧ (¬ q.num * r.den < r.num * q.den → ¬ r.num * q.den < q.num * r.den → cmpN q r = 0)) := ⟨cmpN_lt, cmpN_gt, cmpN_eq⟩
  clear hq hr
  go_enter Tryd.func16, Tryd.ntmps16
  go_wp2_with (go_at_call 15; refine (valid_any _ _ _ (by omega) (by omega) (by omega) (by omega)).mono ?_; rintro e w1 ⟨rfl, hb⟩; obtain ⟨hc, hf⟩ := bcell hb; have hz := hb.size; (try simp at hz); (have zl0 : w.heap.size < w1.heap.size := by omega); (have ze0 : w.heap.size ≤ w1.heap.size := by omega); (have zl1 : w.heap.size + 1 < w1.heap.size := by omega); (have ze1 : w.heap.size + 1 ≤ w1.heap.size := by omega))
  go_quiet (fail)
  go_wp2
  · go_ret
    exact ⟨ret_int (H.out.1 (by assumption)).symm, by (repeat (first | exact Below.refl _ _ | refine below_drewN ?_ _ | refine Below.drew ?_ | refine below_alloc ?_ _ | refine Below.setCell ?_ (by first | omega | (simp; done) | (simp; omega)) _ | refine below_then ?_ (by assumption)))⟩
  · go_ret
    exact ⟨ret_int (H.out.2.1 (by assumption)).symm, by (repeat (first | exact Below.refl _ _ | refine below_drewN ?_ _ | refine Below.drew ?_ | refine below_alloc ?_ _ | refine Below.setCell ?_ (by first | omega | (simp; done) | (simp; omega)) _ | refine below_then ?_ (by assumption)))⟩
  · go_ret
    exact ⟨ret_int (H.out.2.2 (by omega) (by omega)).symm, by (repeat (first | exact Below.refl _ _ | refine below_drewN ?_ _ | refine Below.drew ?_ | refine below_alloc ?_ _ | refine Below.setCell ?_ (by first | omega | (simp; done) | (simp; omega)) _ | refine below_then ?_ (by assumption)))⟩

set_option maxHeartbeats 400000 in
/-- the reference's Valid at every ratio -/
theorem rvalid_any (n d : Int) (w : World) (hn1 : -9223372036854775808 ≤ n) (hn2 : n ≤ 9223372036854775807) (hd1 : -9223372036854775808 ≤ d) (hd2 : d ≤ 9223372036854775807) :
    Calls Tryd.prog 33 #[.agg #[.int .i64 n, .int .i64 d]] w fun e w' => e = .returned (.bool (vld n d)) ∧ Below w.heap.size w w' := by
  by_cases hr : 1 ≤ d ∧ d ≤ 1000000 ∧ -1000000000000 ≤ n ∧ n ≤ 1000000000000
  · obtain ⟨h1, h2, h3, h4⟩ := hr
    have hv : vld n d = decide ((Int.gcd (mag n) (mag d) : Int) = 1) := by
      rw [gcd_mag]; simp only [vld, h1, h2, h3, h4, true_and]; congr 1; simp; omega
    have HV := Lib.hid hv
    clear hv
    have m1 := mag_bd (n := n) (by omega) (by omega)
    have m2 := mag_bd (n := d) (by omega) (by omega)
    go_enter Tryd.func33, Tryd.ntmps33
    go_wp2_with fail
    go_quiet ((first | (go_at_call 49; exact quiet_left (size_any _ _ (by omega) (by omega))) | (go_at_call 14; exact Calls.quiet_of (gcd_any _ _ _ (by omega) (by omega) (by omega) (by omega)))))
    go_wp2
    go_ret
    exact ⟨ret_bool (by rw [HV.out]; simp only [Bool.beq_eq_decide_eq]), by (repeat (first | exact Below.refl _ _ | refine below_drewN ?_ _ | refine Below.drew ?_ | refine below_alloc ?_ _ | refine Below.setCell ?_ (by first | omega | (simp; done) | (simp; omega)) _ | refine below_then ?_ (by assumption)))⟩
  · have hv := Lib.hid (vld_no (n := n) (d := d) (fun h => hr ⟨h.1, h.2.1, h.2.2.1, h.2.2.2.1⟩))
    have hc : d < 1 ∨ (1 ≤ d ∧ 1000000 < d) ∨ (1 ≤ d ∧ d ≤ 1000000 ∧ n < -1000000000000) ∨ (1 ≤ d ∧ d ≤ 1000000 ∧ -1000000000000 ≤ n ∧ 1000000000000 < n) := by omega
    clear hr
    rcases hc with h | ⟨h, h'⟩ | ⟨h, h', h''⟩ | ⟨h, h', h'', h3⟩
    · have hD : decide (1 ≤ d) = false := by simp; omega
      go_enter Tryd.func33, Tryd.ntmps33
      go_wp2_with fail
      go_quiet (fail)
      go_wp2
      go_ret
      exact ⟨ret_bool hv.out.symm, by (repeat (first | exact Below.refl _ _ | refine below_drewN ?_ _ | refine Below.drew ?_ | refine below_alloc ?_ _ | refine Below.setCell ?_ (by first | omega | (simp; done) | (simp; omega)) _ | refine below_then ?_ (by assumption)))⟩
    · have hD : decide (d ≤ 1000000) = false := by simp; omega
      go_enter Tryd.func33, Tryd.ntmps33
      go_wp2_with fail
      go_quiet (fail)
      go_wp2
      go_ret
      exact ⟨ret_bool hv.out.symm, by (repeat (first | exact Below.refl _ _ | refine below_drewN ?_ _ | refine Below.drew ?_ | refine below_alloc ?_ _ | refine Below.setCell ?_ (by first | omega | (simp; done) | (simp; omega)) _ | refine below_then ?_ (by assumption)))⟩
    · have hD : decide (-1000000000000 ≤ n) = false := by simp; omega
      go_enter Tryd.func33, Tryd.ntmps33
      go_wp2_with fail
      go_quiet (fail)
      go_wp2
      go_ret
      exact ⟨ret_bool hv.out.symm, by (repeat (first | exact Below.refl _ _ | refine below_drewN ?_ _ | refine Below.drew ?_ | refine below_alloc ?_ _ | refine Below.setCell ?_ (by first | omega | (simp; done) | (simp; omega)) _ | refine below_then ?_ (by assumption)))⟩
    · have hD : decide (n ≤ 1000000000000) = false := by simp; omega
      go_enter Tryd.func33, Tryd.ntmps33
      go_wp2_with fail
      go_quiet (fail)
      go_wp2
      go_ret
      exact ⟨ret_bool hv.out.symm, by (repeat (first | exact Below.refl _ _ | refine below_drewN ?_ _ | refine Below.drew ?_ | refine below_alloc ?_ _ | refine Below.setCell ?_ (by first | omega | (simp; done) | (simp; omega)) _ | refine below_then ?_ (by assumption)))⟩

/-- the reference's of: a sign, two magnitudes, the second one positive -/
theorem of_any (sg : Bool) (a b : Int) (w : World) (ha : 0 ≤ a) (hb : 0 < b) (ha' : a < 18446744073709551616) (hb' : b < 18446744073709551616) :
    Calls Tryd.prog 48 #[.bool sg, .int .u64 a, .int .u64 b] w fun e w' =>
      e = .returned (.tuple #[.agg #[.int .i64 (oN (Rat.divInt (if sg then -a else a) b)), .int .i64 (oD (Rat.divInt (if sg then -a else a) b))], .int .i64 (oE (Rat.divInt (if sg then -a else a) b))]) ∧ Below w.heap.size w w' := by
  have hg := gcd_bd a b hb
  have hN := Lib.hid (sgn_num sg (a := a) (b := b) hb)
  have hD := Lib.hid (sgn_den sg (a := a) (b := b) hb)
  generalize Rat.divInt (if sg then -a else a) b = r at hN hD ⊢
  have q1 : 0 ≤ a / (Int.gcd a b : Int) := Int.ediv_nonneg ha (by omega)
  have q3 : 1 ≤ b / (Int.gcd a b : Int) := by
    have := Int.ediv_pos_of_pos_of_dvd hb (by omega) (Int.gcd_dvd_right a b)
    omega
  have q2 : a / (Int.gcd a b : Int) ≤ a := Int.ediv_le_self _ ha
  have q4 : b / (Int.gcd a b : Int) ≤ b := Int.ediv_le_self _ (by omega)
  have hb0 : (b == 0) = false := by simp; omega
  by_cases hr : a / (Int.gcd a b : Int) ≤ 1000000000000 ∧ b / (Int.gcd a b : Int) ≤ 1000000
  · have hin : inR r = true := by
      have e1 := hN.out
      have e2 := hD.out
      cases sg <;> simp at e1 <;> simp only [inR, decide_eq_true_eq] <;> omega
    have H := Lib.hid (And.intro (oN_yes hin) (And.intro (oD_yes hin) (oE_yes hin)))
    obtain ⟨r1, r2⟩ := hr
    cases sg
    all_goals
      go_enter Tryd.func48, Tryd.ntmps48
      go_wp2_with (go_at_call 14; refine (gcd_any a b _ (by omega) (by omega) (by omega) (by omega)).mono ?_; rintro e w' ⟨rfl, nn, rfl⟩)
      refine bodyPost_ret (by simp [results, Tryd.results48, go_sem, *]; rfl) rfl ⟨?_, ?_⟩
      · have e1 := hN.out
        have e2 := hD.out
        simp at e1
        exact tup_ok (by rw [H.out.1, e1]) (by rw [H.out.2.1, e2]) H.out.2.2.symm
      · (repeat (first | exact Below.refl _ _ | refine below_drewN ?_ _ | refine Below.drew ?_ | refine below_alloc ?_ _ | refine Below.setCell ?_ (by first | omega | (simp; done) | (simp; omega)) _ | refine below_then ?_ (by assumption)))
  · have hin : inR r = false := by
      have e1 := hN.out
      have e2 := hD.out
      cases sg <;> simp at e1 <;> simp only [inR, decide_eq_false_iff_not] <;> omega
    have H := Lib.hid (And.intro (oN_no hin) (And.intro (oD_no hin) (oE_no hin)))
    have hc : 1000000000000 < a / (Int.gcd a b : Int) ∨ (a / (Int.gcd a b : Int) ≤ 1000000000000 ∧ 1000000 < b / (Int.gcd a b : Int)) := by omega
    clear hr
    rcases hc with r1 | ⟨r1, r2⟩
    all_goals
      go_enter Tryd.func48, Tryd.ntmps48
      go_wp2_with (go_at_call 14; refine (gcd_any a b _ (by omega) (by omega) (by omega) (by omega)).mono ?_; rintro e w' ⟨rfl, nn, rfl⟩)
      refine bodyPost_ret (by simp [results, Tryd.results48, go_sem, *]; rfl) rfl ⟨?_, ?_⟩
      · exact tup_ok H.out.1.symm H.out.2.1.symm H.out.2.2.symm
      · (repeat (first | exact Below.refl _ _ | refine below_drewN ?_ _ | refine Below.drew ?_ | refine below_alloc ?_ _ | refine Below.setCell ?_ (by first | omega | (simp; done) | (simp; omega)) _ | refine below_then ?_ (by assumption)))

/-- the reference's Make at a second number that is not 0 -/
theorem rmake_any (p q : Int) (w : World) (hq : q ≠ 0) (p1 : -9223372036854775808 ≤ p) (p2 : p ≤ 9223372036854775807) (q1 : -9223372036854775808 ≤ q) (q2 : q ≤ 9223372036854775807) :
    Calls Tryd.prog 24 #[.int .i64 p, .int .i64 q] w fun e w' =>
      e = .returned (.tuple #[.agg #[.int .i64 (oN (Rat.divInt p q)), .int .i64 (oD (Rat.divInt p q))], .int .i64 (oE (Rat.divInt p q))]) ∧ Below w.heap.size w w' := by
  have H := divInt_mag p q
  have m1 := mag_bd p1 p2
  have m2 := mag_bd q1 q2
  have m3 : 0 < mag q := by unfold mag; omega
  clear hq
  by_cases h1 : p < 0 <;> by_cases h2 : q < 0
  all_goals
    simp only [h1, h2, decide_true, decide_false, bne_self_eq_false, Bool.true_bne, Bool.false_bne, Bool.not_false, Bool.false_eq_true, if_true, if_false] at H
    have HH := Lib.hid H
    clear H
    go_enter Tryd.func24, Tryd.ntmps24
    go_wp2_with (first | (go_at_call 49; refine (size_any _ _ (by omega) (by omega)).mono ?_; rintro e w' ⟨rfl, rfl⟩) | (go_at_call 48; refine (of_any _ _ _ _ (by omega) (by omega) (by omega) (by omega)).mono ?_; rintro e w1 ⟨rfl, hb⟩; obtain ⟨hc, hf⟩ := bcell hb; have hz := hb.size; (try simp at hz); (have zl0 : w.heap.size < w1.heap.size := by omega); (have ze0 : w.heap.size ≤ w1.heap.size := by omega)))
    refine bodyPost_ret (by simp [results, Tryd.results24, go_sem, *]; rfl) rfl ⟨?_, ?_⟩
    · simp [HH.out]
    · (repeat (first | exact Below.refl _ _ | refine below_drewN ?_ _ | refine Below.drew ?_ | refine below_alloc ?_ _ | refine Below.setCell ?_ (by first | omega | (simp; done) | (simp; omega)) _ | refine below_then ?_ (by assumption)))

/-- the reference's Add at two valid ratios -/
theorem radd_any (q r : Rat) (w : World) (hq : inR q = true) (hr : inR r = true) :
    Calls Tryd.prog 27 #[.agg #[.int .i64 q.num, .int .i64 q.den], .agg #[.int .i64 r.num, .int .i64 r.den]] w fun e w' =>
      e = .returned (.tuple #[.agg #[.int .i64 (oN (q + r)), .int .i64 (oD (q + r))], .int .i64 (oE (q + r))]) ∧ Below w.heap.size w w' := by
  have bd := add_bd hq hr
  have b1 := inR_bd hq
  have b2 := inR_bd hr
  have v1 := inR_vld hq
  have v2 := inR_vld hr
  have H := Lib.hid (add_divInt q r)
  clear hq hr
  go_enter Tryd.func27, Tryd.ntmps27
  go_wp2_with (first | (go_at_call 33; refine (rvalid_any _ _ _ (by omega) (by omega) (by omega) (by omega)).mono ?_; rintro e w1 ⟨rfl, hb⟩; obtain ⟨hc, hf⟩ := bcell hb; have hz := hb.size; (try simp at hz); (have zl0 : w.heap.size < w1.heap.size := by omega); (have ze0 : w.heap.size ≤ w1.heap.size := by omega); (have zl1 : w.heap.size + 1 < w1.heap.size := by omega); (have ze1 : w.heap.size + 1 ≤ w1.heap.size := by omega); (have zl2 : w.heap.size + 1 + 1 < w1.heap.size := by omega); (have ze2 : w.heap.size + 1 + 1 ≤ w1.heap.size := by omega)) | (go_at_call 24; refine (rmake_any _ _ _ (by omega) (by omega) (by omega) (by omega) (by omega)).mono ?_; rintro e w1 ⟨rfl, hb⟩; obtain ⟨hc, hf⟩ := bcell hb; have hz := hb.size; (try simp at hz); (have zl0 : w.heap.size < w1.heap.size := by omega); (have ze0 : w.heap.size ≤ w1.heap.size := by omega); (have zl1 : w.heap.size + 1 < w1.heap.size := by omega); (have ze1 : w.heap.size + 1 ≤ w1.heap.size := by omega); (have zl2 : w.heap.size + 1 + 1 < w1.heap.size := by omega); (have ze2 : w.heap.size + 1 + 1 ≤ w1.heap.size := by omega)))
  refine bodyPost_ret (by simp [results, Tryd.results27, go_sem, *]; rfl) rfl ⟨?_, ?_⟩
  · rw [H.out]
  · (repeat (first | exact Below.refl _ _ | refine below_drewN ?_ _ | refine Below.drew ?_ | refine below_alloc ?_ _ | refine Below.setCell ?_ (by first | omega | (simp; done) | (simp; omega)) _ | refine below_then ?_ (by assumption)))

/-- the reference's Cmp at two valid ratios -/
theorem rcmp_any (q r : Rat) (w : World) (hq : inR q = true) (hr : inR r = true) :
    Calls Tryd.prog 34 #[.agg #[.int .i64 q.num, .int .i64 q.den], .agg #[.int .i64 r.num, .int .i64 r.den]] w fun e w' => e = .returned (.int .i64 (cmpN q r)) ∧ Below w.heap.size w w' := by
  have bd := add_bd hq hr
  have b1 := inR_bd hq
  have b2 := inR_bd hr
  have v1 := inR_vld hq
  have v2 := inR_vld hr
  have H : Hid ((q.num * r.den < r.num * q.den → cmpN q r = -1) ∧ (r.num * q.den < q.num * r.den → cmpN q r = 1) ∧ (¬ q.num * r.den < r.num * q.den → ¬ r.num * q.den < q.num * r.den → cmpN q r = 0)) := ⟨cmpN_lt, cmpN_gt, cmpN_eq⟩
  clear hq hr
  go_enter Tryd.func34, Tryd.ntmps34
  go_wp2_with (go_at_call 33; refine (rvalid_any _ _ _ (by omega) (by omega) (by omega) (by omega)).mono ?_; rintro e w1 ⟨rfl, hb⟩; obtain ⟨hc, hf⟩ := bcell hb; have hz := hb.size; (try simp at hz); (have zl0 : w.heap.size < w1.heap.size := by omega); (have ze0 : w.heap.size ≤ w1.heap.size := by omega); (have zl1 : w.heap.size + 1 < w1.heap.size := by omega); (have ze1 : w.heap.size + 1 ≤ w1.heap.size := by omega))
  · go_ret
    exact ⟨ret_int (H.out.1 (by assumption)).symm, by (repeat (first | exact Below.refl _ _ | refine below_drewN ?_ _ | refine Below.drew ?_ | refine below_alloc ?_ _ | refine Below.setCell ?_ (by first | omega | (simp; done) | (simp; omega)) _ | refine below_then ?_ (by assumption)))⟩
  · go_ret
    exact ⟨ret_int (H.out.2.1 (by assumption)).symm, by (repeat (first | exact Below.refl _ _ | refine below_drewN ?_ _ | refine Below.drew ?_ | refine below_alloc ?_ _ | refine Below.setCell ?_ (by first | omega | (simp; done) | (simp; omega)) _ | refine below_then ?_ (by assumption)))⟩
  · go_ret
    exact ⟨ret_int (H.out.2.2 (by omega) (by omega)).symm, by (repeat (first | exact Below.refl _ _ | refine below_drewN ?_ _ | refine Below.drew ?_ | refine below_alloc ?_ _ | refine Below.setCell ?_ (by first | omega | (simp; done) | (simp; omega)) _ | refine below_then ?_ (by assumption)))⟩
end Go.Proofs.YtbkekabhdpoddaaDoor
