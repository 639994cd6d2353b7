/- The walks of ratio.Floor and ratio.Round at valid ratios. -/
import Derived.Test.YtbkekabhdpoddaaDoorRb5
namespace Go.Proofs.YtbkekabhdpoddaaDoor
open Go.RowKit

theorem ffloor_any (q : Rat) (w : World) (hq : inR q = true) :
    Calls Tryd.prog 19 #[.agg #[.int .i64 q.num, .int .i64 q.den]] w fun e w' => e = .returned (.int .i64 (flr q)) ∧ Below w.heap.size w w' := by
  have hb := inR_bd hq
  have hv := inR_vld hq
  have HF := Lib.hid (fun W => floor_any q.num q.den W (by omega) (by omega) (by omega) (by omega))
  have HV := Lib.hid (fun W => valid_any q.num q.den W (by omega) (by omega) (by omega) (by omega))
  rw [hv] at HV
  obtain ⟨k, hk⟩ : ∃ k, flo q.num q.den = k := ⟨_, rfl⟩
  rw [hk] at HF
  have HK : Hid (flr q = k) := hk
  clear hq hv hk hb
  go_enter Tryd.func19, Tryd.ntmps19
  go_wp2_with (first | (go_at_call 15; refine (HV.out _).mono ?_; rintro e w1 ⟨rfl, hb⟩; obtain ⟨hc, hf⟩ := bcell hb; have hz := hb.size; (try simp at hz); (have zl0 : w.heap.size < w1.heap.size := by omega); (have ze0 : w.heap.size ≤ w1.heap.size := by omega)) | (go_at_call 44; refine (HF.out _).mono ?_; rintro e w2 ⟨rfl, rfl⟩))
  go_ret
  exact ⟨ret_int HK.out.symm, by (repeat (first | exact Below.refl _ _ | refine below_drewN ?_ _ | refine Below.drew ?_ | refine below_alloc ?_ _ | refine Below.setCell ?_ (by first | omega | (simp; done) | (simp; omega)) _ | refine below_then ?_ (by assumption)))⟩
theorem ffloor_no (n d : Int) (w : World) (hn1 : -9223372036854775808 ≤ n) (hn2 : n ≤ 9223372036854775807) (hd1 : -9223372036854775808 ≤ d) (hd2 : d ≤ 9223372036854775807) (hv : vld n d = false) :
    Calls Tryd.prog 19 #[.agg #[.int .i64 n, .int .i64 d]] w fun e w' => e = .returned (.int .i64 0) ∧ Below w.heap.size w w' := by
  have HV := Lib.hid (fun W => valid_any n d W hn1 hn2 hd1 hd2)
  rw [hv] at HV
  clear hv hn1 hn2 hd1 hd2
  go_enter Tryd.func19, Tryd.ntmps19
  go_wp2_with (go_at_call 15; refine (HV.out _).mono ?_; rintro e w1 ⟨rfl, hb⟩; obtain ⟨hc, hf⟩ := bcell hb; have hz := hb.size; (try simp at hz); (have zl0 : w.heap.size < w1.heap.size := by omega); (have ze0 : w.heap.size ≤ w1.heap.size := by omega))
  go_ret
  exact ⟨rfl, by (repeat (first | exact Below.refl _ _ | refine below_drewN ?_ _ | refine Below.drew ?_ | refine below_alloc ?_ _ | refine Below.setCell ?_ (by first | omega | (simp; done) | (simp; omega)) _ | refine below_then ?_ (by assumption)))⟩
theorem rnd_rng {q : Rat} {p : Int} (hq : inR q = true) (h1 : 1 ≤ p) (h2 : p ≤ 1000000) : -1000000000000000000 ≤ q.num * p ∧ q.num * p ≤ 1000000000000000000 ∧ -1000000000000000000 ≤ flo (q.num * p) q.den ∧ flo (q.num * p) q.den ≤ 1000000000000000000 ∧ 0 ≤ q.num * p - flo (q.num * p) q.den * q.den ∧ q.num * p - flo (q.num * p) q.den * q.den < q.den := by
  obtain ⟨a1, a2, a3, a4⟩ := inR_bd hq
  have e1 := mul_bd a1 a2 (show -1000000 ≤ p by omega) h2
  obtain ⟨b1, b2⟩ := flo_bd (n := q.num * p) (d := q.den) (by omega)
  generalize q.num * p = x at e1 b1 b2 ⊢
  generalize flo x q.den = k at b1 b2 ⊢
  rw [Int.add_mul, Int.one_mul] at b2
  refine ⟨by omega, by omega, ?_, ?_, by omega, by omega⟩
  · rcases Int.lt_or_le k (-1000000000000000000) with hk | hk
    · have := Int.mul_le_mul_of_nonneg_right (show k + 1 ≤ -1000000000000000000 by omega) (show 0 ≤ (q.den : Int) by omega)
      rw [Int.add_mul, Int.one_mul] at this
      omega
    · exact hk
  · rcases Int.lt_or_le 1000000000000000000 k with hk | hk
    · have := Int.mul_le_mul (show 1000000000000000001 ≤ k by omega) a3 (by omega) (by omega)
      omega
    · exact hk
set_option maxRecDepth 100000 in
set_option maxHeartbeats 1600000 in
theorem round_any (q : Rat) (p : Int) (w : World) (hq : inR q = true) (h1 : 1 ≤ p) (h2 : p ≤ 1000000) :
    Calls Tryd.prog 21 #[.agg #[.int .i64 q.num, .int .i64 q.den], .int .i64 p] w fun e w' =>
      e = .returned (.tuple #[.agg #[.int .i64 (oN (rndR q p)), .int .i64 (oD (rndR q p))], .int .i64 (oE (rndR q p))]) ∧ Below w.heap.size w w' := by
  have hbd := inR_bd hq
  have hv := inR_vld hq
  obtain ⟨r1, r2, r3, r4, r5, r6⟩ := rnd_rng hq h1 h2
  have HV := Lib.hid (fun W => valid_any q.num q.den W (by omega) (by omega) (by omega) (by omega))
  rw [hv] at HV
  have HF := Lib.hid (fun W => floor_any (q.num * p) q.den W (by omega) (by omega) (by omega) (by omega))
  have HR : Hid (rnd q.num q.den p = if (q.den : Int) < 2 * (q.num * p - flo (q.num * p) q.den * q.den) ∨ (2 * (q.num * p - flo (q.num * p) q.den * q.den) = q.den ∧ flo (q.num * p) q.den % 2 ≠ 0) then flo (q.num * p) q.den + 1 else flo (q.num * p) q.den) := rfl
  obtain ⟨x, hx⟩ : ∃ x, q.num * p = x := ⟨_, rfl⟩
  rw [hx] at r1 r2 r3 r4 r5 r6 HF HR
  obtain ⟨d, hd⟩ : ∃ d : Int, (q.den : Int) = d := ⟨_, rfl⟩
  rw [hd] at hbd r3 r4 r5 r6 HF HR HV ⊢
  obtain ⟨k, hk⟩ : ∃ k, flo x d = k := ⟨_, rfl⟩
  rw [hk] at r3 r4 r5 r6 HF HR
  obtain ⟨y, hy⟩ : ∃ y, k * d = y := ⟨_, rfl⟩
  rw [hy] at r5 r6 HR
  have hkm : k.tmod 2 = 0 ↔ k % 2 = 0 := by rw [← Int.dvd_iff_tmod_eq_zero, ← Int.dvd_iff_emod_eq_zero]
  have hp0 : p ≠ 0 := by omega
  have HMK := Lib.hid (fun (k' : Int) (h : k' = k ∨ k' = k + 1) W => make_any k' p W hp0 (by omega) (by omega) (by omega) (by omega))
  have HD : Hid (rndR q p = Rat.divInt (rnd q.num d p) p) := by unfold Hid rndR; rw [hd]
  have dp1 : decide (p < 1) = false := decide_eq_false (by omega)
  have dp2 : decide (1000000 < p) = false := decide_eq_false (by omega)
  clear hq hv hd hk hp0
  by_cases c1 : d < 2 * (x - y)
  · have HRR : Hid (rnd q.num d p = k + 1) := by unfold Hid; rw [HR.out, if_pos (.inl c1)]
    have d1 : decide (d < 2 * (x - y)) = true := decide_eq_true c1
    clear hkm HR
    go_enter Tryd.func21, Tryd.ntmps21
    go_upto_region 3 with (go_at_call 15; refine (HV.out _).mono ?_; rintro e w1 ⟨rfl, hb⟩; obtain ⟨hc, hf⟩ := bcell hb; have hz := hb.size; (try simp at hz); (have zl0 : w.heap.size < w1.heap.size := by omega); (have ze0 : w.heap.size ≤ w1.heap.size := by omega); (have zl1 : w.heap.size + 1 < w1.heap.size := by omega); (have ze1 : w.heap.size + 1 ≤ w1.heap.size := by omega))
    go_upto_region 4 with (go_at_call 44; refine (HF.out _).mono ?_; rintro e w2 ⟨rfl, rfl⟩)
    go_upto_region 7 with (fail)
    go_wp2_with (go_at_call 13; refine (HMK.out (k + 1) (.inr rfl) _).mono ?_; rintro e w3 ⟨rfl, hb3⟩; obtain ⟨hc3, hf3⟩ := bcell hb3; have hz3 := hb3.size; (try simp at hz3))
    refine bodyPost_ret (by simp [results, Tryd.results21, go_sem, *]; rfl) rfl ⟨?_, ?_⟩
    · rw [HD.out, HRR.out]
    · (repeat (first | exact Below.refl _ _ | refine below_drewN ?_ _ | refine Below.drew ?_ | refine below_alloc ?_ _ | refine Below.setCell ?_ (by first | omega | (simp; done) | (simp; omega)) _ | refine below_then ?_ (by assumption)))
  · have d1 : decide (d < 2 * (x - y)) = false := decide_eq_false c1
    by_cases c2 : 2 * (x - y) = d
    · have d2 : (2 * (x - y) == d) = true := by simpa using c2
      by_cases c3 : k % 2 = 0
      · have HRR : Hid (rnd q.num d p = k) := by unfold Hid; rw [HR.out, if_neg (by omega)]
        have d3 : (k.tmod 2 == 0) = true := by simpa using hkm.2 c3
        have d4 : k.tmod 2 = 0 := hkm.2 c3
        clear hkm HR c2
        go_enter Tryd.func21, Tryd.ntmps21
        go_upto_region 3 with (go_at_call 15; refine (HV.out _).mono ?_; rintro e w1 ⟨rfl, hb⟩; obtain ⟨hc, hf⟩ := bcell hb; have hz := hb.size; (try simp at hz); (have zl0 : w.heap.size < w1.heap.size := by omega); (have ze0 : w.heap.size ≤ w1.heap.size := by omega); (have zl1 : w.heap.size + 1 < w1.heap.size := by omega); (have ze1 : w.heap.size + 1 ≤ w1.heap.size := by omega))
        go_upto_region 4 with (go_at_call 44; refine (HF.out _).mono ?_; rintro e w2 ⟨rfl, rfl⟩)
        go_upto_region 7 with (fail)
        go_wp2_with (go_at_call 13; refine (HMK.out k (.inl rfl) _).mono ?_; rintro e w3 ⟨rfl, hb3⟩; obtain ⟨hc3, hf3⟩ := bcell hb3; have hz3 := hb3.size; (try simp at hz3))
        refine bodyPost_ret (by simp [results, Tryd.results21, go_sem, *]; rfl) rfl ⟨?_, ?_⟩
        · rw [HD.out, HRR.out]
        · (repeat (first | exact Below.refl _ _ | refine below_drewN ?_ _ | refine Below.drew ?_ | refine below_alloc ?_ _ | refine Below.setCell ?_ (by first | omega | (simp; done) | (simp; omega)) _ | refine below_then ?_ (by assumption)))
      · have HRR : Hid (rnd q.num d p = k + 1) := by unfold Hid; rw [HR.out, if_pos (.inr ⟨c2, c3⟩)]
        have d4 : k.tmod 2 ≠ 0 := fun h => c3 (hkm.1 h)
        have d3 : (k.tmod 2 == 0) = false := by simpa using d4
        clear hkm HR c2
        go_enter Tryd.func21, Tryd.ntmps21
        go_upto_region 3 with (go_at_call 15; refine (HV.out _).mono ?_; rintro e w1 ⟨rfl, hb⟩; obtain ⟨hc, hf⟩ := bcell hb; have hz := hb.size; (try simp at hz); (have zl0 : w.heap.size < w1.heap.size := by omega); (have ze0 : w.heap.size ≤ w1.heap.size := by omega); (have zl1 : w.heap.size + 1 < w1.heap.size := by omega); (have ze1 : w.heap.size + 1 ≤ w1.heap.size := by omega))
        go_upto_region 4 with (go_at_call 44; refine (HF.out _).mono ?_; rintro e w2 ⟨rfl, rfl⟩)
        go_upto_region 7 with (fail)
        go_wp2_with (go_at_call 13; refine (HMK.out (k + 1) (.inr rfl) _).mono ?_; rintro e w3 ⟨rfl, hb3⟩; obtain ⟨hc3, hf3⟩ := bcell hb3; have hz3 := hb3.size; (try simp at hz3))
        refine bodyPost_ret (by simp [results, Tryd.results21, go_sem, *]; rfl) rfl ⟨?_, ?_⟩
        · rw [HD.out, HRR.out]
        · (repeat (first | exact Below.refl _ _ | refine below_drewN ?_ _ | refine Below.drew ?_ | refine below_alloc ?_ _ | refine Below.setCell ?_ (by first | omega | (simp; done) | (simp; omega)) _ | refine below_then ?_ (by assumption)))
    · have d2 : (2 * (x - y) == d) = false := by simpa using c2
      have HRR : Hid (rnd q.num d p = k) := by unfold Hid; rw [HR.out, if_neg (by omega)]
      clear hkm HR
      go_enter Tryd.func21, Tryd.ntmps21
      go_upto_region 3 with (go_at_call 15; refine (HV.out _).mono ?_; rintro e w1 ⟨rfl, hb⟩; obtain ⟨hc, hf⟩ := bcell hb; have hz := hb.size; (try simp at hz); (have zl0 : w.heap.size < w1.heap.size := by omega); (have ze0 : w.heap.size ≤ w1.heap.size := by omega); (have zl1 : w.heap.size + 1 < w1.heap.size := by omega); (have ze1 : w.heap.size + 1 ≤ w1.heap.size := by omega))
      go_upto_region 4 with (go_at_call 44; refine (HF.out _).mono ?_; rintro e w2 ⟨rfl, rfl⟩)
      go_upto_region 7 with (fail)
      go_wp2_with (go_at_call 13; refine (HMK.out k (.inl rfl) _).mono ?_; rintro e w3 ⟨rfl, hb3⟩; obtain ⟨hc3, hf3⟩ := bcell hb3; have hz3 := hb3.size; (try simp at hz3))
      refine bodyPost_ret (by simp [results, Tryd.results21, go_sem, *]; rfl) rfl ⟨?_, ?_⟩
      · rw [HD.out, HRR.out]
      · (repeat (first | exact Below.refl _ _ | refine below_drewN ?_ _ | refine Below.drew ?_ | refine below_alloc ?_ _ | refine Below.setCell ?_ (by first | omega | (simp; done) | (simp; omega)) _ | refine below_then ?_ (by assumption)))
end Go.Proofs.YtbkekabhdpoddaaDoor
