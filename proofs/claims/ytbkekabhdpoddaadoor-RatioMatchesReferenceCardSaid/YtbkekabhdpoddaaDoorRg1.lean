/- ratio's and the reference's functions where a ratio is not valid. -/
import Derived.Test.YtbkekabhdpoddaaDoorRdm
namespace Go.Proofs.YtbkekabhdpoddaaDoor
open Go.RowKit

theorem checked_no (n1 d1 n2 d2 : Int) (k : Nat) (cap : Array Value) (w : World) (h : vld n1 d1 = false ∨ (vld n1 d1 = true ∧ vld n2 d2 = false)) (h1 : B64 n1) (k1 : B64 d1) (h2 : B64 n2) (k2 : B64 d2) :
    Calls Tryd.prog 40 #[.agg #[.int .i64 n1, .int .i64 d1], .agg #[.int .i64 n2, .int .i64 d2], .func (.func k) #[] cap] w fun e w' => e = .returned (.tuple #[.agg #[.int .i64 0, .int .i64 0], .int .i64 1]) ∧ Below w.heap.size w w' := by
  have HV1 := Lib.hid (fun W => valid_any n1 d1 W h1.1 h1.2 k1.1 k1.2)
  have HV2 := Lib.hid (fun W => valid_any n2 d2 W h2.1 h2.2 k2.1 k2.2)
  rcases h with h | ⟨h, h'⟩
  · rw [h] at HV1
    clear h h1 h2 k1 k2 HV2
    go_enter Tryd.func40, Tryd.ntmps40
    go_wp2_with (go_at_call 15; refine (HV1.out _).mono ?_; rintro e w1 ⟨rfl, hb⟩; obtain ⟨hc, hf⟩ := bcell hb; have hz := hb.size; (try simp at hz); (have zl0 : w.heap.size < w1.heap.size := by omega); (have ze0 : w.heap.size ≤ w1.heap.size := by omega); (have zl1 : w.heap.size + 1 < w1.heap.size := by omega); (have ze1 : w.heap.size + 1 ≤ w1.heap.size := by omega); (have zl2 : w.heap.size + 1 + 1 < w1.heap.size := by omega); (have ze2 : w.heap.size + 1 + 1 ≤ w1.heap.size := by omega))
    refine bodyPost_ret (by simp [results, Tryd.results40, go_sem, *]; rfl) rfl ⟨?_, ?_⟩
    · rfl
    · (repeat (first | exact Below.refl _ _ | refine below_drewN ?_ _ | refine Below.drew ?_ | refine below_alloc ?_ _ | refine Below.setCell ?_ (by first | omega | (simp; done) | (simp; omega)) _ | refine below_then ?_ (by assumption)))
  · rw [h] at HV1
    rw [h'] at HV2
    clear h h' h1 h2 k1 k2
    go_enter Tryd.func40, Tryd.ntmps40
    go_wp2_with (first | (go_at_call 15; (with_reducible refine (HV1.out _).mono ?_); rintro e w1 ⟨rfl, hb⟩; obtain ⟨hc, hf⟩ := bcell hb; have hz := hb.size; (try simp at hz); (have zl0 : w.heap.size < w1.heap.size := by omega); (have ze0 : w.heap.size ≤ w1.heap.size := by omega); (have zl1 : w.heap.size + 1 < w1.heap.size := by omega); (have ze1 : w.heap.size + 1 ≤ w1.heap.size := by omega); (have zl2 : w.heap.size + 1 + 1 < w1.heap.size := by omega); (have ze2 : w.heap.size + 1 + 1 ≤ w1.heap.size := by omega)) | (go_at_call 15; (with_reducible refine (HV2.out _).mono ?_); rintro e w1 ⟨rfl, hb⟩; obtain ⟨hc, hf⟩ := bcell hb; have hz := hb.size; (try simp at hz); (have zl0 : w.heap.size < w1.heap.size := by omega); (have ze0 : w.heap.size ≤ w1.heap.size := by omega); (have zl1 : w.heap.size + 1 < w1.heap.size := by omega); (have ze1 : w.heap.size + 1 ≤ w1.heap.size := by omega); (have zl2 : w.heap.size + 1 + 1 < w1.heap.size := by omega); (have ze2 : w.heap.size + 1 + 1 ≤ w1.heap.size := by omega)))
    refine bodyPost_ret (by simp [results, Tryd.results40, go_sem, *]; rfl) rfl ⟨?_, ?_⟩
    · rfl
    · (repeat (first | exact Below.refl _ _ | refine below_drewN ?_ _ | refine Below.drew ?_ | refine below_alloc ?_ _ | refine Below.setCell ?_ (by first | omega | (simp; done) | (simp; omega)) _ | refine below_then ?_ (by assumption)))
theorem add_no (n1 d1 n2 d2 : Int) (w : World) (h : vld n1 d1 = false ∨ (vld n1 d1 = true ∧ vld n2 d2 = false)) (h1 : B64 n1) (k1 : B64 d1) (h2 : B64 n2) (k2 : B64 d2) : Calls Tryd.prog 17 #[.agg #[.int .i64 n1, .int .i64 d1], .agg #[.int .i64 n2, .int .i64 d2]] w fun e w' => e = .returned (.tuple #[.agg #[.int .i64 0, .int .i64 0], .int .i64 1]) ∧ Below w.heap.size w w' := by
  have H := Lib.hid (fun k cap W => checked_no n1 d1 n2 d2 k cap W h h1 k1 h2 k2)
  clear h h1 h2 k1 k2
  go_enter Tryd.func17, Tryd.ntmps17
  go_wp2_with (go_at_call 40; refine (H.out _ _ _).mono ?_; rintro e w1 ⟨rfl, hb⟩; obtain ⟨hc, hf⟩ := bcell hb; have hz := hb.size; (try simp at hz); (have zl0 : w.heap.size < w1.heap.size := by omega); (have ze0 : w.heap.size ≤ w1.heap.size := by omega); (have zl1 : w.heap.size + 1 < w1.heap.size := by omega); (have ze1 : w.heap.size + 1 ≤ w1.heap.size := by omega); (have zl2 : w.heap.size + 1 + 1 < w1.heap.size := by omega); (have ze2 : w.heap.size + 1 + 1 ≤ w1.heap.size := by omega))
  refine bodyPost_ret (by simp [results, Tryd.results17, go_sem, *]; rfl) rfl ⟨?_, ?_⟩
  · rfl
  · (repeat (first | exact Below.refl _ _ | refine below_drewN ?_ _ | refine Below.drew ?_ | refine below_alloc ?_ _ | refine Below.setCell ?_ (by first | omega | (simp; done) | (simp; omega)) _ | refine below_then ?_ (by assumption)))
theorem sub_no (n1 d1 n2 d2 : Int) (w : World) (h : vld n1 d1 = false ∨ (vld n1 d1 = true ∧ vld n2 d2 = false)) (h1 : B64 n1) (k1 : B64 d1) (h2 : B64 n2) (k2 : B64 d2) : Calls Tryd.prog 28 #[.agg #[.int .i64 n1, .int .i64 d1], .agg #[.int .i64 n2, .int .i64 d2]] w fun e w' => e = .returned (.tuple #[.agg #[.int .i64 0, .int .i64 0], .int .i64 1]) ∧ Below w.heap.size w w' := by
  have H := Lib.hid (fun k cap W => checked_no n1 d1 n2 d2 k cap W h h1 k1 h2 k2)
  clear h h1 h2 k1 k2
  go_enter Tryd.func28, Tryd.ntmps28
  go_wp2_with (go_at_call 40; refine (H.out _ _ _).mono ?_; rintro e w1 ⟨rfl, hb⟩; obtain ⟨hc, hf⟩ := bcell hb; have hz := hb.size; (try simp at hz); (have zl0 : w.heap.size < w1.heap.size := by omega); (have ze0 : w.heap.size ≤ w1.heap.size := by omega); (have zl1 : w.heap.size + 1 < w1.heap.size := by omega); (have ze1 : w.heap.size + 1 ≤ w1.heap.size := by omega); (have zl2 : w.heap.size + 1 + 1 < w1.heap.size := by omega); (have ze2 : w.heap.size + 1 + 1 ≤ w1.heap.size := by omega))
  refine bodyPost_ret (by simp [results, Tryd.results28, go_sem, *]; rfl) rfl ⟨?_, ?_⟩
  · rfl
  · (repeat (first | exact Below.refl _ _ | refine below_drewN ?_ _ | refine Below.drew ?_ | refine below_alloc ?_ _ | refine Below.setCell ?_ (by first | omega | (simp; done) | (simp; omega)) _ | refine below_then ?_ (by assumption)))
theorem mul_no (n1 d1 n2 d2 : Int) (w : World) (h : vld n1 d1 = false ∨ (vld n1 d1 = true ∧ vld n2 d2 = false)) (h1 : B64 n1) (k1 : B64 d1) (h2 : B64 n2) (k2 : B64 d2) : Calls Tryd.prog 18 #[.agg #[.int .i64 n1, .int .i64 d1], .agg #[.int .i64 n2, .int .i64 d2]] w fun e w' => e = .returned (.tuple #[.agg #[.int .i64 0, .int .i64 0], .int .i64 1]) ∧ Below w.heap.size w w' := by
  have H := Lib.hid (fun k cap W => checked_no n1 d1 n2 d2 k cap W h h1 k1 h2 k2)
  clear h h1 h2 k1 k2
  go_enter Tryd.func18, Tryd.ntmps18
  go_wp2_with (go_at_call 40; refine (H.out _ _ _).mono ?_; rintro e w1 ⟨rfl, hb⟩; obtain ⟨hc, hf⟩ := bcell hb; have hz := hb.size; (try simp at hz); (have zl0 : w.heap.size < w1.heap.size := by omega); (have ze0 : w.heap.size ≤ w1.heap.size := by omega); (have zl1 : w.heap.size + 1 < w1.heap.size := by omega); (have ze1 : w.heap.size + 1 ≤ w1.heap.size := by omega); (have zl2 : w.heap.size + 1 + 1 < w1.heap.size := by omega); (have ze2 : w.heap.size + 1 + 1 ≤ w1.heap.size := by omega))
  refine bodyPost_ret (by simp [results, Tryd.results18, go_sem, *]; rfl) rfl ⟨?_, ?_⟩
  · rfl
  · (repeat (first | exact Below.refl _ _ | refine below_drewN ?_ _ | refine Below.drew ?_ | refine below_alloc ?_ _ | refine Below.setCell ?_ (by first | omega | (simp; done) | (simp; omega)) _ | refine below_then ?_ (by assumption)))
theorem div_no (n1 d1 n2 d2 : Int) (w : World) (h : vld n1 d1 = false ∨ (vld n1 d1 = true ∧ vld n2 d2 = false)) (h1 : B64 n1) (k1 : B64 d1) (h2 : B64 n2) (k2 : B64 d2) : Calls Tryd.prog 31 #[.agg #[.int .i64 n1, .int .i64 d1], .agg #[.int .i64 n2, .int .i64 d2]] w fun e w' => e = .returned (.tuple #[.agg #[.int .i64 0, .int .i64 0], .int .i64 1]) ∧ Below w.heap.size w w' := by
  have H := Lib.hid (fun k cap W => checked_no n1 d1 n2 d2 k cap W h h1 k1 h2 k2)
  clear h h1 h2 k1 k2
  go_enter Tryd.func31, Tryd.ntmps31
  go_wp2_with (go_at_call 40; refine (H.out _ _ _).mono ?_; rintro e w1 ⟨rfl, hb⟩; obtain ⟨hc, hf⟩ := bcell hb; have hz := hb.size; (try simp at hz); (have zl0 : w.heap.size < w1.heap.size := by omega); (have ze0 : w.heap.size ≤ w1.heap.size := by omega); (have zl1 : w.heap.size + 1 < w1.heap.size := by omega); (have ze1 : w.heap.size + 1 ≤ w1.heap.size := by omega); (have zl2 : w.heap.size + 1 + 1 < w1.heap.size := by omega); (have ze2 : w.heap.size + 1 + 1 ≤ w1.heap.size := by omega))
  refine bodyPost_ret (by simp [results, Tryd.results31, go_sem, *]; rfl) rfl ⟨?_, ?_⟩
  · rfl
  · (repeat (first | exact Below.refl _ _ | refine below_drewN ?_ _ | refine Below.drew ?_ | refine below_alloc ?_ _ | refine Below.setCell ?_ (by first | omega | (simp; done) | (simp; omega)) _ | refine below_then ?_ (by assumption)))
set_option maxHeartbeats 800000 in
theorem cmp_no (n1 d1 n2 d2 : Int) (w : World) (h : vld n1 d1 = false ∨ (vld n1 d1 = true ∧ vld n2 d2 = false)) (h1 : B64 n1) (k1 : B64 d1) (h2 : B64 n2) (k2 : B64 d2) : Calls Tryd.prog 16 #[.agg #[.int .i64 n1, .int .i64 d1], .agg #[.int .i64 n2, .int .i64 d2]] w fun e w' => e = .returned (.int .i64 0) ∧ Below w.heap.size w w' := by
  have HV1 := Lib.hid (fun W => valid_any n1 d1 W h1.1 h1.2 k1.1 k1.2)
  have HV2 := Lib.hid (fun W => valid_any n2 d2 W h2.1 h2.2 k2.1 k2.2)
  rcases h with h | ⟨h, h'⟩
  · rw [h] at HV1
    clear h h1 h2 k1 k2 HV2
    go_enter Tryd.func16, Tryd.ntmps16
    go_wp2_with (go_at_call 15; refine (HV1.out _).mono ?_; rintro e w1 ⟨rfl, hb⟩; obtain ⟨hc, hf⟩ := bcell hb; have hz := hb.size; (try simp at hz); (have zl0 : w.heap.size < w1.heap.size := by omega); (have ze0 : w.heap.size ≤ w1.heap.size := by omega); (have zl1 : w.heap.size + 1 < w1.heap.size := by omega); (have ze1 : w.heap.size + 1 ≤ w1.heap.size := by omega))
    go_ret
    exact ⟨rfl, by (repeat (first | exact Below.refl _ _ | refine below_drewN ?_ _ | refine Below.drew ?_ | refine below_alloc ?_ _ | refine Below.setCell ?_ (by first | omega | (simp; done) | (simp; omega)) _ | refine below_then ?_ (by assumption)))⟩
  · rw [h] at HV1
    rw [h'] at HV2
    clear h h' h1 h2 k1 k2
    go_enter Tryd.func16, Tryd.ntmps16
    go_wp2_with (first | (go_at_call 15; (with_reducible refine (HV1.out _).mono ?_); rintro e w1 ⟨rfl, hb⟩; obtain ⟨hc, hf⟩ := bcell hb; have hz := hb.size; (try simp at hz); (have zl0 : w.heap.size < w1.heap.size := by omega); (have ze0 : w.heap.size ≤ w1.heap.size := by omega); (have zl1 : w.heap.size + 1 < w1.heap.size := by omega); (have ze1 : w.heap.size + 1 ≤ w1.heap.size := by omega)) | (go_at_call 15; (with_reducible refine (HV2.out _).mono ?_); rintro e w1 ⟨rfl, hb⟩; obtain ⟨hc, hf⟩ := bcell hb; have hz := hb.size; (try simp at hz); (have zl0 : w.heap.size < w1.heap.size := by omega); (have ze0 : w.heap.size ≤ w1.heap.size := by omega); (have zl1 : w.heap.size + 1 < w1.heap.size := by omega); (have ze1 : w.heap.size + 1 ≤ w1.heap.size := by omega)))
    go_ret
    exact ⟨rfl, by (repeat (first | exact Below.refl _ _ | refine below_drewN ?_ _ | refine Below.drew ?_ | refine below_alloc ?_ _ | refine Below.setCell ?_ (by first | omega | (simp; done) | (simp; omega)) _ | refine below_then ?_ (by assumption)))⟩
set_option maxHeartbeats 800000 in
theorem rcmp_no (n1 d1 n2 d2 : Int) (w : World) (h : vld n1 d1 = false ∨ (vld n1 d1 = true ∧ vld n2 d2 = false)) (h1 : B64 n1) (k1 : B64 d1) (h2 : B64 n2) (k2 : B64 d2) : Calls Tryd.prog 34 #[.agg #[.int .i64 n1, .int .i64 d1], .agg #[.int .i64 n2, .int .i64 d2]] w fun e w' => e = .returned (.int .i64 0) ∧ Below w.heap.size w w' := by
  have HV1 := Lib.hid (fun W => rvalid_any n1 d1 W h1.1 h1.2 k1.1 k1.2)
  have HV2 := Lib.hid (fun W => rvalid_any n2 d2 W h2.1 h2.2 k2.1 k2.2)
  rcases h with h | ⟨h, h'⟩
  · rw [h] at HV1
    clear h h1 h2 k1 k2 HV2
    go_enter Tryd.func34, Tryd.ntmps34
    go_wp2_with (go_at_call 33; refine (HV1.out _).mono ?_; rintro e w1 ⟨rfl, hb⟩; obtain ⟨hc, hf⟩ := bcell hb; have hz := hb.size; (try simp at hz); (have zl0 : w.heap.size < w1.heap.size := by omega); (have ze0 : w.heap.size ≤ w1.heap.size := by omega); (have zl1 : w.heap.size + 1 < w1.heap.size := by omega); (have ze1 : w.heap.size + 1 ≤ w1.heap.size := by omega))
    go_ret
    exact ⟨rfl, by (repeat (first | exact Below.refl _ _ | refine below_drewN ?_ _ | refine Below.drew ?_ | refine below_alloc ?_ _ | refine Below.setCell ?_ (by first | omega | (simp; done) | (simp; omega)) _ | refine below_then ?_ (by assumption)))⟩
  · rw [h] at HV1
    rw [h'] at HV2
    clear h h' h1 h2 k1 k2
    go_enter Tryd.func34, Tryd.ntmps34
    go_wp2_with (first | (go_at_call 33; (with_reducible refine (HV1.out _).mono ?_); rintro e w1 ⟨rfl, hb⟩; obtain ⟨hc, hf⟩ := bcell hb; have hz := hb.size; (try simp at hz); (have zl0 : w.heap.size < w1.heap.size := by omega); (have ze0 : w.heap.size ≤ w1.heap.size := by omega); (have zl1 : w.heap.size + 1 < w1.heap.size := by omega); (have ze1 : w.heap.size + 1 ≤ w1.heap.size := by omega)) | (go_at_call 33; (with_reducible refine (HV2.out _).mono ?_); rintro e w1 ⟨rfl, hb⟩; obtain ⟨hc, hf⟩ := bcell hb; have hz := hb.size; (try simp at hz); (have zl0 : w.heap.size < w1.heap.size := by omega); (have ze0 : w.heap.size ≤ w1.heap.size := by omega); (have zl1 : w.heap.size + 1 < w1.heap.size := by omega); (have ze1 : w.heap.size + 1 ≤ w1.heap.size := by omega)))
    go_ret
    exact ⟨rfl, by (repeat (first | exact Below.refl _ _ | refine below_drewN ?_ _ | refine Below.drew ?_ | refine below_alloc ?_ _ | refine Below.setCell ?_ (by first | omega | (simp; done) | (simp; omega)) _ | refine below_then ?_ (by assumption)))⟩
set_option maxHeartbeats 800000 in
theorem radd_no (n1 d1 n2 d2 : Int) (w : World) (h : vld n1 d1 = false ∨ (vld n1 d1 = true ∧ vld n2 d2 = false)) (h1 : B64 n1) (k1 : B64 d1) (h2 : B64 n2) (k2 : B64 d2) : Calls Tryd.prog 27 #[.agg #[.int .i64 n1, .int .i64 d1], .agg #[.int .i64 n2, .int .i64 d2]] w fun e w' => e = .returned (.tuple #[.agg #[.int .i64 0, .int .i64 0], .int .i64 1]) ∧ Below w.heap.size w w' := by
  have HV1 := Lib.hid (fun W => rvalid_any n1 d1 W h1.1 h1.2 k1.1 k1.2)
  have HV2 := Lib.hid (fun W => rvalid_any n2 d2 W h2.1 h2.2 k2.1 k2.2)
  rcases h with h | ⟨h, h'⟩
  · rw [h] at HV1
    clear h h1 h2 k1 k2 HV2
    go_enter Tryd.func27, Tryd.ntmps27
    go_wp2_with (go_at_call 33; refine (HV1.out _).mono ?_; rintro e w1 ⟨rfl, hb⟩; obtain ⟨hc, hf⟩ := bcell hb; have hz := hb.size; (try simp at hz); (have zl0 : w.heap.size < w1.heap.size := by omega); (have ze0 : w.heap.size ≤ w1.heap.size := by omega); (have zl1 : w.heap.size + 1 < w1.heap.size := by omega); (have ze1 : w.heap.size + 1 ≤ w1.heap.size := by omega); (have zl2 : w.heap.size + 1 + 1 < w1.heap.size := by omega); (have ze2 : w.heap.size + 1 + 1 ≤ w1.heap.size := by omega))
    refine bodyPost_ret (by simp [results, Tryd.results27, go_sem, *]; rfl) rfl ⟨?_, ?_⟩
    · rfl
    · (repeat (first | exact Below.refl _ _ | refine below_drewN ?_ _ | refine Below.drew ?_ | refine below_alloc ?_ _ | refine Below.setCell ?_ (by first | omega | (simp; done) | (simp; omega)) _ | refine below_then ?_ (by assumption)))
  · rw [h] at HV1
    rw [h'] at HV2
    clear h h' h1 h2 k1 k2
    go_enter Tryd.func27, Tryd.ntmps27
    go_wp2_with (first | (go_at_call 33; (with_reducible refine (HV1.out _).mono ?_); rintro e w1 ⟨rfl, hb⟩; obtain ⟨hc, hf⟩ := bcell hb; have hz := hb.size; (try simp at hz); (have zl0 : w.heap.size < w1.heap.size := by omega); (have ze0 : w.heap.size ≤ w1.heap.size := by omega); (have zl1 : w.heap.size + 1 < w1.heap.size := by omega); (have ze1 : w.heap.size + 1 ≤ w1.heap.size := by omega); (have zl2 : w.heap.size + 1 + 1 < w1.heap.size := by omega); (have ze2 : w.heap.size + 1 + 1 ≤ w1.heap.size := by omega)) | (go_at_call 33; (with_reducible refine (HV2.out _).mono ?_); rintro e w1 ⟨rfl, hb⟩; obtain ⟨hc, hf⟩ := bcell hb; have hz := hb.size; (try simp at hz); (have zl0 : w.heap.size < w1.heap.size := by omega); (have ze0 : w.heap.size ≤ w1.heap.size := by omega); (have zl1 : w.heap.size + 1 < w1.heap.size := by omega); (have ze1 : w.heap.size + 1 ≤ w1.heap.size := by omega); (have zl2 : w.heap.size + 1 + 1 < w1.heap.size := by omega); (have ze2 : w.heap.size + 1 + 1 ≤ w1.heap.size := by omega)))
    refine bodyPost_ret (by simp [results, Tryd.results27, go_sem, *]; rfl) rfl ⟨?_, ?_⟩
    · rfl
    · (repeat (first | exact Below.refl _ _ | refine below_drewN ?_ _ | refine Below.drew ?_ | refine below_alloc ?_ _ | refine Below.setCell ?_ (by first | omega | (simp; done) | (simp; omega)) _ | refine below_then ?_ (by assumption)))
set_option maxHeartbeats 800000 in
theorem rsub_no (n1 d1 n2 d2 : Int) (w : World) (h : vld n1 d1 = false ∨ (vld n1 d1 = true ∧ vld n2 d2 = false)) (h1 : B64 n1) (k1 : B64 d1) (h2 : B64 n2) (k2 : B64 d2) : Calls Tryd.prog 29 #[.agg #[.int .i64 n1, .int .i64 d1], .agg #[.int .i64 n2, .int .i64 d2]] w fun e w' => e = .returned (.tuple #[.agg #[.int .i64 0, .int .i64 0], .int .i64 1]) ∧ Below w.heap.size w w' := by
  have HV1 := Lib.hid (fun W => rvalid_any n1 d1 W h1.1 h1.2 k1.1 k1.2)
  have HV2 := Lib.hid (fun W => rvalid_any n2 d2 W h2.1 h2.2 k2.1 k2.2)
  rcases h with h | ⟨h, h'⟩
  · rw [h] at HV1
    clear h h1 h2 k1 k2 HV2
    go_enter Tryd.func29, Tryd.ntmps29
    go_wp2_with (go_at_call 33; refine (HV1.out _).mono ?_; rintro e w1 ⟨rfl, hb⟩; obtain ⟨hc, hf⟩ := bcell hb; have hz := hb.size; (try simp at hz); (have zl0 : w.heap.size < w1.heap.size := by omega); (have ze0 : w.heap.size ≤ w1.heap.size := by omega); (have zl1 : w.heap.size + 1 < w1.heap.size := by omega); (have ze1 : w.heap.size + 1 ≤ w1.heap.size := by omega); (have zl2 : w.heap.size + 1 + 1 < w1.heap.size := by omega); (have ze2 : w.heap.size + 1 + 1 ≤ w1.heap.size := by omega))
    refine bodyPost_ret (by simp [results, Tryd.results29, go_sem, *]; rfl) rfl ⟨?_, ?_⟩
    · rfl
    · (repeat (first | exact Below.refl _ _ | refine below_drewN ?_ _ | refine Below.drew ?_ | refine below_alloc ?_ _ | refine Below.setCell ?_ (by first | omega | (simp; done) | (simp; omega)) _ | refine below_then ?_ (by assumption)))
  · rw [h] at HV1
    rw [h'] at HV2
    clear h h' h1 h2 k1 k2
    go_enter Tryd.func29, Tryd.ntmps29
    go_wp2_with (first | (go_at_call 33; (with_reducible refine (HV1.out _).mono ?_); rintro e w1 ⟨rfl, hb⟩; obtain ⟨hc, hf⟩ := bcell hb; have hz := hb.size; (try simp at hz); (have zl0 : w.heap.size < w1.heap.size := by omega); (have ze0 : w.heap.size ≤ w1.heap.size := by omega); (have zl1 : w.heap.size + 1 < w1.heap.size := by omega); (have ze1 : w.heap.size + 1 ≤ w1.heap.size := by omega); (have zl2 : w.heap.size + 1 + 1 < w1.heap.size := by omega); (have ze2 : w.heap.size + 1 + 1 ≤ w1.heap.size := by omega)) | (go_at_call 33; (with_reducible refine (HV2.out _).mono ?_); rintro e w1 ⟨rfl, hb⟩; obtain ⟨hc, hf⟩ := bcell hb; have hz := hb.size; (try simp at hz); (have zl0 : w.heap.size < w1.heap.size := by omega); (have ze0 : w.heap.size ≤ w1.heap.size := by omega); (have zl1 : w.heap.size + 1 < w1.heap.size := by omega); (have ze1 : w.heap.size + 1 ≤ w1.heap.size := by omega); (have zl2 : w.heap.size + 1 + 1 < w1.heap.size := by omega); (have ze2 : w.heap.size + 1 + 1 ≤ w1.heap.size := by omega)))
    refine bodyPost_ret (by simp [results, Tryd.results29, go_sem, *]; rfl) rfl ⟨?_, ?_⟩
    · rfl
    · (repeat (first | exact Below.refl _ _ | refine below_drewN ?_ _ | refine Below.drew ?_ | refine below_alloc ?_ _ | refine Below.setCell ?_ (by first | omega | (simp; done) | (simp; omega)) _ | refine below_then ?_ (by assumption)))
set_option maxHeartbeats 800000 in
theorem rmul_no (n1 d1 n2 d2 : Int) (w : World) (h : vld n1 d1 = false ∨ (vld n1 d1 = true ∧ vld n2 d2 = false)) (h1 : B64 n1) (k1 : B64 d1) (h2 : B64 n2) (k2 : B64 d2) : Calls Tryd.prog 30 #[.agg #[.int .i64 n1, .int .i64 d1], .agg #[.int .i64 n2, .int .i64 d2]] w fun e w' => e = .returned (.tuple #[.agg #[.int .i64 0, .int .i64 0], .int .i64 1]) ∧ Below w.heap.size w w' := by
  have HV1 := Lib.hid (fun W => rvalid_any n1 d1 W h1.1 h1.2 k1.1 k1.2)
  have HV2 := Lib.hid (fun W => rvalid_any n2 d2 W h2.1 h2.2 k2.1 k2.2)
  rcases h with h | ⟨h, h'⟩
  · rw [h] at HV1
    clear h h1 h2 k1 k2 HV2
    go_enter Tryd.func30, Tryd.ntmps30
    go_wp2_with (go_at_call 33; refine (HV1.out _).mono ?_; rintro e w1 ⟨rfl, hb⟩; obtain ⟨hc, hf⟩ := bcell hb; have hz := hb.size; (try simp at hz); (have zl0 : w.heap.size < w1.heap.size := by omega); (have ze0 : w.heap.size ≤ w1.heap.size := by omega); (have zl1 : w.heap.size + 1 < w1.heap.size := by omega); (have ze1 : w.heap.size + 1 ≤ w1.heap.size := by omega); (have zl2 : w.heap.size + 1 + 1 < w1.heap.size := by omega); (have ze2 : w.heap.size + 1 + 1 ≤ w1.heap.size := by omega))
    refine bodyPost_ret (by simp [results, Tryd.results30, go_sem, *]; rfl) rfl ⟨?_, ?_⟩
    · rfl
    · (repeat (first | exact Below.refl _ _ | refine below_drewN ?_ _ | refine Below.drew ?_ | refine below_alloc ?_ _ | refine Below.setCell ?_ (by first | omega | (simp; done) | (simp; omega)) _ | refine below_then ?_ (by assumption)))
  · rw [h] at HV1
    rw [h'] at HV2
    clear h h' h1 h2 k1 k2
    go_enter Tryd.func30, Tryd.ntmps30
    go_wp2_with (first | (go_at_call 33; (with_reducible refine (HV1.out _).mono ?_); rintro e w1 ⟨rfl, hb⟩; obtain ⟨hc, hf⟩ := bcell hb; have hz := hb.size; (try simp at hz); (have zl0 : w.heap.size < w1.heap.size := by omega); (have ze0 : w.heap.size ≤ w1.heap.size := by omega); (have zl1 : w.heap.size + 1 < w1.heap.size := by omega); (have ze1 : w.heap.size + 1 ≤ w1.heap.size := by omega); (have zl2 : w.heap.size + 1 + 1 < w1.heap.size := by omega); (have ze2 : w.heap.size + 1 + 1 ≤ w1.heap.size := by omega)) | (go_at_call 33; (with_reducible refine (HV2.out _).mono ?_); rintro e w1 ⟨rfl, hb⟩; obtain ⟨hc, hf⟩ := bcell hb; have hz := hb.size; (try simp at hz); (have zl0 : w.heap.size < w1.heap.size := by omega); (have ze0 : w.heap.size ≤ w1.heap.size := by omega); (have zl1 : w.heap.size + 1 < w1.heap.size := by omega); (have ze1 : w.heap.size + 1 ≤ w1.heap.size := by omega); (have zl2 : w.heap.size + 1 + 1 < w1.heap.size := by omega); (have ze2 : w.heap.size + 1 + 1 ≤ w1.heap.size := by omega)))
    refine bodyPost_ret (by simp [results, Tryd.results30, go_sem, *]; rfl) rfl ⟨?_, ?_⟩
    · rfl
    · (repeat (first | exact Below.refl _ _ | refine below_drewN ?_ _ | refine Below.drew ?_ | refine below_alloc ?_ _ | refine Below.setCell ?_ (by first | omega | (simp; done) | (simp; omega)) _ | refine below_then ?_ (by assumption)))
set_option maxHeartbeats 800000 in
theorem rdiv_no (n1 d1 n2 d2 : Int) (w : World) (h : vld n1 d1 = false ∨ (vld n1 d1 = true ∧ vld n2 d2 = false)) (h1 : B64 n1) (k1 : B64 d1) (h2 : B64 n2) (k2 : B64 d2) : Calls Tryd.prog 32 #[.agg #[.int .i64 n1, .int .i64 d1], .agg #[.int .i64 n2, .int .i64 d2]] w fun e w' => e = .returned (.tuple #[.agg #[.int .i64 0, .int .i64 0], .int .i64 1]) ∧ Below w.heap.size w w' := by
  have HV1 := Lib.hid (fun W => rvalid_any n1 d1 W h1.1 h1.2 k1.1 k1.2)
  have HV2 := Lib.hid (fun W => rvalid_any n2 d2 W h2.1 h2.2 k2.1 k2.2)
  rcases h with h | ⟨h, h'⟩
  · rw [h] at HV1
    clear h h1 h2 k1 k2 HV2
    go_enter Tryd.func32, Tryd.ntmps32
    go_wp2_with (go_at_call 33; refine (HV1.out _).mono ?_; rintro e w1 ⟨rfl, hb⟩; obtain ⟨hc, hf⟩ := bcell hb; have hz := hb.size; (try simp at hz); (have zl0 : w.heap.size < w1.heap.size := by omega); (have ze0 : w.heap.size ≤ w1.heap.size := by omega); (have zl1 : w.heap.size + 1 < w1.heap.size := by omega); (have ze1 : w.heap.size + 1 ≤ w1.heap.size := by omega); (have zl2 : w.heap.size + 1 + 1 < w1.heap.size := by omega); (have ze2 : w.heap.size + 1 + 1 ≤ w1.heap.size := by omega))
    refine bodyPost_ret (by simp [results, Tryd.results32, go_sem, *]; rfl) rfl ⟨?_, ?_⟩
    · rfl
    · (repeat (first | exact Below.refl _ _ | refine below_drewN ?_ _ | refine Below.drew ?_ | refine below_alloc ?_ _ | refine Below.setCell ?_ (by first | omega | (simp; done) | (simp; omega)) _ | refine below_then ?_ (by assumption)))
  · rw [h] at HV1
    rw [h'] at HV2
    clear h h' h1 h2 k1 k2
    go_enter Tryd.func32, Tryd.ntmps32
    go_wp2_with (first | (go_at_call 33; (with_reducible refine (HV1.out _).mono ?_); rintro e w1 ⟨rfl, hb⟩; obtain ⟨hc, hf⟩ := bcell hb; have hz := hb.size; (try simp at hz); (have zl0 : w.heap.size < w1.heap.size := by omega); (have ze0 : w.heap.size ≤ w1.heap.size := by omega); (have zl1 : w.heap.size + 1 < w1.heap.size := by omega); (have ze1 : w.heap.size + 1 ≤ w1.heap.size := by omega); (have zl2 : w.heap.size + 1 + 1 < w1.heap.size := by omega); (have ze2 : w.heap.size + 1 + 1 ≤ w1.heap.size := by omega)) | (go_at_call 33; (with_reducible refine (HV2.out _).mono ?_); rintro e w1 ⟨rfl, hb⟩; obtain ⟨hc, hf⟩ := bcell hb; have hz := hb.size; (try simp at hz); (have zl0 : w.heap.size < w1.heap.size := by omega); (have ze0 : w.heap.size ≤ w1.heap.size := by omega); (have zl1 : w.heap.size + 1 < w1.heap.size := by omega); (have ze1 : w.heap.size + 1 ≤ w1.heap.size := by omega); (have zl2 : w.heap.size + 1 + 1 < w1.heap.size := by omega); (have ze2 : w.heap.size + 1 + 1 ≤ w1.heap.size := by omega)))
    refine bodyPost_ret (by simp [results, Tryd.results32, go_sem, *]; rfl) rfl ⟨?_, ?_⟩
    · rfl
    · (repeat (first | exact Below.refl _ _ | refine below_drewN ?_ _ | refine Below.drew ?_ | refine below_alloc ?_ _ | refine Below.setCell ?_ (by first | omega | (simp; done) | (simp; omega)) _ | refine below_then ?_ (by assumption)))
set_option maxHeartbeats 800000 in
theorem round_no (n1 d1 p : Int) (w : World) (h : vld n1 d1 = false ∨ (vld n1 d1 = true ∧ (p < 1 ∨ (¬ p < 1 ∧ 1000000 < p)))) (h1 : B64 n1) (k1 : B64 d1) : Calls Tryd.prog 21 #[.agg #[.int .i64 n1, .int .i64 d1], .int .i64 p] w fun e w' => e = .returned (.tuple #[.agg #[.int .i64 0, .int .i64 0], .int .i64 1]) ∧ Below w.heap.size w w' := by
  have HV1 := Lib.hid (fun W => valid_any n1 d1 W h1.1 h1.2 k1.1 k1.2)
  clear h1 k1
  rcases h with h | ⟨h, h' | ⟨h', h2⟩⟩
  · rw [h] at HV1
    clear h
    go_enter Tryd.func21, Tryd.ntmps21
    go_wp2_with (go_at_call 15; refine (HV1.out _).mono ?_; rintro e w1 ⟨rfl, hb⟩; obtain ⟨hc, hf⟩ := bcell hb; have hz := hb.size; (try simp at hz); (have zl0 : w.heap.size < w1.heap.size := by omega); (have ze0 : w.heap.size ≤ w1.heap.size := by omega); (have zl1 : w.heap.size + 1 < w1.heap.size := by omega); (have ze1 : w.heap.size + 1 ≤ w1.heap.size := by omega))
    refine bodyPost_ret (by simp [results, Tryd.results21, go_sem, *]; rfl) rfl ⟨?_, ?_⟩
    · rfl
    · (repeat (first | exact Below.refl _ _ | refine below_drewN ?_ _ | refine Below.drew ?_ | refine below_alloc ?_ _ | refine Below.setCell ?_ (by first | omega | (simp; done) | (simp; omega)) _ | refine below_then ?_ (by assumption)))
  · rw [h] at HV1
    have t1 := decide_eq_true h'
    clear h h'
    go_enter Tryd.func21, Tryd.ntmps21
    go_wp2_with (go_at_call 15; refine (HV1.out _).mono ?_; rintro e w1 ⟨rfl, hb⟩; obtain ⟨hc, hf⟩ := bcell hb; have hz := hb.size; (try simp at hz); (have zl0 : w.heap.size < w1.heap.size := by omega); (have ze0 : w.heap.size ≤ w1.heap.size := by omega); (have zl1 : w.heap.size + 1 < w1.heap.size := by omega); (have ze1 : w.heap.size + 1 ≤ w1.heap.size := by omega))
    refine bodyPost_ret (by simp [results, Tryd.results21, go_sem, *]; rfl) rfl ⟨?_, ?_⟩
    · rfl
    · (repeat (first | exact Below.refl _ _ | refine below_drewN ?_ _ | refine Below.drew ?_ | refine below_alloc ?_ _ | refine Below.setCell ?_ (by first | omega | (simp; done) | (simp; omega)) _ | refine below_then ?_ (by assumption)))
  · rw [h] at HV1
    have t1 := decide_eq_false h'
    have t2 := decide_eq_true h2
    clear h h' h2
    go_enter Tryd.func21, Tryd.ntmps21
    go_wp2_with (go_at_call 15; refine (HV1.out _).mono ?_; rintro e w1 ⟨rfl, hb⟩; obtain ⟨hc, hf⟩ := bcell hb; have hz := hb.size; (try simp at hz); (have zl0 : w.heap.size < w1.heap.size := by omega); (have ze0 : w.heap.size ≤ w1.heap.size := by omega); (have zl1 : w.heap.size + 1 < w1.heap.size := by omega); (have ze1 : w.heap.size + 1 ≤ w1.heap.size := by omega))
    refine bodyPost_ret (by simp [results, Tryd.results21, go_sem, *]; rfl) rfl ⟨?_, ?_⟩
    · rfl
    · (repeat (first | exact Below.refl _ _ | refine below_drewN ?_ _ | refine Below.drew ?_ | refine below_alloc ?_ _ | refine Below.setCell ?_ (by first | omega | (simp; done) | (simp; omega)) _ | refine below_then ?_ (by assumption)))
set_option maxHeartbeats 800000 in
theorem rround_no (n1 d1 p : Int) (w : World) (h : vld n1 d1 = false ∨ (vld n1 d1 = true ∧ (p < 1 ∨ (¬ p < 1 ∧ 1000000 < p)))) (h1 : B64 n1) (k1 : B64 d1) : Calls Tryd.prog 26 #[.agg #[.int .i64 n1, .int .i64 d1], .int .i64 p] w fun e w' => e = .returned (.tuple #[.agg #[.int .i64 0, .int .i64 0], .int .i64 1]) ∧ Below w.heap.size w w' := by
  have HV1 := Lib.hid (fun W => rvalid_any n1 d1 W h1.1 h1.2 k1.1 k1.2)
  clear h1 k1
  rcases h with h | ⟨h, h' | ⟨h', h2⟩⟩
  · rw [h] at HV1
    clear h
    go_enter Tryd.func26, Tryd.ntmps26
    go_wp2_with (go_at_call 33; refine (HV1.out _).mono ?_; rintro e w1 ⟨rfl, hb⟩; obtain ⟨hc, hf⟩ := bcell hb; have hz := hb.size; (try simp at hz); (have zl0 : w.heap.size < w1.heap.size := by omega); (have ze0 : w.heap.size ≤ w1.heap.size := by omega); (have zl1 : w.heap.size + 1 < w1.heap.size := by omega); (have ze1 : w.heap.size + 1 ≤ w1.heap.size := by omega))
    refine bodyPost_ret (by simp [results, Tryd.results26, go_sem, *]; rfl) rfl ⟨?_, ?_⟩
    · rfl
    · (repeat (first | exact Below.refl _ _ | refine below_drewN ?_ _ | refine Below.drew ?_ | refine below_alloc ?_ _ | refine Below.setCell ?_ (by first | omega | (simp; done) | (simp; omega)) _ | refine below_then ?_ (by assumption)))
  · rw [h] at HV1
    have t1 := decide_eq_true h'
    clear h h'
    go_enter Tryd.func26, Tryd.ntmps26
    go_wp2_with (go_at_call 33; refine (HV1.out _).mono ?_; rintro e w1 ⟨rfl, hb⟩; obtain ⟨hc, hf⟩ := bcell hb; have hz := hb.size; (try simp at hz); (have zl0 : w.heap.size < w1.heap.size := by omega); (have ze0 : w.heap.size ≤ w1.heap.size := by omega); (have zl1 : w.heap.size + 1 < w1.heap.size := by omega); (have ze1 : w.heap.size + 1 ≤ w1.heap.size := by omega))
    refine bodyPost_ret (by simp [results, Tryd.results26, go_sem, *]; rfl) rfl ⟨?_, ?_⟩
    · rfl
    · (repeat (first | exact Below.refl _ _ | refine below_drewN ?_ _ | refine Below.drew ?_ | refine below_alloc ?_ _ | refine Below.setCell ?_ (by first | omega | (simp; done) | (simp; omega)) _ | refine below_then ?_ (by assumption)))
  · rw [h] at HV1
    have t1 := decide_eq_false h'
    have t2 := decide_eq_true h2
    clear h h' h2
    go_enter Tryd.func26, Tryd.ntmps26
    go_wp2_with (go_at_call 33; refine (HV1.out _).mono ?_; rintro e w1 ⟨rfl, hb⟩; obtain ⟨hc, hf⟩ := bcell hb; have hz := hb.size; (try simp at hz); (have zl0 : w.heap.size < w1.heap.size := by omega); (have ze0 : w.heap.size ≤ w1.heap.size := by omega); (have zl1 : w.heap.size + 1 < w1.heap.size := by omega); (have ze1 : w.heap.size + 1 ≤ w1.heap.size := by omega))
    refine bodyPost_ret (by simp [results, Tryd.results26, go_sem, *]; rfl) rfl ⟨?_, ?_⟩
    · rfl
    · (repeat (first | exact Below.refl _ _ | refine below_drewN ?_ _ | refine Below.drew ?_ | refine below_alloc ?_ _ | refine Below.setCell ?_ (by first | omega | (simp; done) | (simp; omega)) _ | refine below_then ?_ (by assumption)))
theorem rfloor_no (n d : Int) (w : World) (h1 : B64 n) (k1 : B64 d) (hv : vld n d = false) :
    Calls Tryd.prog 35 #[.agg #[.int .i64 n, .int .i64 d]] w fun e w' => e = .returned (.int .i64 0) ∧ Below w.heap.size w w' := by
  have HV := Lib.hid (fun W => rvalid_any n d W h1.1 h1.2 k1.1 k1.2)
  rw [hv] at HV
  clear hv h1 k1
  go_enter Tryd.func35, Tryd.ntmps35
  go_wp2_with (go_at_call 33; refine (HV.out _).mono ?_; rintro e w1 ⟨rfl, hb⟩; obtain ⟨hc, hf⟩ := bcell hb; have hz := hb.size; (try simp at hz); (have zl0 : w.heap.size < w1.heap.size := by omega); (have ze0 : w.heap.size ≤ w1.heap.size := by omega))
  go_ret
  exact ⟨rfl, by (repeat (first | exact Below.refl _ _ | refine below_drewN ?_ _ | refine Below.drew ?_ | refine below_alloc ?_ _ | refine Below.setCell ?_ (by first | omega | (simp; done) | (simp; omega)) _ | refine below_then ?_ (by assumption)))⟩
theorem rof0_any (sg : Bool) (a : Int) (w : World) : Calls Tryd.prog 48 #[.bool sg, .int .u64 a, .int .u64 0] w fun e w' => e = .returned (.tuple #[.agg #[.int .i64 0, .int .i64 0], .int .i64 1]) ∧ Below w.heap.size w w' := by
  go_enter Tryd.func48, Tryd.ntmps48
  go_wp2
  refine bodyPost_ret (by simp [results, Tryd.results48, go_sem, *]; rfl) rfl ⟨?_, ?_⟩
  · rfl
  · (repeat (first | exact Below.refl _ _ | refine below_drewN ?_ _ | refine Below.drew ?_ | refine below_alloc ?_ _ | refine Below.setCell ?_ (by first | omega | (simp; done) | (simp; omega)) _ | refine below_then ?_ (by assumption)))
theorem rmake0_any (p : Int) (w : World) (p1 : -9223372036854775808 ≤ p) (p2 : p ≤ 9223372036854775807) : Calls Tryd.prog 24 #[.int .i64 p, .int .i64 0] w fun e w' => e = .returned (.tuple #[.agg #[.int .i64 0, .int .i64 0], .int .i64 1]) ∧ Below w.heap.size w w' := by
  have HO := Lib.hid (fun sg a W => rof0_any sg a W)
  have m1 := mag_bd p1 p2
  have hm : mag 0 = 0 := rfl
  by_cases h : p < 0
  all_goals
    go_enter Tryd.func24, Tryd.ntmps24
    go_wp2_with (first | (go_at_call 49; refine (size_any _ _ (by omega) (by omega)).mono ?_; rintro e w' ⟨rfl, rfl⟩) | (go_at_call 48; refine (HO.out _ _ _).mono ?_; rintro e w1 ⟨rfl, hb⟩; obtain ⟨hc, hf⟩ := bcell hb; have hz := hb.size; (try simp at hz); (have zl0 : w.heap.size < w1.heap.size := by omega); (have ze0 : w.heap.size ≤ w1.heap.size := by omega)))
    refine bodyPost_ret (by simp [results, Tryd.results24, go_sem, *]; rfl) rfl ⟨?_, ?_⟩
    · rfl
    · (repeat (first | exact Below.refl _ _ | refine below_drewN ?_ _ | refine Below.drew ?_ | refine below_alloc ?_ _ | refine Below.setCell ?_ (by first | omega | (simp; done) | (simp; omega)) _ | refine below_then ?_ (by assumption)))
theorem rfloori_any (n d : Int) (w : World) (h1 : -4000000000000000000 ≤ n) (h2 : n ≤ 4000000000000000000) (hd : 0 < d) (hd2 : d ≤ 1000000) :
    Calls Tryd.prog 51 #[.int .i64 n, .int .i64 d] w fun e w' => e = .returned (.int .i64 (flo n d)) ∧ w' = w := by
  have hf := flo_code (n := n) hd
  have hq : -4000000000000000000 ≤ n.tdiv d ∧ n.tdiv d ≤ 4000000000000000000 := by
    have := Int.natAbs_tdiv_le_natAbs n d
    omega
  have hd0 : d ≠ 0 := by omega
  have hdz : (d == 0) = false := by simpa using hd0
  have hd1 : (d == -1) = false := by simp; omega
  obtain ⟨k, hk⟩ : ∃ k, flo n d = k := ⟨_, rfl⟩
  rw [hk] at hf ⊢
  by_cases h : n.tmod d < 0
  · rw [if_pos h] at hf
    have t1 := decide_eq_true h
    have HF := Lib.hid hf
    clear hf hk h
    go_enter Tryd.func51, Tryd.ntmps51
    go_wp2
    go_ret
    exact ⟨by rw [← HF.out]; rfl, rfl⟩
  · rw [if_neg h] at hf
    have t1 := decide_eq_false h
    have HF := Lib.hid hf
    clear hf hk h
    go_enter Tryd.func51, Tryd.ntmps51
    go_wp2
    go_ret
    exact ⟨by rw [← HF.out]; rfl, rfl⟩
theorem rfloor_any (q : Rat) (w : World) (hq : inR q = true) :
    Calls Tryd.prog 35 #[.agg #[.int .i64 q.num, .int .i64 q.den]] w fun e w' => e = .returned (.int .i64 (flr q)) ∧ Below w.heap.size w w' := by
  have hb := inR_bd hq
  have hv := inR_vld hq
  have HF := Lib.hid (fun W => rfloori_any q.num q.den W (by omega) (by omega) (by omega) (by omega))
  have HV := Lib.hid (fun W => rvalid_any q.num q.den W (by omega) (by omega) (by omega) (by omega))
  rw [hv] at HV
  obtain ⟨k, hk⟩ : ∃ k, flo q.num q.den = k := ⟨_, rfl⟩
  rw [hk] at HF
  have HK : Hid (flr q = k) := hk
  clear hq hv hk hb
  go_enter Tryd.func35, Tryd.ntmps35
  go_wp2_with (first | (go_at_call 33; refine (HV.out _).mono ?_; rintro e w1 ⟨rfl, hb⟩; obtain ⟨hc, hf⟩ := bcell hb; have hz := hb.size; (try simp at hz); (have zl0 : w.heap.size < w1.heap.size := by omega); (have ze0 : w.heap.size ≤ w1.heap.size := by omega)) | (go_at_call 51; refine (HF.out _).mono ?_; rintro e w2 ⟨rfl, rfl⟩))
  go_ret
  exact ⟨ret_int HK.out.symm, by (repeat (first | exact Below.refl _ _ | refine below_drewN ?_ _ | refine Below.drew ?_ | refine below_alloc ?_ _ | refine Below.setCell ?_ (by first | omega | (simp; done) | (simp; omega)) _ | refine below_then ?_ (by assumption)))⟩
end Go.Proofs.YtbkekabhdpoddaaDoor
