/- The law's example: the portfolio that it makes, and what the functions say of it. -/
import Derived.Test.YteoicnhnpailiaaCe1
import Derived.Test.YteoicnhnpailiaaCd5
import Derived.Test.YteoicnhnpailiaaCe0
namespace Go.Proofs.Yteoicnhnpailiaa
open Go.RowKit Go.Sort Go.Maps

abbrev exE : Pf := ⟨3, [(5, 1), (5, 1), (1, 1)], [⟨0, 1, 6, 1⟩], [⟨1, 2, 7, 1⟩], [⟨1, 2, 0⟩], [⟨0, 1⟩]⟩
abbrev exF : Pf := ⟨3, [(5, 1), (5, 1), (1, 1)], [⟨0, 1, 6, 1⟩], [⟨1, 2, 7, 1⟩], [⟨1, 0, 2⟩], [⟨0, 1⟩]⟩
abbrev exG : Pf := ⟨3, [(5, 1), (-1, 1), (1, 1)], [⟨0, 1, 6, 1⟩], [⟨1, 2, 7, 1⟩], [⟨1, 0, 2⟩], [⟨0, 1⟩]⟩
theorem exE_v : VP exE := vldP_of (by kernel_rfl)
theorem exF_v : VP exF := vldP_of (by kernel_rfl)
theorem exG_v : vldP exG = false := by kernel_rfl
theorem exE_a : OwE (ow exE (pad [false, false, false]) 0) = .returned (.tuple #[.agg #[.int .i64 6, .int .i64 1], .int .i64 0]) := by kernel_rfl
theorem exE_b : OwE (ow exE (pad [true, false, false]) 1) = .returned (.tuple #[.agg #[.int .i64 7, .int .i64 1], .int .i64 0]) := by kernel_rfl
theorem exF_c : OwE (ow exF (pad [true, true, false]) 0) = .returned (.tuple #[.agg #[.int .i64 13, .int .i64 1], .int .i64 0]) := by kernel_rfl
theorem three_cases {i : Int} (h0 : 0 ≤ i) (h1 : i < 3) : i = 0 ∨ i = 1 ∨ i = 2 := by omega
theorem exE_1 : Dk exE 1 = [true, false, false, false, false, false, false, false, false, false, false, false] := by kernel_rfl
theorem exE_2 : Dk exE 2 = [true, true, false, false, false, false, false, false, false, false, false, false] := by kernel_rfl
theorem exE_o : outD exE 2 = [true, true, false] := by kernel_rfl
theorem exE_ok : SpOk exE 2 := by
  refine ⟨⟨fun j hj => ?_, fun j hj => ?_⟩, ?_, ?_⟩
  · rcases (show j = 0 ∨ j = 1 by omega) with rfl | rfl
    · intro i h0 h1
      rcases three_cases h0 h1 with rfl | rfl | rfl <;> kernel_rfl
    · intro i h0 h1
      rcases three_cases h0 h1 with rfl | rfl | rfl <;> kernel_rfl
  · rcases (show j = 0 ∨ j = 1 by omega) with rfl | rfl
    · rw [exE_1]; decide
    · rw [exE_2, exE_1]; decide
  · intro i h0 h1
    rcases three_cases h0 h1 with rfl | rfl | rfl <;> kernel_rfl
  · kernel_rfl
theorem exE_r0 {x : Int} (h0 : 0 ≤ x) (h1 : x < 3) (h : Rk exE x 0) : x = 0 := by
  have := h.1
  rw [show Dk exE (0 + 1) = _ from exE_1] at this
  rcases three_cases h0 h1 with rfl | rfl | rfl
  · rfl
  · cases this
  · cases this
theorem exE_r1 {x : Int} (h0 : 0 ≤ x) (h1 : x < 3) (h : Rk exE x 1) : x = 1 := by
  have h2 := h.1
  have h3 := h.2
  rw [show Dk exE (1 + 1) = _ from exE_2] at h2
  rw [exE_1] at h3
  rcases three_cases h0 h1 with rfl | rfl | rfl
  · cases h3
  · rfl
  · cases h2
theorem exE_ch {ch : List Int} (h : Chn exE 1 1 ch) : ch = [0, 1] := by
  match ch, h.len, h.last with
  | [a, b], _, hb =>
    simp at hb
    subst hb
    have h0 := h.rk 0 a rfl
    rw [exE_r0 h0.1 h0.2.1 h0.2.2]
theorem why1_ex (m : Ms) (w : World) (hm : Pm w exE m) :
    Calls Try.prog 21 #[.agg (pfA exE m), .int .i64 1] w fun e w' => (∃ v, e = .returned (.tuple #[v, .int .i64 0]) ∧ Own w' w.heap.size 3 1 encN v [0, 1]) ∧ Below w.heap.size w w' := by
  refine (why_any exE m 1 w (vp_fp exE_v) hm).mono ?_
  rintro e w' ⟨⟨h, _⟩ | ⟨_, _, ⟨K, hK, _⟩ | ⟨K, hK, hd, _⟩ | ⟨K, k, ch, v, hK, hk, hr, hc, he, ho⟩⟩, hb⟩
  · rcases h with h | h
    · rw [vldP_mk exE_v] at h; cases h
    · exact absurd h (by decide)
  · exact (exE_ok.no hK).elim
  · obtain rfl := hK.uniq exE_ok
    rw [exE_2] at hd; cases hd
  · obtain rfl := hK.uniq exE_ok
    rcases (show k = 0 ∨ k = 1 by omega) with rfl | rfl
    · have := exE_r0 (by decide) (by decide) hr
      cases this
    · rw [exE_ch hc] at ho
      exact ⟨⟨v, he, ho⟩, hb⟩
theorem why2_ex (m : Ms) (w : World) (hm : Pm w exE m) :
    Calls Try.prog 21 #[.agg (pfA exE m), .int .i64 2] w fun e w' => e = .returned (.tuple #[.slice none 0 0, .int .i64 14]) ∧ Below w.heap.size w w' := by
  refine (why_any exE m 2 w (vp_fp exE_v) hm).mono ?_
  rintro e w' ⟨⟨h, _⟩ | ⟨_, _, ⟨K, hK, _⟩ | ⟨K, hK, hd, he⟩ | ⟨K, k, ch, v, hK, hk, hr, hc, he, ho⟩⟩, hb⟩
  · rcases h with h | h
    · rw [vldP_mk exE_v] at h; cases h
    · exact absurd h (by decide)
  · exact (exE_ok.no hK).elim
  · exact ⟨he, hb⟩
  · obtain rfl := hK.uniq exE_ok
    rcases (show k = 0 ∨ k = 1 by omega) with rfl | rfl
    · have := exE_r0 (by decide) (by decide) hr
      cases this
    · have := exE_r1 (by decide) (by decide) hr
      cases this
theorem defs_ex (m : Ms) (w : World) (hm : Pm w exE m) :
    Calls Try.prog 13 #[.agg (pfA exE m)] w fun e w' => (∃ v, e = .returned (.tuple #[v, .int .i64 0]) ∧ GotB w.heap.size w' [true, true, false] v) ∧ Below w.heap.size w w' := by
  have := defaults_ok exE m w exE_v hm exE_ok
  rwa [exE_o] at this
theorem defs_bad (p : Pf) (m : Ms) (w : World) (hf : Fp p) (hm : Pm w p m) (hv : vldP p = false) :
    Calls Try.prog 13 #[.agg (pfA p m)] w fun e w' => e = .returned (.tuple #[.slice none 0 0, .int .i64 1]) ∧ Below w.heap.size w w' := by
  refine (defaults_any p m w hf hm).mono ?_
  rintro e w' ⟨⟨_, he⟩ | ⟨h, _⟩ | ⟨h, _⟩, hb⟩
  · exact ⟨he, hb⟩
  · rw [hv] at h; cases h
  · rw [hv] at h; cases h
theorem exG_f : Fp exG := by
  refine ⟨by decide, fun a ha => ?_, fun d hd => ?_, fun d hd => ?_, by decide, by decide, by decide, by decide, by decide⟩
  · simp at ha
    rcases ha with rfl | rfl | rfl <;> decide
  · simp at hd; subst hd; exact ⟨by decide, by decide, by decide, by decide⟩
  · simp at hd; subst hd; exact ⟨by decide, by decide, by decide, by decide⟩
end Go.Proofs.Yteoicnhnpailiaa
