/- RatioTexts at every ratio and text. -/
import Derived.Test.YtbkekabhdpoddaaDoorRde
import Derived.Test.YtbkekabhdpoddaaDoorRdm
import Derived.Test.YtbkekabhdpoddaaDoorRt1
namespace Go.Proofs.YtbkekabhdpoddaaDoor
open Go.RowKit

theorem bA_toList (l : List UInt8) : (bA l).toList = l := by rw [ByteArray.toList_eq]; rfl
theorem bA_of (t : ByteArray) : bA t.toList = t := by rw [ByteArray.toList_eq]; rfl
theorem prs_or (l : List UInt8) : (prs l = none ∧ pN (prs l) = 0 ∧ pD (prs l) = 0 ∧ pE (prs l) = 5) ∨ (∃ n d, prs l = some (n, d) ∧ pN (prs l) = n ∧ pD (prs l) = d ∧ pE (prs l) = 0 ∧ vld n d = true ∧ txtO n d = l) := by
  cases h : prs l with
  | none => exact .inl ⟨rfl, rfl, rfl, rfl⟩
  | some x =>
    obtain ⟨n, d⟩ := x
    obtain ⟨h1, h2⟩ := prs_some h
    exact .inr ⟨n, d, rfl, rfl, rfl, rfl, h1, h2⟩
theorem vld_b64 {n d : Int} (h : vld n d = true) : B64 n ∧ B64 d := by
  obtain ⟨h1, h2, h3, h4, h5⟩ := vld_of h
  exact ⟨by constructor <;> omega, by constructor <;> omega⟩
theorem txtO_size (n d : Int) : (bA (txtO n d)).size ≤ 1000000 := by
  rw [bA_size]
  cases h : vld n d with
  | true => have := prs_len h; omega
  | false => rw [txtO_no h]; simp
theorem texts_law (n1 d1 : Int) (t : ByteArray) (w : World) (hL : Lw w) (h1 : B64 n1) (k1 : B64 d1) :
    Calls Tryd.prog 7 #[.agg #[.int .i64 n1, .int .i64 d1], .string t] w fun e w' => e = .returned (.bool true) ∧ Below w.heap.size w w' := by
  by_cases hl : (1000 : Int) < t.size
  · exact texts_long n1 d1 t w (fun W hb => head_any W (hL.below hb)) hl
  · have key := fun hS hb hc HVc HTc hS2 => texts_key n1 d1 t (bA (txtO n1 d1)) (bA (txtO (pN (prs t.toList)) (pD (prs t.toList)))) (vld n1 d1) (pN (prs (bA (txtO n1 d1)).toList)) (pD (prs (bA (txtO n1 d1)).toList)) (pE (prs (bA (txtO n1 d1)).toList)) (pN (prs t.toList)) (pD (prs t.toList)) (pE (prs t.toList)) w
      (fun W hb => head_any W (hL.below hb)) hl (fun W hb => ftext_any n1 d1 W (hL.below hb) h1.1 h1.2 k1.1 k1.2) (fun W => valid_any n1 d1 W h1.1 h1.2 k1.1 k1.2) hS (fun W hb => parse_any _ W (hL.below hb) (txtO_size n1 d1)) hb (fun W hb => parse_any t W (hL.below hb) (by omega)) hc HVc HTc hS2
    rw [bA_toList] at key
    refine key ?_ ?_ ?_ ?_ ?_ ?_
    · cases hv : vld n1 d1 with
      | true => exact .inr ⟨txtO_ne hv, rfl⟩
      | false => exact .inl ⟨txtO_no hv, rfl⟩
    · cases hv : vld n1 d1 with
      | true => rw [prs_txt hv]; exact ⟨fun _ => ⟨rfl, rfl, rfl⟩, fun h => by cases h⟩
      | false => rw [txtO_no hv, prs_nil]; exact ⟨fun h => (by cases h), fun _ => rfl⟩
    · rcases prs_or t.toList with ⟨_, a, b, c⟩ | ⟨n, d, _, a, b, c, _⟩
      · exact .inl ⟨c, a, b⟩
      · exact .inr c
    · intro W he
      rcases prs_or t.toList with ⟨_, a, b, c⟩ | ⟨n, d, _, a, b, c, hv, _⟩
      · rw [c] at he; cases he
      · obtain ⟨x, y⟩ := vld_b64 hv
        have := valid_any n d W x.1 x.2 y.1 y.2
        rw [a, b]; rwa [hv] at this
    · intro W hb he
      rcases prs_or t.toList with ⟨_, a, b, c⟩ | ⟨n, d, _, a, b, c, hv, _⟩
      · rw [c] at he; cases he
      · obtain ⟨x, y⟩ := vld_b64 hv
        rw [a, b]; exact ftext_any n d W (hL.below hb) x.1 x.2 y.1 y.2
    · intro he
      rcases prs_or t.toList with ⟨_, a, b, c⟩ | ⟨n, d, _, a, b, c, hv, ht⟩
      · rw [c] at he; cases he
      · rw [a, b, ht, bA_of]
end Go.Proofs.YtbkekabhdpoddaaDoor
