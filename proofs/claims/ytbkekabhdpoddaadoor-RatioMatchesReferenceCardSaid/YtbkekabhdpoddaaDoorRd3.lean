/- RatioOrder at every three ratios. -/
import Derived.Test.YtbkekabhdpoddaaDoorRd2
import Derived.Test.YtbkekabhdpoddaaDoorRd2n
namespace Go.Proofs.YtbkekabhdpoddaaDoor
open Go.RowKit

theorem oE_zero {q : Rat} (h : oE q = 0) : inR q = true := by
  cases hi : inR q with
  | true => rfl
  | false => rw [oE_no hi] at h; cases h
theorem cmp_sum {q r s : Rat} (W : World) (a : oE (q + s) = 0) (b : oE (r + s) = 0) : Calls Tryd.prog 16 #[.agg #[.int .i64 (oN (q + s)), .int .i64 (oD (q + s))], .agg #[.int .i64 (oN (r + s)), .int .i64 (oD (r + s))]] W fun e w' => e = .returned (.int .i64 (cmpN q r)) ∧ Below W.heap.size W w' := by
  rw [oN_yes (oE_zero a), oD_yes (oE_zero a), oN_yes (oE_zero b), oD_yes (oE_zero b), ← cmpN_add q r s]
  exact (cmp_any _ _ W (oE_zero a) (oE_zero b)).mono fun _ _ ⟨x, y⟩ => ⟨x, y⟩
theorem cmp_prod {q r s : Rat} (W : World) (h : 0 < s.num) (a : oE (q * s) = 0) (b : oE (r * s) = 0) : Calls Tryd.prog 16 #[.agg #[.int .i64 (oN (q * s)), .int .i64 (oD (q * s))], .agg #[.int .i64 (oN (r * s)), .int .i64 (oD (r * s))]] W fun e w' => e = .returned (.int .i64 (cmpN q r)) ∧ Below W.heap.size W w' := by
  rw [oN_yes (oE_zero a), oD_yes (oE_zero a), oN_yes (oE_zero b), oD_yes (oE_zero b), ← cmpN_mul q r s (rat_pos h)]
  exact (cmp_any _ _ W (oE_zero a) (oE_zero b)).mono fun _ _ ⟨x, y⟩ => ⟨x, y⟩
theorem cmp_i (q r : Rat) (W : World) (hq : inR q = true) (hr : inR r = true) : Calls Tryd.prog 16 #[.agg #[.int .i64 q.num, .int .i64 q.den], .agg #[.int .i64 r.num, .int .i64 r.den]] W fun e w' => e = .returned (.int .i64 (cmpN q r)) ∧ Below W.heap.size W w' :=
  (cmp_any q r W hq hr).mono fun _ _ ⟨x, y⟩ => ⟨x, y⟩
theorem order_law (n1 d1 n2 d2 n3 d3 : Int) (w : World) (hL : Lw w) (h1 : B64 n1) (k1 : B64 d1) (h2 : B64 n2) (k2 : B64 d2) (h3 : B64 n3) (k3 : B64 d3) :
    Calls Tryd.prog 4 #[.agg #[.int .i64 n1, .int .i64 d1], .agg #[.int .i64 n2, .int .i64 d2], .agg #[.int .i64 n3, .int .i64 d3]] w fun e w' => e = .returned (.bool true) ∧ Below w.heap.size w w' := by
  cases v1 : vld n1 d1 with
  | false => exact order_no n1 d1 n2 d2 n3 d3 w hL h1 k1 h2 k2 h3 k3 (.inl v1)
  | true =>
    cases v2 : vld n2 d2 with
    | false => exact order_no n1 d1 n2 d2 n3 d3 w hL h1 k1 h2 k2 h3 k3 (.inr (.inl ⟨v1, v2⟩))
    | true =>
      cases v3 : vld n3 d3 with
      | false => exact order_no n1 d1 n2 d2 n3 d3 w hL h1 k1 h2 k2 h3 k3 (.inr (.inr ⟨v1, v2, v3⟩))
      | true =>
        obtain ⟨q, hq, rfl, rfl⟩ := rat_of_vld v1
        obtain ⟨r, hr, rfl, rfl⟩ := rat_of_vld v2
        obtain ⟨s, hs, rfl, rfl⟩ := rat_of_vld v3
        exact order_key _ _ _ _ _ _ (cmpN q r) (cmpN r s) (cmpN q s) _ _ _ _ _ _ _ _ _ _ _ _ w (fun W hb => head_any W (hL.below hb)) (fun W => valid_rat q W hq) (fun W => valid_rat r W hr) (fun W => valid_rat s W hs)
          (fun W => cmp_i q r W hq hr) (fun W => cmpN_neg q r ▸ cmp_i r q W hr hq) (fun W => cmp_i r s W hr hs) (fun W => cmp_i q s W hq hs) (cmpN_rng q r) (by rw [cmpN_zero, rat_ext]) (by rw [cmpN_le, cmpN_le, cmpN_le]; exact Rat.le_trans)
          (fun W => add_any q s W hq hs) (fun W => add_any r s W hr hs) (fun W => mul_any q s W hq hs) (fun W => mul_any r s W hr hs) (fun W a b => cmp_sum W a b) (fun W h a b => cmp_prod W h a b)
end Go.Proofs.YtbkekabhdpoddaaDoor
