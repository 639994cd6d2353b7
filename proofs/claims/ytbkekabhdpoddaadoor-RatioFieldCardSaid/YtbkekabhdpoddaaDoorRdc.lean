/- RatioField at every three ratios. -/
import Derived.Test.YtbkekabhdpoddaaDoorRda
import Derived.Test.YtbkekabhdpoddaaDoorRdb
import Derived.Test.YtbkekabhdpoddaaDoorRdm
namespace Go.Proofs.YtbkekabhdpoddaaDoor
open Go.RowKit

/-- an operation whose arguments came of operations that went well -/
theorem into {q x : Rat} (hx : oE x = 0) : inR x = true ∧ oN x = x.num ∧ oD x = x.den := ⟨oE_ok hx, oN_yes (oE_ok hx), oD_yes (oE_ok hx)⟩
abbrev Got (f : FuncId) (a b c d x y e : Int) (W : World) : Prop := Calls Tryd.prog f #[.agg #[.int .i64 a, .int .i64 b], .agg #[.int .i64 c, .int .i64 d]] W fun r W' => r = .returned (.tuple #[.agg #[.int .i64 x, .int .i64 y], .int .i64 e]) ∧ Below W.heap.size W W'
theorem add_oo {q r z : Rat} (W : World) (hq : oE q = 0) (hr : oE r = 0) (hz : q + r = z) : Got 17 (oN q) (oD q) (oN r) (oD r) (oN z) (oD z) (oE z) W := by
  subst hz; rw [oN_yes (oE_ok hq), oD_yes (oE_ok hq), oN_yes (oE_ok hr), oD_yes (oE_ok hr)]; exact add_any q r W (oE_ok hq) (oE_ok hr)
theorem add_or {q r z : Rat} (W : World) (hq : oE q = 0) (hr : inR r = true) (hz : q + r = z) : Got 17 (oN q) (oD q) r.num r.den (oN z) (oD z) (oE z) W := by
  subst hz; rw [oN_yes (oE_ok hq), oD_yes (oE_ok hq)]; exact add_any q r W (oE_ok hq) hr
theorem add_ro {q r z : Rat} (W : World) (hq : inR q = true) (hr : oE r = 0) (hz : q + r = z) : Got 17 q.num q.den (oN r) (oD r) (oN z) (oD z) (oE z) W := by
  subst hz; rw [oN_yes (oE_ok hr), oD_yes (oE_ok hr)]; exact add_any q r W hq (oE_ok hr)
theorem mul_or {q r z : Rat} (W : World) (hq : oE q = 0) (hr : inR r = true) (hz : q * r = z) : Got 18 (oN q) (oD q) r.num r.den (oN z) (oD z) (oE z) W := by
  subst hz; rw [oN_yes (oE_ok hq), oD_yes (oE_ok hq)]; exact mul_any q r W (oE_ok hq) hr
theorem mul_ro {q r z : Rat} (W : World) (hq : inR q = true) (hr : oE r = 0) (hz : q * r = z) : Got 18 q.num q.den (oN r) (oD r) (oN z) (oD z) (oE z) W := by
  subst hz; rw [oN_yes (oE_ok hr), oD_yes (oE_ok hr)]; exact mul_any q r W hq (oE_ok hr)
theorem sub_back {q r : Rat} (W : World) (hq : inR q = true) (hr : inR r = true) (hs : oE (q + r) = 0) : Got 28 (oN (q + r)) (oD (q + r)) r.num r.den q.num q.den 0 W := by
  have h := sub_any (q + r) r W (oE_ok hs) hr
  rw [Rat.add_sub_cancel, oN_yes hq, oD_yes hq, oE_yes hq] at h
  rw [oN_yes (oE_ok hs), oD_yes (oE_ok hs)]
  exact h
theorem div_back {q r : Rat} (W : World) (hq : inR q = true) (hr : inR r = true) (hs : oE (q * r) = 0) (h0 : r.num ≠ 0) : Got 31 (oN (q * r)) (oD (q * r)) r.num r.den q.num q.den 0 W := by
  have h := div_any (q * r) r W (oE_ok hs) hr h0
  have hr0 : r ≠ 0 := fun e => h0 (by rw [e]; rfl)
  have e : q * r / r = q := Rat.mul_div_cancel hr0
  rw [e, oN_yes hq, oD_yes hq, oE_yes hq] at h
  rw [oN_yes (oE_ok hs), oD_yes (oE_ok hs)]
  exact h
theorem field_law (n1 d1 n2 d2 n3 d3 : Int) (w : World) (hL : Lw w) (h1 : B64 n1) (k1 : B64 d1) (h2 : B64 n2) (k2 : B64 d2) (h3 : B64 n3) (k3 : B64 d3) :
    Calls Tryd.prog 9 #[.agg #[.int .i64 n1, .int .i64 d1], .agg #[.int .i64 n2, .int .i64 d2], .agg #[.int .i64 n3, .int .i64 d3]] w fun e w' => e = .returned (.bool true) ∧ Below w.heap.size w w' := by
  have no := fun hv => field_no n1 d1 n2 d2 n3 d3 (vld n1 d1) (vld n2 d2) (vld n3 d3) w (fun W hb => head_any W (hL.below hb)) (fun W => valid_any n1 d1 W h1.1 h1.2 k1.1 k1.2) (fun W => valid_any n2 d2 W h2.1 h2.2 k2.1 k2.2) (fun W => valid_any n3 d3 W h3.1 h3.2 k3.1 k3.2) hv
  cases v1 : vld n1 d1 with
  | false => exact no (.inl v1)
  | true =>
    cases v2 : vld n2 d2 with
    | false => exact no (.inr (.inl ⟨v1, v2⟩))
    | true =>
      cases v3 : vld n3 d3 with
      | false => exact no (.inr (.inr ⟨v1, v2, v3⟩))
      | true =>
        clear no
        obtain ⟨q, hq, rfl, rfl⟩ := rat_of_vld v1
        obtain ⟨r, hr, rfl, rfl⟩ := rat_of_vld v2
        obtain ⟨s, hs, rfl, rfl⟩ := rat_of_vld v3
        exact field_key _ _ _ _ _ _ _ _ _ _ _ _ _ _ _ _ _ _ _ _ _ _ _ _ _ _ _ _ _ _ w (fun W hb => head_any W (hL.below hb)) (fun W => valid_rat q W hq) (fun W => valid_rat r W hr) (fun W => valid_rat s W hs)
          (fun W => add_any q r W hq hr) (fun W => by have := add_any r q W hr hq; rwa [Rat.add_comm] at this) (fun W => mul_any q r W hq hr) (fun W => by have := mul_any r q W hr hq; rwa [Rat.mul_comm] at this)
          (fun W => add_any r s W hr hs) (fun W => mul_any r s W hr hs) (fun W => mul_any q s W hq hs) (fun W h => sub_back W hq hr h) (fun W h h0 => div_back W hq hr h h0)
          (fun W a b => add_or W a hs (Rat.add_assoc q r s)) (fun W a b => add_ro W hq b rfl) (fun W a b => mul_or W a hs (Rat.mul_assoc q r s)) (fun W a b => mul_ro W hq b rfl) (fun W a b c => mul_ro W hq b (Rat.mul_add q r s)) (fun W a b c => add_oo W a c rfl)
end Go.Proofs.YtbkekabhdpoddaaDoor
