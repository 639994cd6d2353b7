/- The walk of NettingAgain: netting what was netted changes nothing. -/
import Derived.Test.YthgbdpiihdhfiaaN19
namespace Go.Proofs.Ythgbdpiihdhfiaa
open Go.RowKit Go.Sort

set_option maxRecDepth 100000 in
set_option maxHeartbeats 3200000 in
theorem again_any {p : Int} {l : List Db} (h : Args p l) (A : Option Addr) (c : Nat) (w : World) (hm : Seg w w.heap.size 4 encD A l) :
    Calls Try.prog 6 #[.int .i64 p, .slice A l.length c] w fun e w' => e = .returned (.bool true) ∧ Below w.heap.size w w' := by
  have hlen := h.len
  by_cases hl : l.length ≤ 400
  · have cE : (ntE p l = 0 ∧ ntE p (ntL p l) = 2) ∨ (ntE p l = 0 ∧ ntE p (ntL p l) = 0 ∧ ntL p (ntL p l) = ntL p l) ∨ ntE p l = 1 ∨ ntE p l = 2 := by
      rcases ntE_cases p l with h0 | h0 | h0
      · rcases again_net h0 with h1 | h1
        · exact .inl ⟨h0, h1⟩
        · exact .inr (.inl ⟨h0, h1⟩)
      · exact .inr (.inr (.inl h0))
      · exact .inr (.inr (.inr h0))
    have cF : (prE p l = 0 ∧ prE p (prL p l) = 0 ∧ prL p (prL p l) = prL p l) ∨ prE p l = 1 ∨ prE p l = 2 := by
      rcases prE_cases p l with h0 | h0 | h0
      · exact .inl ⟨h0, again_pr h0⟩
      · exact .inr (.inl h0)
      · exact .inr (.inr h0)
    have g2 := prL_len p l
    have g3 := ntL_len p l
    have N1 := fun W (hW : Below w.heap.size w W) => net_got h A c W (seg_of hm hW)
    have N2 := fun A' c' W hs => net_got (args_nt h) A' c' W hs
    have P1 := fun W (hW : Below w.heap.size w W) => pairs_got h A c W (seg_of hm hW)
    have P2 := fun A' c' W hs => pairs_got (args_pr h) A' c' W hs
    clear hm h
    rcases cE with ⟨e1, e2⟩ | ⟨e1, e2, e3⟩ | e1 | e1 <;> rcases cF with ⟨f1, f2, f3⟩ | f1 | f1
    all_goals
      simp only [e1] at N1
      simp only [f1] at P1
      try simp only [e2] at N2
      try simp only [e3] at N2
      try simp only [f2, f3] at P2
      generalize ntE p (ntL p l) = G at *
      generalize prE p (prL p l) = K at *
      have HN1 := Lib.hid N1
      have HN2 := Lib.hid N2
      have HP1 := Lib.hid P1
      have HP2 := Lib.hid P2
      clear N1 N2 P1 P2 e1 f1
      try clear e2
      try clear e3
      try clear f2 f3
      go_enter Try.func6, Try.ntmps6
      go_wp2_with (first | (go_at_call 9; refine (head_any _).mono ?_; rintro e w0 ⟨rfl, b0⟩) | (go_at_call_of 14 (Value.slice A l.length c); refine (HN1.out _ (by (repeat (first | with_reducible assumption | with_reducible exact Below.refl _ _ | with_reducible refine below_drewN ?_ _ | with_reducible refine Below.drew ?_ | with_reducible refine below_alloc ?_ _ | with_reducible refine Below.setCell ?_ (by first | omega | (simp; done) | (simp; omega)) _ | with_reducible refine below_then ?_ (by with_reducible assumption) | (refine below_then (a := World.drew _) ?_ (by with_reducible assumption)))))).mono ?_; rintro e v1 ⟨⟨A1, c1, rfl, S1⟩, b1⟩) | (go_at_call_of 14 (Value.slice A1 (ntL p l).length c1); refine (HN2.out _ _ _ (by exact seg_of S1 (by (repeat (first | with_reducible assumption | with_reducible exact Below.refl _ _ | with_reducible refine below_drewN ?_ _ | with_reducible refine Below.drew ?_ | with_reducible refine below_alloc ?_ _ | with_reducible refine Below.setCell ?_ (by first | omega | (simp; done) | (simp; omega)) _ | with_reducible refine below_then ?_ (by with_reducible assumption) | (refine below_then (a := World.drew _) ?_ (by with_reducible assumption))))))).mono ?_; rintro e v2 ⟨⟨A2, c2, rfl, S2⟩, b2⟩) | (go_at_call_of 12 (Value.slice A l.length c); refine (HP1.out _ (by (repeat (first | with_reducible assumption | with_reducible exact Below.refl _ _ | with_reducible refine below_drewN ?_ _ | with_reducible refine Below.drew ?_ | with_reducible refine below_alloc ?_ _ | with_reducible refine Below.setCell ?_ (by first | omega | (simp; done) | (simp; omega)) _ | with_reducible refine below_then ?_ (by with_reducible assumption) | (refine below_then (a := World.drew _) ?_ (by with_reducible assumption)))))).mono ?_; rintro e v3 ⟨⟨A3, c3, rfl, S3⟩, b3⟩) | (go_at_call_of 12 (Value.slice A3 (prL p l).length c3); refine (HP2.out _ _ _ (by exact seg_of S3 (by (repeat (first | with_reducible assumption | with_reducible exact Below.refl _ _ | with_reducible refine below_drewN ?_ _ | with_reducible refine Below.drew ?_ | with_reducible refine below_alloc ?_ _ | with_reducible refine Below.setCell ?_ (by first | omega | (simp; done) | (simp; omega)) _ | with_reducible refine below_then ?_ (by with_reducible assumption) | (refine below_then (a := World.drew _) ?_ (by with_reducible assumption))))))).mono ?_; rintro e v4 ⟨⟨A4, c4, rfl, S4⟩, b4⟩) | (go_at_call_of 19 (Value.slice A1 (ntL p l).length c1); refine (same_eq _ _ _ _ (ntL p l) _ (by omega) (by exact seg_of S1 (by (repeat (first | with_reducible assumption | with_reducible exact Below.refl _ _ | with_reducible refine below_drewN ?_ _ | with_reducible refine Below.drew ?_ | with_reducible refine below_alloc ?_ _ | with_reducible refine Below.setCell ?_ (by first | omega | (simp; done) | (simp; omega)) _ | with_reducible refine below_then ?_ (by with_reducible assumption) | (refine below_then (a := World.drew _) ?_ (by with_reducible assumption)))))) (by exact seg_of S2 (by (repeat (first | with_reducible assumption | with_reducible exact Below.refl _ _ | with_reducible refine below_drewN ?_ _ | with_reducible refine Below.drew ?_ | with_reducible refine below_alloc ?_ _ | with_reducible refine Below.setCell ?_ (by first | omega | (simp; done) | (simp; omega)) _ | with_reducible refine below_then ?_ (by with_reducible assumption) | (refine below_then (a := World.drew _) ?_ (by with_reducible assumption))))))).mono ?_; rintro e v5 ⟨rfl, b5⟩) | (go_at_call_of 19 (Value.slice A3 (prL p l).length c3); refine (same_eq _ _ _ _ (prL p l) _ (by omega) (by exact seg_of S3 (by (repeat (first | with_reducible assumption | with_reducible exact Below.refl _ _ | with_reducible refine below_drewN ?_ _ | with_reducible refine Below.drew ?_ | with_reducible refine below_alloc ?_ _ | with_reducible refine Below.setCell ?_ (by first | omega | (simp; done) | (simp; omega)) _ | with_reducible refine below_then ?_ (by with_reducible assumption) | (refine below_then (a := World.drew _) ?_ (by with_reducible assumption)))))) (by exact seg_of S4 (by (repeat (first | with_reducible assumption | with_reducible exact Below.refl _ _ | with_reducible refine below_drewN ?_ _ | with_reducible refine Below.drew ?_ | with_reducible refine below_alloc ?_ _ | with_reducible refine Below.setCell ?_ (by first | omega | (simp; done) | (simp; omega)) _ | with_reducible refine below_then ?_ (by with_reducible assumption) | (refine below_then (a := World.drew _) ?_ (by with_reducible assumption))))))).mono ?_; rintro e v6 ⟨rfl, b6⟩))
      go_ret
      exact ⟨rfl, by (repeat (first | with_reducible assumption | with_reducible exact Below.refl _ _ | with_reducible refine below_drewN ?_ _ | with_reducible refine Below.drew ?_ | with_reducible refine below_alloc ?_ _ | with_reducible refine Below.setCell ?_ (by first | omega | (simp; done) | (simp; omega)) _ | with_reducible refine below_then ?_ (by with_reducible assumption) | (refine below_then (a := World.drew _) ?_ (by with_reducible assumption))))⟩
  · go_enter Try.func6, Try.ntmps6
    go_wp2_with (go_at_call 9; refine (head_any _).mono ?_; rintro e w0 ⟨rfl, b0⟩)
    go_ret
    exact ⟨rfl, b0⟩
end Go.Proofs.Ythgbdpiihdhfiaa
