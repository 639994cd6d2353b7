/- The walk of DateAdd: true at every input. -/
import Derived.Test.YtikjjhodbijfnaaDoorD14
import Derived.Test.YtikjjhodbijfnaaDoorD18
namespace Go.Proofs.YtikjjhodbijfnaaDoor
open Go.RowKit Go.Sort

set_option maxRecDepth 100000 in
set_option maxHeartbeats 1600000 in
theorem add_law (b0 b1 b2 b3 b4 b5 b6 : Bool) (A : Option Addr) (hs : List Int) (c : Nat) (day one two : Int) (w : World) (h0 : 0 ≤ one) (h1 : one ≤ 65535) (h2 : 0 ≤ two) (h3 : two ≤ 65535) (hk : Kal w A hs c) (ht : Tb w) :
    Calls Tryd.prog 7 #[.agg (calA b0 b1 b2 b3 b4 b5 b6 (.slice A hs.length c)), .int .i64 day, .int .u16 one, .int .u16 two] w fun e w' => e = .returned (.bool true) ∧ Below w.heap.size w w' := by
  obtain ⟨m, hm⟩ : ∃ m, one % 301 = m := ⟨_, rfl⟩
  obtain ⟨n, hn⟩ : ∃ n, 1 + two % 300 = n := ⟨_, rfl⟩
  have m0 : 0 ≤ m := by omega
  have m1 : m ≤ 300 := by omega
  have n0 : 1 ≤ n := by omega
  have n1 : n ≤ 300 := by omega
  have HM := Lib.hid hm
  have HN := Lib.hid hn
  obtain ⟨a, e, hae⟩ : ∃ a e, addF (cldE b0 b1 b2 b3 b4 b5 b6 hs) day m = (a, e) := ⟨_, _, rfl⟩
  have HA := Lib.hid (hk.add b0 b1 b2 b3 b4 b5 b6 A hs c _ _ _ _ hae)
  obtain ⟨r, hr⟩ : ∃ r, decide (hs.length ≤ 500) = r := ⟨_, rfl⟩
  have HF := Lib.hid (fun W => hk.few b0 b1 b2 b3 b4 b5 b6 A hs c r hr W)
  have HC := Lib.hid (show (r = false) ∨ (r = true ∧ e ≠ 0) ∨ (r = true ∧ e = 0) by cases r <;> simp; omega)
  have HAE := Lib.hid hae
  have HT := Lib.hid ht
  have HK := Lib.hid hk
  clear ht hk hae hr hm hn
  go_enter Tryd.func7, Tryd.ntmps7
  go_upto_region 1 with (fail)
  refine name_wp ?_
  intro X hX
  have gX : Blk X w.heap.size 39 (calA b0 b1 b2 b3 b4 b5 b6 (.slice A hs.length c)) := by rw [hX]; exact Blk.new _ _ _
  have hbX : Below w.heap.size w X := by rw [hX]; exact below_alloc (Below.refl _ _) _
  have HTX := Lib.hid (HT.out.below hbX)
  clear hX
  go_upto_region 4 with (go_at_call 9; with_reducible refine (head_any _ (by exact HTX.out)).mono ?_; rintro e w1 ⟨rfl, hb1⟩)
  rw [HM.out, HN.out]
  have G1 := Lib.hid (gX.then_ hb1)
  have B1 := Lib.hid (below_then hbX hb1)
  clear gX hb1 hbX HTX HT HM HN h0 h1 h2 h3
  obtain ⟨e0, e1, e2, e3, e4, e5, e6, e7⟩ := calCells G1.out
  go_upto_region 5 with (go_at_call 17; with_reducible refine (HA.out _ B1.out).mono ?_; rintro e w2 ⟨rfl, hk⟩)
  have B2 := Lib.hid (below_then B1.out hk)
  have G2 := Lib.hid (G1.out.then_ hk)
  clear hk e0 e1 e2 e3 e4 e5 e6 e7 B1 G1
  obtain ⟨e0, e1, e2, e3, e4, e5, e6, e7⟩ := calCells G2.out
  clear HA
  rcases HC.out with rfl | ⟨rfl, he⟩ | ⟨rfl, rfl⟩
  · go_wp2_with (go_at_call 15; with_reducible refine (HF.out _).mono ?_; rintro e wf ⟨rfl, hk⟩)
    go_ret
    exact ⟨rfl, below_then B2.out hk⟩
  · go_wp2_with (go_at_call 15; with_reducible refine (HF.out _).mono ?_; rintro e wf ⟨rfl, hk⟩)
    go_ret
    exact ⟨rfl, below_then B2.out hk⟩
  · go_upto_region 7 with (go_at_call 15; with_reducible refine (HF.out _).mono ?_; rintro e w3 ⟨rfl, hk⟩)
    have B3 := Lib.hid (below_then B2.out hk)
    have G3 := Lib.hid (G2.out.then_ hk)
    clear hk e0 e1 e2 e3 e4 e5 e6 e7 B2 G2 HC HF
    obtain ⟨e0, e1, e2, e3, e4, e5, e6, e7⟩ := calCells G3.out
    obtain ⟨b, f, hbf⟩ : ∃ p q, addF (cldE b0 b1 b2 b3 b4 b5 b6 hs) a n = (p, q) := ⟨_, _, rfl⟩
    obtain ⟨u, g, hug⟩ : ∃ a e, addF (cldE b0 b1 b2 b3 b4 b5 b6 hs) day (m + n) = (a, e) := ⟨_, _, rfl⟩
    have HB := Lib.hid (HK.out.add b0 b1 b2 b3 b4 b5 b6 A hs c _ _ _ _ hbf)
    have HU := Lib.hid (HK.out.add b0 b1 b2 b3 b4 b5 b6 A hs c _ _ _ _ hug)
    have HBF := Lib.hid hbf
    have HUG := Lib.hid hug
    clear hbf hug
    go_upto_region 8 with (go_at_call 17; with_reducible refine (HB.out _ B3.out).mono ?_; rintro e w4 ⟨rfl, hk⟩)
    have B4 := Lib.hid (below_then B3.out hk)
    have G4 := Lib.hid (G3.out.then_ hk)
    clear hk e0 e1 e2 e3 e4 e5 e6 e7 B3 G3
    obtain ⟨e0, e1, e2, e3, e4, e5, e6, e7⟩ := calCells G4.out
    go_upto_region 9 with (go_at_call 17; with_reducible refine (HU.out _ B4.out).mono ?_; rintro e w5 ⟨rfl, hk⟩)
    have B5 := Lib.hid (below_then B4.out hk)
    have G5 := Lib.hid (G4.out.then_ hk)
    clear hk e0 e1 e2 e3 e4 e5 e6 e7 B4 G4
    obtain ⟨e0, e1, e2, e3, e4, e5, e6, e7⟩ := calCells G5.out
    clear HB HU
    by_cases hm : 1 ≤ m
    · have h : (u, g) = (b, f) := by rw [← HUG.out, ← HBF.out]; exact (add_both _ hm n0 HAE.out).symm
      simp only [Prod.mk.injEq] at h
      obtain ⟨rfl, rfl⟩ := h
      obtain ⟨k1, k2, k3, k4⟩ := add_count _ hm HAE.out
      have k0 : 0 ≤ day := by
        rcases add_cases (cldE b0 b1 b2 b3 b4 b5 b6 hs) day m hm with ⟨h, _⟩ | ⟨_, _, _, h, _⟩ | ⟨h, _⟩
        · rw [HAE.out] at h; simp at h
        · exact (isD_of h).1
        · rw [HAE.out] at h; simp at h
      have HX := Lib.hid (HK.out.count b0 b1 b2 b3 b4 b5 b6 A hs c _ _ _ _ k3)
      have HZ := Lib.hid (HK.out.biz b0 b1 b2 b3 b4 b5 b6 A hs c _ _ k4)
      clear HAE HBF HUG k3 k4
      go_upto_region 17 with (go_at_call 18; with_reducible refine (HX.out _ B5.out).mono ?_; rintro e w6 ⟨rfl, hk⟩)
      have B6 := Lib.hid (below_then B5.out hk)
      have G6 := Lib.hid (G5.out.then_ hk)
      clear hk e0 e1 e2 e3 e4 e5 e6 e7 B5 G5
      obtain ⟨e0, e1, e2, e3, e4, e5, e6, e7⟩ := calCells G6.out
      go_wp2_with (go_at_call 16; with_reducible refine (HZ.out _ B6.out).mono ?_; rintro e w9 ⟨rfl, hk⟩)
      go_ret
      exact ⟨ret_bool (by simp), below_then B6.out hk⟩
    · obtain rfl : m = 0 := by omega
      have HX := Lib.hid (HK.out.next b0 b1 b2 b3 b4 b5 b6 A hs c day a 0 HAE.out)
      obtain ⟨bz, hbz⟩ : ∃ bz, bizF (cldE b0 b1 b2 b3 b4 b5 b6 hs) day = bz := ⟨_, rfl⟩
      have HZ := Lib.hid (HK.out.biz b0 b1 b2 b3 b4 b5 b6 A hs c _ _ hbz)
      have HO := Lib.hid (show bz = false ∨ (bz = true ∧ (u, g) = (b, f)) by
        cases bz with
        | false => exact .inl rfl
        | true =>
          right
          refine ⟨rfl, ?_⟩
          have hb := hbz
          simp only [bizF, Bool.and_eq_true] at hb
          have h1 := next_is _ day hb.2.1 hb.1 hbz
          have h2 := HAE.out
          rw [nextF, h2] at h1
          simp only [Prod.mk.injEq, and_true] at h1
          rw [← HUG.out, ← HBF.out, h1]
          simp)
      clear HAE HBF HUG hbz
      rcases HO.out with rfl | ⟨rfl, h⟩
      case' inl =>
        go_upto_region 12 with (go_at_call 16; with_reducible refine (HZ.out _ B5.out).mono ?_; rintro e w6 ⟨rfl, hk⟩)
      case' inr =>
        simp only [Prod.mk.injEq] at h
        obtain ⟨rfl, rfl⟩ := h
        go_upto_region 12 with (go_at_call 16; with_reducible refine (HZ.out _ B5.out).mono ?_; rintro e w6 ⟨rfl, hk⟩)
      all_goals (
        have B6 := Lib.hid (below_then B5.out hk)
        have G6 := Lib.hid (G5.out.then_ hk)
        clear hk e0 e1 e2 e3 e4 e5 e6 e7
        obtain ⟨e0, e1, e2, e3, e4, e5, e6, e7⟩ := calCells G6.out
        go_wp2_with (go_at_call 14; with_reducible refine (HX.out _ B6.out).mono ?_; rintro e w7 ⟨rfl, hk⟩)
        go_ret
        exact ⟨ret_bool (by simp), below_then B6.out hk⟩)
end Go.Proofs.YtikjjhodbijfnaaDoor
