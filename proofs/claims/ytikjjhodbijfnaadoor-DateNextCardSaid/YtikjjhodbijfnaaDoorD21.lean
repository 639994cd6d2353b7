/- The walk of DateNext: true at every input. -/
import Derived.Test.YtikjjhodbijfnaaDoorD14
import Derived.Test.YtikjjhodbijfnaaDoorD18
namespace Go.Proofs.YtikjjhodbijfnaaDoor
open Go.RowKit Go.Sort

set_option maxRecDepth 100000 in
set_option maxHeartbeats 1600000 in
theorem next_law (b0 b1 b2 b3 b4 b5 b6 : Bool) (A : Option Addr) (hs : List Int) (c : Nat) (day later : Int) (w : World) (h0 : 0 ≤ later) (h1 : later ≤ 65535) (hk : Kal w A hs c) (ht : Tb w) :
    Calls Tryd.prog 6 #[.agg (calA b0 b1 b2 b3 b4 b5 b6 (.slice A hs.length c)), .int .i64 day, .int .u16 later] w fun e w' => e = .returned (.bool true) ∧ Below w.heap.size w w' := by
  obtain ⟨n, e, hne⟩ : ∃ n e, nextF (cldE b0 b1 b2 b3 b4 b5 b6 hs) day = (n, e) := ⟨_, _, rfl⟩
  have HN := Lib.hid (hk.next b0 b1 b2 b3 b4 b5 b6 A hs c _ _ _ hne)
  obtain ⟨r, hr⟩ : ∃ r, decide (hs.length ≤ 500) = r := ⟨_, rfl⟩
  have HF := Lib.hid (fun W => hk.few b0 b1 b2 b3 b4 b5 b6 A hs c r hr W)
  have HC : Hid ((r = false) ∨ (r = true ∧ e = 1) ∨ (r = true ∧ e = 2 ∧ bizF (cldE b0 b1 b2 b3 b4 b5 b6 hs) 73048 = false ∧ bizF (cldE b0 b1 b2 b3 b4 b5 b6 hs) day = false) ∨
      (r = true ∧ e = 0 ∧ ∃ i : Nat, n = day + i ∧ vldC (cldE b0 b1 b2 b3 b4 b5 b6 hs) = true ∧ isD day = true ∧ isD n = true ∧ (∀ j : Nat, j < i → bizF (cldE b0 b1 b2 b3 b4 b5 b6 hs) (day + j) = false) ∧ bizF (cldE b0 b1 b2 b3 b4 b5 b6 hs) n = true)) := by
    cases r with
    | false => exact .inl rfl
    | true =>
      rcases next_cases (cldE b0 b1 b2 b3 b4 b5 b6 hs) day with ⟨h, _⟩ | ⟨i, j1, j2, j3, j4, j5, _, j7⟩ | ⟨j1, j2, j3, j4⟩
      · rw [hne] at h; simp only [Prod.mk.injEq] at h; exact .inr (.inl ⟨rfl, h.2⟩)
      · rw [hne] at j1; simp only [Prod.mk.injEq] at j1
        obtain ⟨rfl, rfl⟩ := j1
        exact .inr (.inr (.inr ⟨rfl, rfl, i, rfl, j2, j3, j4, j5, j7⟩))
      · rw [hne] at j1; simp only [Prod.mk.injEq] at j1
        have := isD_of j3
        exact .inr (.inr (.inl ⟨rfl, j1.2, j4 _ this.2 (by omega), j4 _ (by omega) this.2⟩))
  have HNE := Lib.hid hne
  have HT := Lib.hid ht
  have HK := Lib.hid hk
  clear ht hk hne hr
  go_enter Tryd.func6, Tryd.ntmps6
  go_upto_region 1 with (fail)
  refine name_wp ?_
  intro X hX
  have gX : Blk X w.heap.size 39 (calA b0 b1 b2 b3 b4 b5 b6 (.slice A hs.length c)) := by rw [hX]; exact Blk.new _ _ _
  have hbX : Below w.heap.size w X := by rw [hX]; exact below_alloc (Below.refl _ _) _
  have HTX := Lib.hid (HT.out.below hbX)
  clear hX
  go_upto_region 2 with (go_at_call 9; with_reducible refine (head_any _ (by exact HTX.out)).mono ?_; rintro e w1 ⟨rfl, hb1⟩)
  have G1 := Lib.hid (gX.then_ hb1)
  have B1 := Lib.hid (below_then hbX hb1)
  clear gX hb1 hbX HTX HT
  obtain ⟨e0, e1, e2, e3, e4, e5, e6, e7⟩ := calCells G1.out
  go_upto_region 3 with (go_at_call 14; with_reducible refine (HN.out _ B1.out).mono ?_; rintro e w2 ⟨rfl, hk⟩)
  have B2 := Lib.hid (below_then B1.out hk)
  have G2 := Lib.hid (G1.out.then_ hk)
  clear hk e0 e1 e2 e3 e4 e5 e6 e7 B1 G1
  obtain ⟨e0, e1, e2, e3, e4, e5, e6, e7⟩ := calCells G2.out
  clear HN
  rcases HC.out with rfl | ⟨rfl, rfl⟩ | ⟨rfl, rfl, z1, z2⟩ | ⟨rfl, rfl, i, hi, hv, hd, hn, hj, hb⟩
  · go_wp2_with (go_at_call 15; with_reducible refine (HF.out _).mono ?_; rintro e wf ⟨rfl, hk⟩)
    go_ret
    exact ⟨rfl, below_then B2.out hk⟩
  · go_wp2_with (go_at_call 15; with_reducible refine (HF.out _).mono ?_; rintro e wf ⟨rfl, hk⟩)
    go_ret
    exact ⟨rfl, below_then B2.out hk⟩
  · have HZ1 := Lib.hid (HK.out.biz b0 b1 b2 b3 b4 b5 b6 A hs c _ _ z1)
    have HZ2 := Lib.hid (HK.out.biz b0 b1 b2 b3 b4 b5 b6 A hs c _ _ z2)
    clear HC HNE z1 z2
    go_upto_region 6 with (go_at_call 15; with_reducible refine (HF.out _).mono ?_; rintro e w3 ⟨rfl, hk⟩)
    have B3 := Lib.hid (below_then B2.out hk)
    have G3 := Lib.hid (G2.out.then_ hk)
    clear hk e0 e1 e2 e3 e4 e5 e6 e7 B2 G2 HF
    have hz := Lib.hid (Below.refl w3.heap.size w3)
    obtain ⟨e0, e1, e2, e3, e4, e5, e6, e7⟩ := calCells G3.out
    go_wp2_with (go_at_call 16; first | (with_reducible refine (HZ1.out _ (below_then B3.out hz.out)).mono ?_; rintro e wf ⟨rfl, hk⟩; have e0 := calCells ((G3.out.then_ (below_then hz.out hk))); obtain ⟨e0, e1, e2, e3, e4, e5, e6, e7⟩ := e0; replace hz := Lib.hid (below_then hz.out hk); clear hk) | (with_reducible refine (HZ2.out _ (below_then B3.out hz.out)).mono ?_; rintro e wf ⟨rfl, hk⟩; replace hz := Lib.hid (below_then hz.out hk); clear hk))
    go_ret
    exact ⟨ret_bool (by simp), below_then B3.out hz.out⟩
  · obtain ⟨x0, x1⟩ := isD_of hd
    obtain ⟨y0, y1⟩ := isD_of hn
    have HZ := Lib.hid (HK.out.biz b0 b1 b2 b3 b4 b5 b6 A hs c _ _ hb)
    have HJ := Lib.hid (fun (j : Nat) (h : j < i) => HK.out.biz b0 b1 b2 b3 b4 b5 b6 A hs c _ _ (hj j h))
    have HS := Lib.hid (HK.out.next b0 b1 b2 b3 b4 b5 b6 A hs c n n 0 (next_is _ n hv hn hb))
    obtain ⟨p, q, hpq⟩ : ∃ p q, nextF (cldE b0 b1 b2 b3 b4 b5 b6 hs) (day + later % 401) = (p, q) := ⟨_, _, rfl⟩
    have HP := Lib.hid (HK.out.next b0 b1 b2 b3 b4 b5 b6 A hs c _ _ _ hpq)
    have HL : Hid (q ≠ 0 ∨ (q = 0 ∧ n ≤ p)) := by
      have := next_mono _ HNE.out (show day ≤ day + later % 401 by omega)
      rw [hpq] at this
      by_cases hq : q = 0
      · right
        refine ⟨hq, ?_⟩
        rcases this with h | h
        · exact absurd hq h
        · exact h
      · exact .inl hq
    have HI := Lib.hid hi
    have l1 : n - day = i := by omega
    clear HC HNE hv hd hn hj hb hpq hi
    go_upto_region 7 with (go_at_call 15; with_reducible refine (HF.out _).mono ?_; rintro e w3 ⟨rfl, hk⟩)
    have B3 := Lib.hid (below_then B2.out hk)
    have G3 := Lib.hid (G2.out.then_ hk)
    clear hk e0 e1 e2 e3 e4 e5 e6 e7 B2 G2 HF
    obtain ⟨e0, e1, e2, e3, e4, e5, e6, e7⟩ := calCells G3.out
    go_upto_region 9 with (go_at_call 16; with_reducible refine (HZ.out _ B3.out).mono ?_; rintro e w4 ⟨rfl, hk⟩)
    have B4 := Lib.hid (below_then B3.out hk)
    have G4 := Lib.hid (G3.out.then_ hk)
    clear hk e0 e1 e2 e3 e4 e5 e6 e7 B3 G3 HZ
    go_wp2
    go_loopw [10] (fun x wr => ∃ k : Nat, k ≤ i ∧ k ≤ 500 ∧ x = .int .i64 (day + k) ∧ Below w4.heap.size w4 wr) (fun x _ => 1000000 - (intOf x).toNat)
    case atStart => exact ⟨0, by omega, by omega, by go_num, Below.refl _ _⟩
    case round =>
      obtain ⟨k, k1, k2, rfl, hbr⟩ := hrel
      have B5 := Lib.hid (below_then B4.out hbr)
      have G5 := Lib.hid (G4.out.then_ hbr)
      have HR := Lib.hid hbr
      obtain ⟨e0, e1, e2, e3, e4, e5, e6, e7⟩ := calCells G5.out
      clear hbr
      by_cases hlt : k < i ∧ k < 500
      · obtain ⟨t1, t2⟩ := hlt
        have HQ := Lib.hid (HJ.out k t1)
        go_wp2_with (go_at_call 16; with_reducible refine (HQ.out _ B5.out).mono ?_; rintro e w6 ⟨rfl, hk⟩)
        go_round
        case rel => exact ⟨k + 1, by omega, by omega, by go_num, below_then HR.out hk⟩
        case measure => simp [intOf]; omega
      · have hlt' : k = i ∨ (k < i ∧ k = 500) := by omega
        clear hlt
        rcases hlt' with rfl | ⟨t1, rfl⟩
        case' inl =>
          go_upto_region 14 with (fail)
        case' inr =>
          go_upto_region 14 with (fail)
        all_goals (
          go_upto_region 15 with (go_at_call 14; with_reducible refine (HS.out _ B5.out).mono ?_; rintro e w7 ⟨rfl, hk⟩)
          have B7 := Lib.hid (below_then B5.out hk)
          have G7 := Lib.hid (G5.out.then_ hk)
          clear hk e0 e1 e2 e3 e4 e5 e6 e7 B5 G5
          obtain ⟨e0, e1, e2, e3, e4, e5, e6, e7⟩ := calCells G7.out
          go_upto_region 16 with (go_at_call 14; with_reducible refine (HP.out _ B7.out).mono ?_; rintro e w8 ⟨rfl, hk⟩)
          have B8 := Lib.hid (below_then B7.out hk)
          have G8 := Lib.hid (G7.out.then_ hk)
          clear hk e0 e1 e2 e3 e4 e5 e6 e7 B7 G7
          obtain ⟨e0, e1, e2, e3, e4, e5, e6, e7⟩ := calCells G8.out
          rcases HL.out with hq | ⟨rfl, hp⟩
          · go_wp2
            go_ret
            exact ⟨ret_bool (by simp), B8.out⟩
          · go_wp2
            go_ret
            exact ⟨ret_bool (by simp), B8.out⟩)
end Go.Proofs.YtikjjhodbijfnaaDoor
