/- The walk of DateCount: true at every input. -/
import Derived.Test.YtikjjhodbijfnaaDoorD14
import Derived.Test.YtikjjhodbijfnaaDoorD18
namespace Go.Proofs.YtikjjhodbijfnaaDoor
open Go.RowKit Go.Sort

set_option maxRecDepth 100000 in
set_option maxHeartbeats 1600000 in
theorem count_law (b0 b1 b2 b3 b4 b5 b6 : Bool) (A : Option Addr) (hs : List Int) (c : Nat) (day one two : Int) (w : World) (d0 : -9223372036854775808 ≤ day) (d1 : day ≤ 9223372036854775807) (h0 : 0 ≤ one) (h1 : one ≤ 65535) (h2 : 0 ≤ two) (h3 : two ≤ 65535) (hk : Kal w A hs c) (ht : Tb w) :
    Calls Tryd.prog 8 #[.agg (calA b0 b1 b2 b3 b4 b5 b6 (.slice A hs.length c)), .int .i64 day, .int .u16 one, .int .u16 two] w fun e w' => e = .returned (.bool true) ∧ Below w.heap.size w w' := by
  obtain ⟨mid, hmid⟩ : ∃ m, wrap64 (day + one % 500) = m := ⟨_, rfl⟩
  obtain ⟨en, hen⟩ : ∃ m, wrap64 (mid + two % 500) = m := ⟨_, rfl⟩
  have HM := Lib.hid hmid
  have HE := Lib.hid hen
  obtain ⟨a, e, hae⟩ : ∃ a e, countF (cldE b0 b1 b2 b3 b4 b5 b6 hs) day mid = (a, e) := ⟨_, _, rfl⟩
  obtain ⟨b, f, hbf⟩ : ∃ a e, countF (cldE b0 b1 b2 b3 b4 b5 b6 hs) mid en = (a, e) := ⟨_, _, rfl⟩
  obtain ⟨l, g, hlg⟩ : ∃ a e, countF (cldE b0 b1 b2 b3 b4 b5 b6 hs) day en = (a, e) := ⟨_, _, rfl⟩
  have HA := Lib.hid (hk.count b0 b1 b2 b3 b4 b5 b6 A hs c _ _ _ _ hae)
  have HB := Lib.hid (hk.count b0 b1 b2 b3 b4 b5 b6 A hs c _ _ _ _ hbf)
  have HL := Lib.hid (hk.count b0 b1 b2 b3 b4 b5 b6 A hs c _ _ _ _ hlg)
  obtain ⟨r, hr⟩ : ∃ r, decide (hs.length ≤ 500) = r := ⟨_, rfl⟩
  have HF := Lib.hid (fun W => hk.few b0 b1 b2 b3 b4 b5 b6 A hs c r hr W)
  have hc : (r = false) ∨ (r = true ∧ l = 0 ∧ g = 1) ∨ (r = true ∧ vldC (cldE b0 b1 b2 b3 b4 b5 b6 hs) = true ∧ isD day = true ∧ isD en = true ∧ day ≤ en ∧ l = cnt (bizC (cldE b0 b1 b2 b3 b4 b5 b6 hs)) day (en - day).toNat ∧ g = 0) := by
    cases r with
    | false => exact .inl rfl
    | true =>
      rcases count_cases (cldE b0 b1 b2 b3 b4 b5 b6 hs) day en with ⟨h, _⟩ | ⟨h, i1, i2, i3, i4⟩
      · rw [h] at hlg
        simp only [Prod.mk.injEq] at hlg
        exact .inr (.inl ⟨rfl, hlg.1.symm, hlg.2.symm⟩)
      · rw [h] at hlg
        simp only [Prod.mk.injEq] at hlg
        exact .inr (.inr ⟨rfl, i1, i2, i3, i4, hlg.1.symm, hlg.2.symm⟩)
  have HC := Lib.hid hc
  have HAE := Lib.hid hae
  have HBF := Lib.hid hbf
  have HT := Lib.hid ht
  have HK := Lib.hid hk
  clear ht hk hc hae hbf hlg hr hmid hen
  go_enter Tryd.func8, Tryd.ntmps8
  go_upto_region 1 with (fail)
  refine name_wp ?_
  intro X hX
  have gX : Blk X w.heap.size 39 (calA b0 b1 b2 b3 b4 b5 b6 (.slice A hs.length c)) := by rw [hX]; exact Blk.new _ _ _
  have hbX : Below w.heap.size w X := by rw [hX]; exact below_alloc (Below.refl _ _) _
  have HTX := Lib.hid (HT.out.below hbX)
  clear hX
  go_upto_region 4 with (go_at_call 9; with_reducible refine (head_any _ (by exact HTX.out)).mono ?_; rintro e w1 ⟨rfl, hb1⟩)
  rw [HM.out, HE.out]
  have G1 := Lib.hid (gX.then_ hb1)
  have B1 := Lib.hid (below_then hbX hb1)
  clear gX hb1 hbX HTX HT
  obtain ⟨e0, e1, e2, e3, e4, e5, e6, e7⟩ := calCells G1.out
  go_upto_region 5 with (go_at_call 18; with_reducible refine (HA.out _ B1.out).mono ?_; rintro e w2 ⟨rfl, hk⟩)
  have B2 := Lib.hid (below_then B1.out hk)
  have G2 := Lib.hid (G1.out.then_ hk)
  clear hk e0 e1 e2 e3 e4 e5 e6 e7 B1 G1
  obtain ⟨e0, e1, e2, e3, e4, e5, e6, e7⟩ := calCells G2.out
  go_upto_region 6 with (go_at_call 18; with_reducible refine (HB.out _ B2.out).mono ?_; rintro e w3 ⟨rfl, hk⟩)
  have B3 := Lib.hid (below_then B2.out hk)
  have G3 := Lib.hid (G2.out.then_ hk)
  clear hk e0 e1 e2 e3 e4 e5 e6 e7 B2 G2
  obtain ⟨e0, e1, e2, e3, e4, e5, e6, e7⟩ := calCells G3.out
  go_upto_region 7 with (go_at_call 18; with_reducible refine (HL.out _ B3.out).mono ?_; rintro e w4 ⟨rfl, hk⟩)
  have B4 := Lib.hid (below_then B3.out hk)
  have G4 := Lib.hid (G3.out.then_ hk)
  clear hk e0 e1 e2 e3 e4 e5 e6 e7 B3 G3
  obtain ⟨e0, e1, e2, e3, e4, e5, e6, e7⟩ := calCells G4.out
  clear HA HB HL
  rcases HC.out with rfl | ⟨rfl, rfl, rfl⟩ | ⟨rfl, hv, i1, i2, i3, hl, rfl⟩
  · clear HC HAE HBF
    have hz := Lib.hid (Below.refl w4.heap.size w4)
    go_wp2_with (go_at_call 15; with_reducible refine (HF.out _).mono ?_; rintro e wf ⟨rfl, hk⟩; have e0 := calCells ((G4.out.then_ (below_then hz.out hk))); obtain ⟨e0, e1, e2, e3, e4, e5, e6, e7⟩ := e0; replace hz := Lib.hid (below_then hz.out hk); clear hk)
    go_ret
    exact ⟨ret_bool (by simp), below_then B4.out hz.out⟩
  · clear HC HAE HBF
    have hz := Lib.hid (Below.refl w4.heap.size w4)
    go_wp2_with (go_at_call 15; with_reducible refine (HF.out _).mono ?_; rintro e wf ⟨rfl, hk⟩; have e0 := calCells ((G4.out.then_ (below_then hz.out hk))); obtain ⟨e0, e1, e2, e3, e4, e5, e6, e7⟩ := e0; replace hz := Lib.hid (below_then hz.out hk); clear hk)
    go_ret
    exact ⟨ret_bool (by simp), below_then B4.out hz.out⟩
  · obtain ⟨x0, x1⟩ := isD_of i1
    obtain ⟨y0, y1⟩ := isD_of i2
    have m0 : mid = day + one % 500 := by rw [← HM.out]; unfold wrap64; omega
    have m1 : en = mid + two % 500 := by rw [← HE.out]; unfold wrap64; omega
    have im := isD_mk (x := mid) (by omega) (by omega)
    have k1 := HAE.out
    have k2 := HBF.out
    rw [count_is _ hv i1 im (by omega)] at k1
    rw [count_is _ hv im i2 (by omega)] at k2
    simp only [Prod.mk.injEq] at k1 k2
    obtain ⟨k1, rfl⟩ := k1
    obtain ⟨k2, rfl⟩ := k2
    have q1 := cnt_bd (bizC (cldE b0 b1 b2 b3 b4 b5 b6 hs)) day (mid - day).toNat
    have q2 := cnt_bd (bizC (cldE b0 b1 b2 b3 b4 b5 b6 hs)) mid (en - mid).toNat
    have q3 : l = a + b := by
      rw [hl, show (en - day).toNat = (mid - day).toNat + (en - mid).toNat by omega, cnt_add, show day + ((mid - day).toNat : Int) = mid by omega, k1, k2]
    rw [k1] at q1
    rw [k2] at q2
    subst q3
    have r1 : 0 ≤ a := q1.1
    have r2 : 0 ≤ b := q2.1
    have r3 : a + b ≤ en - day := by omega
    have r4 : en - day ≤ 73048 := by omega
    have HV := Lib.hid hv
    have HI := Lib.hid i1
    clear hl k1 k2 q1 q2 m0 m1 im HC HAE HBF HM HE hv i1 i2
    have hz := Lib.hid (Below.refl w4.heap.size w4)
    go_upto_region 11 with (go_at_call 15; with_reducible refine (HF.out _).mono ?_; rintro e wf ⟨rfl, hk⟩)
    have B5 := Lib.hid (below_then B4.out hk)
    have G5 := Lib.hid (G4.out.then_ hk)
    clear hk e0 e1 e2 e3 e4 e5 e6 e7 B4 G4 hz r3 r4 r1 r2
    obtain ⟨e0, e1, e2, e3, e4, e5, e6, e7⟩ := calCells G5.out
    rcases next_cases (cldE b0 b1 b2 b3 b4 b5 b6 hs) day with ⟨_, j⟩ | ⟨i, j1, j2, j3, j4, j5, j6, j7⟩ | ⟨j1, j2, j3, j4⟩
    case' inl => (exact absurd j (by rw [HV.out, HI.out]; simp))
    case' inr.inl =>
      have HN := Lib.hid (HK.out.next b0 b1 b2 b3 b4 b5 b6 A hs c _ _ _ j1)
      have z1 := isD_of j4
      have HA := Lib.hid (HK.out.count b0 b1 b2 b3 b4 b5 b6 A hs c day (day + i) 0 0 (by rw [count_is _ HV.out HI.out j4 (by omega), show (day + (i : Int) - day).toNat = i by omega, j6]))
      clear j1 j2 j3 j4 j5 j6 j7
      go_upto_region 12 with (go_at_call 14; with_reducible refine (HN.out _ B5.out).mono ?_; rintro e w6 ⟨rfl, hk⟩)
      have B6 := Lib.hid (below_then B5.out hk)
      have G6 := Lib.hid (G5.out.then_ hk)
      clear hk e0 e1 e2 e3 e4 e5 e6 e7 B5 G5
      obtain ⟨e0, e1, e2, e3, e4, e5, e6, e7⟩ := calCells G6.out
      clear HN
      go_upto_region 16 with (go_at_call 18; with_reducible refine (HA.out _ B6.out).mono ?_; rintro e v ⟨rfl, hk⟩)
      have BV := Lib.hid (below_then B6.out hk)
      have GV := Lib.hid (G6.out.then_ hk)
      clear hk HA B6 G6 e0 e1 e2 e3 e4 e5 e6 e7 z1
    case' inr.inr =>
      have HN := Lib.hid (HK.out.next b0 b1 b2 b3 b4 b5 b6 A hs c _ _ _ j1)
      clear j1 j2 j3 j4
      go_upto_region 16 with (go_at_call 14; with_reducible refine (HN.out _ B5.out).mono ?_; rintro e v ⟨rfl, hk⟩)
      have BV := Lib.hid (below_then B5.out hk)
      have GV := Lib.hid (G5.out.then_ hk)
      clear hk HN B5 G5 e0 e1 e2 e3 e4 e5 e6 e7
    all_goals (
      obtain ⟨e0, e1, e2, e3, e4, e5, e6, e7⟩ := calCells GV.out
      by_cases hm : day = 73048
      · subst hm
        go_wp2
        go_ret
        exact ⟨rfl, BV.out⟩
      · obtain ⟨bz, hbz⟩ : ∃ bz, bizF (cldE b0 b1 b2 b3 b4 b5 b6 hs) day = bz := ⟨_, rfl⟩
        have HZ := Lib.hid (HK.out.biz b0 b1 b2 b3 b4 b5 b6 A hs c _ _ hbz)
        have HA := Lib.hid (HK.out.count b0 b1 b2 b3 b4 b5 b6 A hs c day (day + 1) (b2i bz) 0 (by rw [count_is _ HV.out HI.out (isD_mk (by omega) (by omega)) (by omega), show (day + 1 - day).toNat = 0 + 1 by omega, cntS, ← hbz, biz_of HV.out HI.out]; simp [cnt]))
        clear hbz
        go_upto_region 19 with (go_at_call 18; with_reducible refine (HA.out _ BV.out).mono ?_; rintro e w8 ⟨rfl, hk⟩)
        have B8 := Lib.hid (below_then BV.out hk)
        have G8 := Lib.hid (GV.out.then_ hk)
        clear hk e0 e1 e2 e3 e4 e5 e6 e7 BV GV
        obtain ⟨e0, e1, e2, e3, e4, e5, e6, e7⟩ := calCells G8.out
        cases bz
        · go_wp2_with (go_at_call 16; with_reducible refine (HZ.out _ B8.out).mono ?_; rintro e w9 ⟨rfl, hk⟩)
          go_ret
          exact ⟨ret_bool (by simp [b2i]), below_then B8.out hk⟩
        · go_wp2_with (go_at_call 16; with_reducible refine (HZ.out _ B8.out).mono ?_; rintro e w9 ⟨rfl, hk⟩)
          go_ret
          exact ⟨ret_bool (by simp [b2i]), below_then B8.out hk⟩)
end Go.Proofs.YtikjjhodbijfnaaDoor
