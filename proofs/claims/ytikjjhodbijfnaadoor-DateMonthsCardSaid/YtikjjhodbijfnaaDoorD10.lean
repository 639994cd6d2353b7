/- The walks of date.Add, Next, Count, Business at every input. -/
import Derived.Test.YtikjjhodbijfnaaDoorD09
namespace Go.Proofs.YtikjjhodbijfnaaDoor
open Go.RowKit Go.Sort

/-- a calendar's holidays as they lie in memory -/
structure Kal (w : World) (A : Option Addr) (hs : List Int) (c : Nat) : Prop where
  hl : hs.length < 100000000000000
  hc : hs.length ≤ c
  ha : A = none → c = 0
  hm : Seg w w.heap.size 1 encI A hs
theorem Kal.then_ {w w' : World} {A : Option Addr} {hs : List Int} {c : Nat} (h : Kal w A hs c) (hb : Below w.heap.size w w') : Kal w' A hs c := ⟨h.hl, h.hc, h.ha, (h.hm.keep (bcell hb).1).more hb.size⟩
theorem calCells {X : World} {g : Nat} {b0 b1 b2 b3 b4 b5 b6 : Bool} {s : Value} (h : Blk X g 39 (calA b0 b1 b2 b3 b4 b5 b6 s)) :
    X.cell? ⟨g, 0, none⟩ = some (.bool b0) ∧ X.cell? ⟨g, 1, none⟩ = some (.bool b1) ∧ X.cell? ⟨g, 2, none⟩ = some (.bool b2) ∧ X.cell? ⟨g, 3, none⟩ = some (.bool b3) ∧ X.cell? ⟨g, 4, none⟩ = some (.bool b4) ∧ X.cell? ⟨g, 5, none⟩ = some (.bool b5) ∧ X.cell? ⟨g, 6, none⟩ = some (.bool b6) ∧ X.cell? ⟨g, 7, none⟩ = some s :=
  ⟨h.cell 0, h.cell 1, h.cell 2, h.cell 3, h.cell 4, h.cell 5, h.cell 6, h.cell 7⟩
set_option maxHeartbeats 1600000 in
theorem add_any (b0 b1 b2 b3 b4 b5 b6 : Bool) (A : Option Addr) (hs : List Int) (c : Nat) (w : World) (x n : Int) (hk : Kal w A hs c) :
    Calls Tryd.prog 17 #[.agg (calA b0 b1 b2 b3 b4 b5 b6 (.slice A hs.length c)), .int .i64 x, .int .i64 n] w fun e w' =>
      e = .returned (.tuple #[.int .i64 (addF ⟨[b0, b1, b2, b3, b4, b5, b6], hs⟩ x n).1, .int .i64 (addF ⟨[b0, b1, b2, b3, b4, b5, b6], hs⟩ x n).2]) ∧ Below w.heap.size w w' := by
  have HK := Lib.hid hk
  clear hk
  obtain ⟨r, hr⟩ : ∃ r, r = addF ⟨[b0, b1, b2, b3, b4, b5, b6], hs⟩ x n := ⟨_, rfl⟩
  rw [← hr]
  have HR := Lib.hid hr
  clear hr
  go_enter Tryd.func17, Tryd.ntmps17
  go_upto_region 1 with (fail)
  refine name_wp ?_
  intro X hX
  have gX : Blk X w.heap.size 39 (calA b0 b1 b2 b3 b4 b5 b6 (.slice A hs.length c)) := by rw [hX]; exact Blk.new _ _ _
  have hbX : Below w.heap.size w X := by rw [hX]; exact below_alloc (Below.refl _ _) _
  have HX := Lib.hid (HK.out.then_ hbX)
  have HV := Lib.hid (valid_any b0 b1 b2 b3 b4 b5 b6 A hs c X HX.out.hl HX.out.hm)
  obtain ⟨d0, d1, d2, d3, d4, d5, d6, d7⟩ := calCells gX
  have GX := Lib.hid gX
  clear hX gX HK
  rcases hbb (vldC ⟨[b0, b1, b2, b3, b4, b5, b6], hs⟩) with hv | hv
  · rw [hv] at HV
    rcases hbb (isD x) with hx | hx
    · have HD := Lib.hid (isDay_any x)
      rw [hx] at HD
      rcases hbb (decide (0 ≤ n)) with hn | hn
      · have hx' := of_decide_eq_true hx
        have hn' := of_decide_eq_true hn
        have hF : r = if n = 0 then srchF ⟨[b0, b1, b2, b3, b4, b5, b6], hs⟩ x 1 else srchF ⟨[b0, b1, b2, b3, b4, b5, b6], hs⟩ (x + 1) n := by rw [HR.out]; unfold addF; rw [hv, hx, hn]; rfl
        have HF := Lib.hid hF
        have HVV := Lib.hid hv
        clear hF hx hn hv HR
        go_upto_region 3 with (first | (go_at_call 20; with_reducible refine HV.out.mono ?_; rintro e w1 ⟨rfl, hb1⟩) | (go_at_call 23; with_reducible refine (HD.out _).mono ?_; rintro e w2 ⟨rfl, rfl⟩))
        have h1 := Lib.hid (GX.out.then_ hb1)
        have hbw := below_then hbX hb1
        have HK1 := Lib.hid (HX.out.then_ hb1)
        clear d0 d1 d2 d3 d4 d5 d6 d7
        obtain ⟨d0, d1, d2, d3, d4, d5, d6, d7⟩ := calCells h1.out
        by_cases hz : n = 0
        · have HS := Lib.hid (srchF_any b0 b1 b2 b3 b4 b5 b6 A hs c w1 x 1 HVV.out HK1.out.hc HK1.out.ha hx'.1 (by omega) HK1.out.hm)
          rw [show srchF ⟨[b0, b1, b2, b3, b4, b5, b6], hs⟩ x 1 = r by rw [HF.out, if_pos hz]] at HS
          subst hz
          go_wp2_with (go_at_call 26; with_reducible refine HS.out.mono ?_; rintro e w2 ⟨rfl, hb2⟩)
          go_ret2
          exact ⟨rfl, below_then hbw hb2⟩
        · have HS := Lib.hid (srchF_any b0 b1 b2 b3 b4 b5 b6 A hs c w1 (x + 1) n HVV.out HK1.out.hc HK1.out.ha (by omega) (by omega) HK1.out.hm)
          rw [show srchF ⟨[b0, b1, b2, b3, b4, b5, b6], hs⟩ (x + 1) n = r by rw [HF.out, if_neg hz]] at HS
          go_wp2_with (go_at_call 26; with_reducible refine HS.out.mono ?_; rintro e w2 ⟨rfl, hb2⟩)
          go_ret2
          exact ⟨rfl, below_then hbw hb2⟩
      · have hn' := of_decide_eq_false hn
        have hF : r = (0, 1) := by rw [HR.out]; unfold addF; rw [hv, hx, hn]; rfl
        subst hF
        clear hx hn hv HR
        go_wp2_with (first | (go_at_call 20; with_reducible refine HV.out.mono ?_; rintro e w1 ⟨rfl, hb1⟩) | (go_at_call 23; with_reducible refine (HD.out _).mono ?_; rintro e w2 ⟨rfl, rfl⟩))
        go_ret2
        exact ⟨rfl, below_then hbX hb1⟩
    · have HD := Lib.hid (isDay_any x)
      rw [hx] at HD
      have hF : r = (0, 1) := by rw [HR.out]; unfold addF; rw [hv, hx]; rfl
      subst hF
      clear hx hv HR
      go_wp2_with (first | (go_at_call 20; with_reducible refine HV.out.mono ?_; rintro e w1 ⟨rfl, hb1⟩) | (go_at_call 23; with_reducible refine (HD.out _).mono ?_; rintro e w2 ⟨rfl, rfl⟩))
      go_ret2
      exact ⟨rfl, below_then hbX hb1⟩
  · rw [hv] at HV
    have hF : r = (0, 1) := by rw [HR.out]; unfold addF; rw [hv]; rfl
    subst hF
    clear hv HR
    go_wp2_with (go_at_call 20; with_reducible refine HV.out.mono ?_; rintro e w1 ⟨rfl, hb1⟩)
    go_ret2
    exact ⟨rfl, below_then hbX hb1⟩
set_option maxHeartbeats 1600000 in
theorem next_any (b0 b1 b2 b3 b4 b5 b6 : Bool) (A : Option Addr) (hs : List Int) (c : Nat) (w : World) (x : Int) (hk : Kal w A hs c) :
    Calls Tryd.prog 14 #[.agg (calA b0 b1 b2 b3 b4 b5 b6 (.slice A hs.length c)), .int .i64 x] w fun e w' =>
      e = .returned (.tuple #[.int .i64 (nextF ⟨[b0, b1, b2, b3, b4, b5, b6], hs⟩ x).1, .int .i64 (nextF ⟨[b0, b1, b2, b3, b4, b5, b6], hs⟩ x).2]) ∧ Below w.heap.size w w' := by
  have HK := Lib.hid hk
  clear hk
  obtain ⟨r, hr⟩ : ∃ r, r = nextF ⟨[b0, b1, b2, b3, b4, b5, b6], hs⟩ x := ⟨_, rfl⟩
  rw [← hr]
  have HR := Lib.hid (show addF ⟨[b0, b1, b2, b3, b4, b5, b6], hs⟩ x 0 = r from hr.symm)
  clear hr
  go_enter Tryd.func14, Tryd.ntmps14
  go_upto_region 1 with (fail)
  refine name_wp ?_
  intro X hX
  have gX : Blk X w.heap.size 39 (calA b0 b1 b2 b3 b4 b5 b6 (.slice A hs.length c)) := by rw [hX]; exact Blk.new _ _ _
  have hbX : Below w.heap.size w X := by rw [hX]; exact below_alloc (Below.refl _ _) _
  have HX := Lib.hid (HK.out.then_ hbX)
  obtain ⟨d0, d1, d2, d3, d4, d5, d6, d7⟩ := calCells gX
  have GX := Lib.hid gX
  clear hX gX HK
  have HV := Lib.hid (add_any b0 b1 b2 b3 b4 b5 b6 A hs c X x 0 HX.out)
  rw [HR.out] at HV
  go_wp2_with (go_at_call 17; with_reducible refine HV.out.mono ?_; rintro e w1 ⟨rfl, hb1⟩)
  go_ret2
  exact ⟨rfl, below_then hbX hb1⟩
set_option maxHeartbeats 1600000 in
theorem Count_any (b0 b1 b2 b3 b4 b5 b6 : Bool) (A : Option Addr) (hs : List Int) (c : Nat) (w : World) (x y : Int) (hk : Kal w A hs c) :
    Calls Tryd.prog 18 #[.agg (calA b0 b1 b2 b3 b4 b5 b6 (.slice A hs.length c)), .int .i64 x, .int .i64 y] w fun e w' =>
      e = .returned (.tuple #[.int .i64 (countF ⟨[b0, b1, b2, b3, b4, b5, b6], hs⟩ x y).1, .int .i64 (countF ⟨[b0, b1, b2, b3, b4, b5, b6], hs⟩ x y).2]) ∧ Below w.heap.size w w' := by
  have HK := Lib.hid hk
  clear hk
  obtain ⟨r, hr⟩ : ∃ r, r = countF ⟨[b0, b1, b2, b3, b4, b5, b6], hs⟩ x y := ⟨_, rfl⟩
  rw [← hr]
  have HR := Lib.hid hr
  clear hr
  go_enter Tryd.func18, Tryd.ntmps18
  go_upto_region 1 with (fail)
  refine name_wp ?_
  intro X hX
  have gX : Blk X w.heap.size 39 (calA b0 b1 b2 b3 b4 b5 b6 (.slice A hs.length c)) := by rw [hX]; exact Blk.new _ _ _
  have hbX : Below w.heap.size w X := by rw [hX]; exact below_alloc (Below.refl _ _) _
  have HX := Lib.hid (HK.out.then_ hbX)
  obtain ⟨d0, d1, d2, d3, d4, d5, d6, d7⟩ := calCells gX
  have GX := Lib.hid gX
  clear hX gX HK
  have HV := Lib.hid (valid_any b0 b1 b2 b3 b4 b5 b6 A hs c X HX.out.hl HX.out.hm)
  have HD := Lib.hid (isDay_any x)
  have HE := Lib.hid (isDay_any y)
  rcases hbb (vldC ⟨[b0, b1, b2, b3, b4, b5, b6], hs⟩) with hv | hv
  · rw [hv] at HV
    rcases hbb (isD x) with hx | hx
    · rw [hx] at HD
      rcases hbb (isD y) with hy | hy
      · rw [hy] at HE
        rcases hbb (decide (x ≤ y)) with hn | hn
        · have hx' := of_decide_eq_true hx
          have hy' := of_decide_eq_true hy
          have hn' := of_decide_eq_true hn
          have hF : r = (cnt (bizC ⟨[b0, b1, b2, b3, b4, b5, b6], hs⟩) x (y - x).toNat, 0) := by rw [HR.out]; unfold countF; rw [hv, hx, hy, hn]; rfl
          have HVV := Lib.hid hv
          obtain ⟨q, hq⟩ : ∃ q, q = cnt (bizC ⟨[b0, b1, b2, b3, b4, b5, b6], hs⟩) x (y - x).toNat := ⟨_, rfl⟩
          rw [← hq] at hF
          have HQ := Lib.hid hq
          clear hq
          subst hF
          clear hx hy hn hv HR
          go_upto_region 3 with (first | (go_at_call 20; with_reducible refine HV.out.mono ?_; rintro e w1 ⟨rfl, hb1⟩) | (go_at_call 23; with_reducible refine (HD.out _).mono ?_; rintro e w2 ⟨rfl, rfl⟩) | (go_at_call 23; with_reducible refine (HE.out _).mono ?_; rintro e w3 ⟨rfl, rfl⟩))
          have h1 := Lib.hid (GX.out.then_ hb1)
          have hbw := below_then hbX hb1
          have HK1 := Lib.hid (HX.out.then_ hb1)
          clear d0 d1 d2 d3 d4 d5 d6 d7
          obtain ⟨d0, d1, d2, d3, d4, d5, d6, d7⟩ := calCells h1.out
          have HS : Hid (Calls Tryd.prog 27 #[.agg (calA b0 b1 b2 b3 b4 b5 b6 (.slice A hs.length c)), .int .i64 x, .int .i64 y] w1 fun e w' => e = .returned (.int .i64 (cnt (bizC ⟨[b0, b1, b2, b3, b4, b5, b6], hs⟩) x (y - x).toNat)) ∧ Below w1.heap.size w1 w') := by
            obtain ⟨v1, v2, v3⟩ := vld_get HVV.out
            obtain ⟨a, rfl⟩ := Int.eq_ofNat_of_zero_le hx'.1
            obtain ⟨z, hz⟩ : ∃ z : Nat, z = (y - a).toNat := ⟨_, rfl⟩
            obtain rfl : y = a + z := by omega
            rw [← hz]
            exact count_any b0 b1 b2 b3 b4 b5 b6 A hs c w1 a z v1 HK1.out.hc v2 v3 HK1.out.ha (by omega) HK1.out.hm
          rw [← HQ.out] at HS
          go_wp2_with (go_at_call 27; with_reducible refine HS.out.mono ?_; rintro e w2 ⟨rfl, hb2⟩)
          go_ret2
          exact ⟨rfl, below_then hbw hb2⟩
        · have hn' := of_decide_eq_false hn
          have hF : r = (0, 1) := by rw [HR.out]; unfold countF; rw [hv, hx, hy, hn]; rfl
          subst hF
          clear HR hv hx hy hn
          go_wp2_with (first | (go_at_call 20; with_reducible refine HV.out.mono ?_; rintro e w1 ⟨rfl, hb1⟩) | (go_at_call 23; with_reducible refine (HD.out _).mono ?_; rintro e w2 ⟨rfl, rfl⟩) | (go_at_call 23; with_reducible refine (HE.out _).mono ?_; rintro e w3 ⟨rfl, rfl⟩))
          go_ret2
          exact ⟨rfl, below_then hbX hb1⟩
      · rw [hy] at HE
        have hF : r = (0, 1) := by rw [HR.out]; unfold countF; rw [hv, hx, hy]; rfl
        subst hF
        clear HR hv hx hy
        go_wp2_with (first | (go_at_call 20; with_reducible refine HV.out.mono ?_; rintro e w1 ⟨rfl, hb1⟩) | (go_at_call 23; with_reducible refine (HD.out _).mono ?_; rintro e w2 ⟨rfl, rfl⟩) | (go_at_call 23; with_reducible refine (HE.out _).mono ?_; rintro e w3 ⟨rfl, rfl⟩))
        go_ret2
        exact ⟨rfl, below_then hbX hb1⟩
    · rw [hx] at HD
      have hF : r = (0, 1) := by rw [HR.out]; unfold countF; rw [hv, hx]; rfl
      subst hF
      clear HR hv hx
      go_wp2_with (first | (go_at_call 20; with_reducible refine HV.out.mono ?_; rintro e w1 ⟨rfl, hb1⟩) | (go_at_call 23; with_reducible refine (HD.out _).mono ?_; rintro e w2 ⟨rfl, rfl⟩) | (go_at_call 23; with_reducible refine (HE.out _).mono ?_; rintro e w3 ⟨rfl, rfl⟩))
      go_ret2
      exact ⟨rfl, below_then hbX hb1⟩
  · rw [hv] at HV
    have hF : r = (0, 1) := by rw [HR.out]; unfold countF; rw [hv]; rfl
    subst hF
    clear HR hv
    go_wp2_with (first | (go_at_call 20; with_reducible refine HV.out.mono ?_; rintro e w1 ⟨rfl, hb1⟩) | (go_at_call 23; with_reducible refine (HD.out _).mono ?_; rintro e w2 ⟨rfl, rfl⟩) | (go_at_call 23; with_reducible refine (HE.out _).mono ?_; rintro e w3 ⟨rfl, rfl⟩))
    go_ret2
    exact ⟨rfl, below_then hbX hb1⟩
end Go.Proofs.YtikjjhodbijfnaaDoor
