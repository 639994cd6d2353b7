/- The walks of date.Business; week, few. -/
import Derived.Test.YtikjjhodbijfnaaDoorD10
namespace Go.Proofs.YtikjjhodbijfnaaDoor
open Go.RowKit Go.Sort

set_option maxHeartbeats 1600000 in
theorem business_any (b0 b1 b2 b3 b4 b5 b6 : Bool) (A : Option Addr) (hs : List Int) (c : Nat) (w : World) (x : Int) (hk : Kal w A hs c) :
    Calls Tryd.prog 16 #[.agg (calA b0 b1 b2 b3 b4 b5 b6 (.slice A hs.length c)), .int .i64 x] w fun e w' =>
      e = .returned (.bool (bizF ⟨[b0, b1, b2, b3, b4, b5, b6], hs⟩ x)) ∧ Below w.heap.size w w' := by
  have HK := Lib.hid hk
  clear hk
  obtain ⟨wk, hwk⟩ : ∃ wk, wk = [b0, b1, b2, b3, b4, b5, b6] := ⟨_, rfl⟩
  rw [← hwk]
  obtain ⟨r, hr⟩ : ∃ r, r = bizF ⟨wk, hs⟩ x := ⟨_, rfl⟩
  rw [← hr]
  have HR := Lib.hid hr
  have HW := Lib.hid hwk
  clear hr hwk
  go_enter Tryd.func16, Tryd.ntmps16
  go_upto_region 1 with (fail)
  refine name_wp ?_
  intro X hX
  have gX : Blk X w.heap.size 39 (calA b0 b1 b2 b3 b4 b5 b6 (.slice A hs.length c)) := by rw [hX]; exact Blk.new _ _ _
  have hbX : Below w.heap.size w X := by rw [hX]; exact below_alloc (Below.refl _ _) _
  have HX := Lib.hid (HK.out.then_ hbX)
  have HV := Lib.hid (valid_any b0 b1 b2 b3 b4 b5 b6 A hs c X HX.out.hl HX.out.hm)
  rw [← HW.out] at HV
  obtain ⟨d0, d1, d2, d3, d4, d5, d6, d7⟩ := calCells gX
  have GX := Lib.hid gX
  clear hX gX HK
  have HD := Lib.hid (isDay_any x)
  rcases hbb (isD x) with hx | hx
  · rw [hx] at HD
    have hx' := of_decide_eq_true hx
    rcases hbb (vldC ⟨wk, hs⟩) with hv | hv
    · rw [hv] at HV
      obtain ⟨v1, v2, v3⟩ := vld_get hv
      obtain ⟨y, rfl⟩ := Int.eq_ofNat_of_zero_le hx'.1
      have hF : r = bizC ⟨wk, hs⟩ y := by rw [HR.out]; unfold bizF; rw [hx, hv]; rfl
      have HF := Lib.hid hF
      have VP := Lib.hid v2
      clear hF hx hv HR v2 v3
      have CC := Lib.hid (fun (w1 : World) (hb1 : Below X.heap.size X w1) => calCells (GX.out.then_ hb1))
      rcases (show (y : Int) % 7 = 0 ∨ (y : Int) % 7 = 1 ∨ (y : Int) % 7 = 2 ∨ (y : Int) % 7 = 3 ∨ (y : Int) % 7 = 4 ∨ (y : Int) % 7 = 5 ∨ (y : Int) % 7 = 6 by omega) with e | e | e | e | e | e | e
      · have HO := Lib.hid (show offW ⟨wk, hs⟩ y = b0 by show ((wk[((y : Int) % 7).toNat]?).getD true) = _; rw [e, HW.out]; rfl)
        cases b0
        · go_upto_region 3 with (first | (go_at_call 20; with_reducible refine HV.out.mono ?_; rintro e w1 ⟨rfl, hb1⟩; obtain ⟨k0, k1, k2, k3, k4, k5, k6, k7⟩ := CC.out w1 hb1) | (go_at_call 23; with_reducible refine (HD.out _).mono ?_; rintro e w2 ⟨rfl, rfl⟩))
          have HS := Lib.hid (bs_any A hs c y w1 (Nat.le_trans v1 (by omega)) VP.out (HX.out.then_ hb1).hm)
          go_wp2_with (go_at_call 25; with_reducible refine HS.out.mono ?_; rintro e w3 ⟨rfl, rfl⟩)
          go_ret
          refine ⟨ret_bool ?_, below_then hbX hb1⟩
          rw [HF.out]; unfold bizC; rw [HO.out]; simp
        · obtain rfl : r = false := by rw [HF.out]; unfold bizC; rw [HO.out]; rfl
          go_wp2_with (first | (go_at_call 20; with_reducible refine HV.out.mono ?_; rintro e w1 ⟨rfl, hb1⟩; obtain ⟨k0, k1, k2, k3, k4, k5, k6, k7⟩ := CC.out w1 hb1) | (go_at_call 23; with_reducible refine (HD.out _).mono ?_; rintro e w2 ⟨rfl, rfl⟩))
          go_ret
          exact ⟨rfl, below_then hbX hb1⟩
      · have HO := Lib.hid (show offW ⟨wk, hs⟩ y = b1 by show ((wk[((y : Int) % 7).toNat]?).getD true) = _; rw [e, HW.out]; rfl)
        cases b1
        · go_upto_region 3 with (first | (go_at_call 20; with_reducible refine HV.out.mono ?_; rintro e w1 ⟨rfl, hb1⟩; obtain ⟨k0, k1, k2, k3, k4, k5, k6, k7⟩ := CC.out w1 hb1) | (go_at_call 23; with_reducible refine (HD.out _).mono ?_; rintro e w2 ⟨rfl, rfl⟩))
          have HS := Lib.hid (bs_any A hs c y w1 (Nat.le_trans v1 (by omega)) VP.out (HX.out.then_ hb1).hm)
          go_wp2_with (go_at_call 25; with_reducible refine HS.out.mono ?_; rintro e w3 ⟨rfl, rfl⟩)
          go_ret
          refine ⟨ret_bool ?_, below_then hbX hb1⟩
          rw [HF.out]; unfold bizC; rw [HO.out]; simp
        · obtain rfl : r = false := by rw [HF.out]; unfold bizC; rw [HO.out]; rfl
          go_wp2_with (first | (go_at_call 20; with_reducible refine HV.out.mono ?_; rintro e w1 ⟨rfl, hb1⟩; obtain ⟨k0, k1, k2, k3, k4, k5, k6, k7⟩ := CC.out w1 hb1) | (go_at_call 23; with_reducible refine (HD.out _).mono ?_; rintro e w2 ⟨rfl, rfl⟩))
          go_ret
          exact ⟨rfl, below_then hbX hb1⟩
      · have HO := Lib.hid (show offW ⟨wk, hs⟩ y = b2 by show ((wk[((y : Int) % 7).toNat]?).getD true) = _; rw [e, HW.out]; rfl)
        cases b2
        · go_upto_region 3 with (first | (go_at_call 20; with_reducible refine HV.out.mono ?_; rintro e w1 ⟨rfl, hb1⟩; obtain ⟨k0, k1, k2, k3, k4, k5, k6, k7⟩ := CC.out w1 hb1) | (go_at_call 23; with_reducible refine (HD.out _).mono ?_; rintro e w2 ⟨rfl, rfl⟩))
          have HS := Lib.hid (bs_any A hs c y w1 (Nat.le_trans v1 (by omega)) VP.out (HX.out.then_ hb1).hm)
          go_wp2_with (go_at_call 25; with_reducible refine HS.out.mono ?_; rintro e w3 ⟨rfl, rfl⟩)
          go_ret
          refine ⟨ret_bool ?_, below_then hbX hb1⟩
          rw [HF.out]; unfold bizC; rw [HO.out]; simp
        · obtain rfl : r = false := by rw [HF.out]; unfold bizC; rw [HO.out]; rfl
          go_wp2_with (first | (go_at_call 20; with_reducible refine HV.out.mono ?_; rintro e w1 ⟨rfl, hb1⟩; obtain ⟨k0, k1, k2, k3, k4, k5, k6, k7⟩ := CC.out w1 hb1) | (go_at_call 23; with_reducible refine (HD.out _).mono ?_; rintro e w2 ⟨rfl, rfl⟩))
          go_ret
          exact ⟨rfl, below_then hbX hb1⟩
      · have HO := Lib.hid (show offW ⟨wk, hs⟩ y = b3 by show ((wk[((y : Int) % 7).toNat]?).getD true) = _; rw [e, HW.out]; rfl)
        cases b3
        · go_upto_region 3 with (first | (go_at_call 20; with_reducible refine HV.out.mono ?_; rintro e w1 ⟨rfl, hb1⟩; obtain ⟨k0, k1, k2, k3, k4, k5, k6, k7⟩ := CC.out w1 hb1) | (go_at_call 23; with_reducible refine (HD.out _).mono ?_; rintro e w2 ⟨rfl, rfl⟩))
          have HS := Lib.hid (bs_any A hs c y w1 (Nat.le_trans v1 (by omega)) VP.out (HX.out.then_ hb1).hm)
          go_wp2_with (go_at_call 25; with_reducible refine HS.out.mono ?_; rintro e w3 ⟨rfl, rfl⟩)
          go_ret
          refine ⟨ret_bool ?_, below_then hbX hb1⟩
          rw [HF.out]; unfold bizC; rw [HO.out]; simp
        · obtain rfl : r = false := by rw [HF.out]; unfold bizC; rw [HO.out]; rfl
          go_wp2_with (first | (go_at_call 20; with_reducible refine HV.out.mono ?_; rintro e w1 ⟨rfl, hb1⟩; obtain ⟨k0, k1, k2, k3, k4, k5, k6, k7⟩ := CC.out w1 hb1) | (go_at_call 23; with_reducible refine (HD.out _).mono ?_; rintro e w2 ⟨rfl, rfl⟩))
          go_ret
          exact ⟨rfl, below_then hbX hb1⟩
      · have HO := Lib.hid (show offW ⟨wk, hs⟩ y = b4 by show ((wk[((y : Int) % 7).toNat]?).getD true) = _; rw [e, HW.out]; rfl)
        cases b4
        · go_upto_region 3 with (first | (go_at_call 20; with_reducible refine HV.out.mono ?_; rintro e w1 ⟨rfl, hb1⟩; obtain ⟨k0, k1, k2, k3, k4, k5, k6, k7⟩ := CC.out w1 hb1) | (go_at_call 23; with_reducible refine (HD.out _).mono ?_; rintro e w2 ⟨rfl, rfl⟩))
          have HS := Lib.hid (bs_any A hs c y w1 (Nat.le_trans v1 (by omega)) VP.out (HX.out.then_ hb1).hm)
          go_wp2_with (go_at_call 25; with_reducible refine HS.out.mono ?_; rintro e w3 ⟨rfl, rfl⟩)
          go_ret
          refine ⟨ret_bool ?_, below_then hbX hb1⟩
          rw [HF.out]; unfold bizC; rw [HO.out]; simp
        · obtain rfl : r = false := by rw [HF.out]; unfold bizC; rw [HO.out]; rfl
          go_wp2_with (first | (go_at_call 20; with_reducible refine HV.out.mono ?_; rintro e w1 ⟨rfl, hb1⟩; obtain ⟨k0, k1, k2, k3, k4, k5, k6, k7⟩ := CC.out w1 hb1) | (go_at_call 23; with_reducible refine (HD.out _).mono ?_; rintro e w2 ⟨rfl, rfl⟩))
          go_ret
          exact ⟨rfl, below_then hbX hb1⟩
      · have HO := Lib.hid (show offW ⟨wk, hs⟩ y = b5 by show ((wk[((y : Int) % 7).toNat]?).getD true) = _; rw [e, HW.out]; rfl)
        cases b5
        · go_upto_region 3 with (first | (go_at_call 20; with_reducible refine HV.out.mono ?_; rintro e w1 ⟨rfl, hb1⟩; obtain ⟨k0, k1, k2, k3, k4, k5, k6, k7⟩ := CC.out w1 hb1) | (go_at_call 23; with_reducible refine (HD.out _).mono ?_; rintro e w2 ⟨rfl, rfl⟩))
          have HS := Lib.hid (bs_any A hs c y w1 (Nat.le_trans v1 (by omega)) VP.out (HX.out.then_ hb1).hm)
          go_wp2_with (go_at_call 25; with_reducible refine HS.out.mono ?_; rintro e w3 ⟨rfl, rfl⟩)
          go_ret
          refine ⟨ret_bool ?_, below_then hbX hb1⟩
          rw [HF.out]; unfold bizC; rw [HO.out]; simp
        · obtain rfl : r = false := by rw [HF.out]; unfold bizC; rw [HO.out]; rfl
          go_wp2_with (first | (go_at_call 20; with_reducible refine HV.out.mono ?_; rintro e w1 ⟨rfl, hb1⟩; obtain ⟨k0, k1, k2, k3, k4, k5, k6, k7⟩ := CC.out w1 hb1) | (go_at_call 23; with_reducible refine (HD.out _).mono ?_; rintro e w2 ⟨rfl, rfl⟩))
          go_ret
          exact ⟨rfl, below_then hbX hb1⟩
      · have HO := Lib.hid (show offW ⟨wk, hs⟩ y = b6 by show ((wk[((y : Int) % 7).toNat]?).getD true) = _; rw [e, HW.out]; rfl)
        cases b6
        · go_upto_region 3 with (first | (go_at_call 20; with_reducible refine HV.out.mono ?_; rintro e w1 ⟨rfl, hb1⟩; obtain ⟨k0, k1, k2, k3, k4, k5, k6, k7⟩ := CC.out w1 hb1) | (go_at_call 23; with_reducible refine (HD.out _).mono ?_; rintro e w2 ⟨rfl, rfl⟩))
          have HS := Lib.hid (bs_any A hs c y w1 (Nat.le_trans v1 (by omega)) VP.out (HX.out.then_ hb1).hm)
          go_wp2_with (go_at_call 25; with_reducible refine HS.out.mono ?_; rintro e w3 ⟨rfl, rfl⟩)
          go_ret
          refine ⟨ret_bool ?_, below_then hbX hb1⟩
          rw [HF.out]; unfold bizC; rw [HO.out]; simp
        · obtain rfl : r = false := by rw [HF.out]; unfold bizC; rw [HO.out]; rfl
          go_wp2_with (first | (go_at_call 20; with_reducible refine HV.out.mono ?_; rintro e w1 ⟨rfl, hb1⟩; obtain ⟨k0, k1, k2, k3, k4, k5, k6, k7⟩ := CC.out w1 hb1) | (go_at_call 23; with_reducible refine (HD.out _).mono ?_; rintro e w2 ⟨rfl, rfl⟩))
          go_ret
          exact ⟨rfl, below_then hbX hb1⟩
    · rw [hv] at HV
      have hF : r = false := by rw [HR.out]; unfold bizF; rw [hx, hv]; rfl
      subst hF
      clear hx hv HR
      go_wp2_with (first | (go_at_call 20; with_reducible refine HV.out.mono ?_; rintro e w1 ⟨rfl, hb1⟩) | (go_at_call 23; with_reducible refine (HD.out _).mono ?_; rintro e w2 ⟨rfl, rfl⟩))
      go_ret
      exact ⟨rfl, below_then hbX hb1⟩
  · rw [hx] at HD
    have hF : r = false := by rw [HR.out]; unfold bizF; rw [hx]; rfl
    subst hF
    clear hx HR
    go_wp2_with (go_at_call 23; with_reducible refine (HD.out _).mono ?_; rintro e w2 ⟨rfl, rfl⟩)
    go_ret
    exact ⟨rfl, hbX⟩
end Go.Proofs.YtikjjhodbijfnaaDoor
