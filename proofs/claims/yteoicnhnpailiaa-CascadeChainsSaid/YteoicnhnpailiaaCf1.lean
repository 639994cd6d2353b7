/- The walk of CascadeFixed: true at every portfolio. -/
import Derived.Test.YteoicnhnpailiaaCe4
import Derived.Test.YteoicnhnpailiaaCe0
namespace Go.Proofs.Yteoicnhnpailiaa
open Go.RowKit Go.Sort Go.Maps

theorem has_of {l : List Bool} {k : Nat} {x : Bool} (h : l[k]? = some x) : has l (k : Int) = x := by simp [has, List.getD_eq_getElem?_getD, h]
/-- over at the set of those who default -/
theorem over_out (p : Pf) (m : Ms) (hv : VP p) {K : Nat} (hK : SpOk p K) {k : Nat} {x : Bool} (hx : (outD p K)[k]? = some x) (A : Option Addr) (c : Nat) (w : World) (hm : Pm w p m) (hs : Seg w w.heap.size 1 encB A (outD p K)) :
    Calls Try.prog 15 #[.agg (pfA p m), .int .i64 k, .slice A (outD p K).length c] w fun e w' => e = .returned (.tuple #[.bool x, .bool true]) ∧ Below w.heap.size w w' := by
  have hl := outD_len hv K
  have hkl := (List.getElem?_eq_some_iff.1 hx).1
  have h := over_any p m (k : Int) (outD p K) A c w hv hm ⟨by omega, by omega⟩ hl hs
  rw [pad_outD hv] at h
  have e1 : ovr p (Dk p K) (k : Int) = x := by
    rw [← hK.fix hv (by omega) (by omega), ← has_outD hv]
    exact has_of hx
  have e2 : (ow p (Dk p K) (k : Int)).isSome = true := hK.2.1 _ (by omega) (by omega)
  rwa [e1, e2] at h
set_option maxRecDepth 100000 in
set_option maxHeartbeats 3200000 in
theorem fixed_any (p : Pf) (m : Ms) (w : World) (hm : Pm w p m) (hl : Lp p) (hn : -9223372036854775808 ≤ p.n ∧ p.n ≤ 9223372036854775807) (ha : ∀ a ∈ p.as, fitA a) (hd : ∀ x ∈ p.du, fitD x) (hla : ∀ x ∈ p.la, fitD x) :
    Calls Try.prog 3 #[.agg (pfA p m)] w fun e w' => e = .returned (.bool true) ∧ Below w.heap.size w w' := by
  have HM := Lib.hid hm
  have HFP := Lib.hid (fun hf => fp_few hl hn ha hd hla (k := 40) (by omega) hf)
  have HFW : Hid (∀ W : World, Calls Try.prog 12 #[.agg (pfA p m), .int .i64 40] W fun e w' => e = .returned (.bool (fewP p 40)) ∧ Below W.heap.size W w') := fun W => few_any p m 40 W (by omega) hl
  clear hm hl hn ha hd hla
  go_enter Try.func3, Try.ntmps3
  go_upto_region 1 with (fail)
  refine name_wp ?_
  intro X hX
  have gP0 : Blk X w.heap.size 27 (pfA p m) := by rw [hX]; exact Blk.new _ _ _
  have hbX : Below w.heap.size w X := by rw [hX]; exact wa1 _ _
  obtain ⟨bP, e0⟩ : ∃ b, w.heap.size = b := ⟨_, rfl⟩
  have hbP : Hid (w.heap.size ≤ bP) := Nat.le_of_eq e0
  rw [e0] at gP0 ⊢
  have GP0 := Lib.hid gP0
  have HX := Lib.hid hbX
  clear hX gP0 hbX e0
  go_upto_region 2 with (go_at_call 11; (with_reducible refine (head_any _).mono ?_); rintro e w1 ⟨rfl, hk⟩)
  have GP := Lib.hid (GP0.out.then_ hk)
  have HB1 := Lib.hid (below_then HX.out hk)
  clear hk GP0 HX
  obtain ⟨k0, k1, k2, k3, k4, k5⟩ := pfCells GP.out
  have lP := GP.out.lt
  rcases hbb (fewP p 40) with hf | hf
  · have HF := Lib.hid (HFP.out hf)
    rw [hf] at HFW
    clear hf
    have hz := Lib.hid (Below.refl w1.heap.size w1)
    go_upto_region 4 with (go_at_call 12; (with_reducible refine (HFW.out _).mono ?_); rintro e w2 ⟨rfl, hk⟩; replace hz := Lib.hid (below_then hz.out hk); have kk := (pfCells (GP.out.then_ hz.out)); clear k0 k1 k2 k3 k4 k5 lP; obtain ⟨k0, k1, k2, k3, k4, k5⟩ := kk; have lP := (GP.out.then_ hz.out).lt; clear hk)
    have GP2 := Lib.hid (GP.out.then_ hz.out)
    have HB2 := Lib.hid (below_then HB1.out hz.out)
    have PM2 := Lib.hid (HM.out.then_ HB2.out)
    clear hz GP HB1 HFW HFP
    rcases hbb (vldP p) with hv | hv
    · have HV := Lib.hid (vldP_of hv)
      by_cases hK : ∃ K, SpOk p K
      · obtain ⟨K, hK⟩ := hK
        have HK := Lib.hid hK
        have HDF := Lib.hid (defaults_ok p m w2 HV.out PM2.out hK)
        have hL := outD_len HV.out K
        have n12 := HV.out.n12
        clear hv hK
        go_upto_region 5 with (go_at_call 13; (with_reducible refine HDF.out.mono ?_); rintro e w3 ⟨⟨v, rfl, hg⟩, hk⟩)
        obtain ⟨A, c, rfl, _, sg⟩ := Own.seg hg encB_len
        have SG := Lib.hid sg
        have GP3 := Lib.hid (GP2.out.then_ hk)
        have HB3 := Lib.hid (below_then HB2.out hk)
        have PM3 := Lib.hid (PM2.out.then_ hk)
        clear k0 k1 k2 k3 k4 k5 lP
        obtain ⟨k0, k1, k2, k3, k4, k5⟩ := pfCells (GP3.out)
        have lP := (GP3.out).lt
        clear hg sg hk HDF GP2 HB2 PM2
        have hne : (((outD p K).length : Int) != p.n) = false := by simp [hL]
        obtain ⟨D, hD⟩ : ∃ D, outD p K = D := ⟨_, rfl⟩
        have HOV : Hid (∀ (k : Nat) (x : Bool) (W : World), D[k]? = some x → Below w3.heap.size w3 W → Calls Try.prog 15 #[.agg (pfA p m), .int .i64 k, .slice A D.length c] W fun e w' => e = .returned (.tuple #[.bool x, .bool true]) ∧ Below W.heap.size W w') := fun k x W hx hW => by
          subst hD
          exact over_out p m HV.out HK.out hx A c W (PM3.out.then_ hW) ((SG.out.below hW).more hW.size)
        rw [hD] at hne hL SG ⊢
        have HLD := Lib.hid hL
        clear hD hL
        go_upto_region 10 with (fail)
        go_loopw [6] (fun x WR => ∃ k : Nat, k ≤ D.length ∧ x = .int .i64 k ∧ Below w3.heap.size w3 WR) (fun x _ => 2000 - (intOf x).toNat)
        case atStart => exact ⟨0, by omega, rfl, Below.refl _ _⟩
        case round =>
          obtain ⟨k, hk, rfl, hbr⟩ := hrel
          have HBR := Lib.hid hbr
          have hkb : k < 13 := by have := HLD.out; omega
          by_cases hlt : k < D.length
          · obtain ⟨x, hx⟩ : ∃ x, D[k]? = some x := ⟨_, List.getElem?_eq_getElem hlt⟩
            have HO := Lib.hid (HOV.out k x wr hx hbr)
            have HXX := Lib.hid hx
            obtain ⟨b1, o1, ea, _, _⟩ := segB (SG.out.below hbr) hx
            have HEA := Lib.hid ea
            rw [ea] at HO ⊢
            clear hx ea
            clear k0 k1 k2 k3 k4 k5 lP
            obtain ⟨k0, k1, k2, k3, k4, k5⟩ := pfCells (GP3.out.then_ hbr)
            have lP := (GP3.out.then_ hbr).lt
            go_upto_region 13 with (go_at_call 15; (with_reducible refine HO.out.mono ?_); rintro e w4 ⟨rfl, hk⟩)
            have hb4 := below_then HBR.out hk
            obtain ⟨b2, o2, eb, hb1, x0⟩ := segB (SG.out.below hb4) HXX.out
            have hbl1 : b2 < w4.heap.size := Nat.lt_of_lt_of_le hb1 hb4.size
            rw [HEA.out] at eb
            cases eb
            have HB4 := Lib.hid hb4
            clear hb4 hk HO HXX HEA
            cases x
            all_goals
              go_wp2
              go_roundw
              case rel => exact ⟨k + 1, by omega, by go_num, HB4.out⟩
              case measure => simp [intOf]; omega
          · clear k0 k1 k2 k3 k4 k5 lP
            go_wp2
            go_ret
            exact ⟨rfl, below_then HB3.out HBR.out⟩
      · have HDF := Lib.hid (defaults_no p m w2 HV.out PM2.out hK)
        have HCV := Lib.hid (fun W (hW : Below w2.heap.size w2 W) => cvalid_any p m W HF.out (PM2.out.then_ hW))
        rw [hv] at HCV
        clear hv hK
        have GP := GP2
        have hz := Lib.hid (Below.refl w2.heap.size w2)
        go_wp2_with (first | (go_at_call 13; (with_reducible refine HDF.out.mono ?_); rintro e w3 ⟨rfl, hk⟩; replace hz := Lib.hid hk; clear hk; clear k0 k1 k2 k3 k4 k5 lP; obtain ⟨k0, k1, k2, k3, k4, k5⟩ := (pfCells (GP.out.then_ hz.out)); have lP := (GP.out.then_ hz.out).lt) | (go_at_call 14; (with_reducible refine (HCV.out _ hz.out).mono ?_); rintro e w3 ⟨rfl, hk⟩; replace hz := Lib.hid (below_then hz.out hk); have kk := (pfCells (GP.out.then_ hz.out)); clear k0 k1 k2 k3 k4 k5 lP; obtain ⟨k0, k1, k2, k3, k4, k5⟩ := kk; have lP := (GP.out.then_ hz.out).lt; clear hk))
        go_ret
        exact ⟨rfl, below_then HB2.out hz.out⟩
    · have HDF := Lib.hid (defs_bad p m w2 HF.out PM2.out hv)
      have HCV := Lib.hid (fun W (hW : Below w2.heap.size w2 W) => cvalid_any p m W HF.out (PM2.out.then_ hW))
      rw [hv] at HCV
      clear hv
      have GP := GP2
      have hz := Lib.hid (Below.refl w2.heap.size w2)
      go_wp2_with (first | (go_at_call 13; (with_reducible refine HDF.out.mono ?_); rintro e w3 ⟨rfl, hk⟩; replace hz := Lib.hid hk; clear hk; clear k0 k1 k2 k3 k4 k5 lP; obtain ⟨k0, k1, k2, k3, k4, k5⟩ := (pfCells (GP.out.then_ hz.out)); have lP := (GP.out.then_ hz.out).lt) | (go_at_call 14; (with_reducible refine (HCV.out _ hz.out).mono ?_); rintro e w3 ⟨rfl, hk⟩; replace hz := Lib.hid (below_then hz.out hk); have kk := (pfCells (GP.out.then_ hz.out)); clear k0 k1 k2 k3 k4 k5 lP; obtain ⟨k0, k1, k2, k3, k4, k5⟩ := kk; have lP := (GP.out.then_ hz.out).lt; clear hk))
      go_ret
      exact ⟨rfl, below_then HB2.out hz.out⟩
  · rw [hf] at HFW
    clear hf
    have hz := Lib.hid (Below.refl w1.heap.size w1)
    go_wp2_with (go_at_call 12; (with_reducible refine (HFW.out _).mono ?_); rintro e w2 ⟨rfl, hk⟩; replace hz := Lib.hid (below_then hz.out hk); have kk := (pfCells (GP.out.then_ hz.out)); clear k0 k1 k2 k3 k4 k5 lP; obtain ⟨k0, k1, k2, k3, k4, k5⟩ := kk; have lP := (GP.out.then_ hz.out).lt; clear hk)
    go_ret
    exact ⟨rfl, below_then HB1.out hz.out⟩
end Go.Proofs.Yteoicnhnpailiaa
