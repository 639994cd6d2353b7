/- The walk of CascadeCalm: true at every portfolio. -/
import Derived.Test.YteoicnhnpailiaaCf1
import Derived.Test.YteoicnhnpailiaaCe0
namespace Go.Proofs.Yteoicnhnpailiaa
open Go.RowKit Go.Sort Go.Maps

/-- the portfolio's cells with one list left away -/
theorem pf_calm (p : Pf) (m : Ms) : (pfA p m).setIfInBounds 2 (.slice none 0 0) = pfA (calm p) (msN m none 0) := by
  simp only [pfA, calm, List.setIfInBounds_toArray, List.set_cons_zero, List.set_cons_succ]; rfl
set_option maxRecDepth 100000 in
set_option maxHeartbeats 3200000 in
theorem calm_any (p : Pf) (m : Ms) (w : World) (hm : Pm w p m) (hl : Lp p) (hn : -9223372036854775808 ≤ p.n ∧ p.n ≤ 9223372036854775807) (ha : ∀ a ∈ p.as, fitA a) (hd : ∀ x ∈ p.du, fitD x) (hla : ∀ x ∈ p.la, fitD x) :
    Calls Try.prog 9 #[.agg (pfA p m)] w fun e w' => e = .returned (.bool true) ∧ Below w.heap.size w w' := by
  have HM := Lib.hid hm
  have HFP := Lib.hid (fun hf => fp_few hl hn ha hd hla (k := 40) (by omega) hf)
  have HFW : Hid (∀ W : World, Calls Try.prog 12 #[.agg (pfA p m), .int .i64 40] W fun e w' => e = .returned (.bool (fewP p 40)) ∧ Below W.heap.size W w') := fun W => few_any p m 40 W (by omega) hl
  have HM0 := Lib.hid hm
  clear hm hl hn ha hd hla
  go_enter Try.func9, Try.ntmps9
  go_upto_region 1 with (fail)
  refine name_wp ?_
  intro X hX
  have gP0 : Blk X w.heap.size 27 (pfA p m) := by rw [hX]; exact Blk.new _ _ _
  have hbX : Below w.heap.size w X := by rw [hX]; exact wa1 _ _
  obtain ⟨bP, e0⟩ : ∃ b, w.heap.size = b := ⟨_, rfl⟩
  have hbP : Hid (w.heap.size ≤ bP) := Nat.le_of_eq e0
  rw [e0] at gP0 ⊢
  have GP0 := Lib.hid gP0
  have HX := Lib.hid hbX
  clear hX gP0 hbX e0
  go_upto_region 2 with (go_at_call 11; (with_reducible refine (head_any _).mono ?_); rintro e w1 ⟨rfl, hk⟩)
  have GP := Lib.hid (GP0.out.then_ hk)
  have HB1 := Lib.hid (below_then HX.out hk)
  clear hk GP0 HX
  obtain ⟨k0, k1, k2, k3, k4, k5⟩ := pfCells GP.out
  have lP := GP.out.lt
  rcases hbb (fewP p 40) with hf | hf
  · have HF := Lib.hid (HFP.out hf)
    have HCV := Lib.hid (fun W (hW : Below w1.heap.size w1 W) => cvalid_any p m W HF.out ((HM.out.then_ HB1.out).then_ hW))
    rw [hf] at HFW
    clear hf
    have hz := Lib.hid (Below.refl w1.heap.size w1)
    rcases hbb (vldP p) with hv | hv
    · have HV := Lib.hid (vldP_of hv)
      rw [hv] at HCV
      clear hv
      go_upto_region 4 with (first | (go_at_call 12; (with_reducible refine (HFW.out _).mono ?_); rintro e w2 ⟨rfl, hk⟩; replace hz := Lib.hid (below_then hz.out hk); have kk := (pfCells (GP.out.then_ hz.out)); clear k0 k1 k2 k3 k4 k5 lP; obtain ⟨k0, k1, k2, k3, k4, k5⟩ := kk; have lP := (GP.out.then_ hz.out).lt; clear hk) | (go_at_call 14; (with_reducible refine (HCV.out _ hz.out).mono ?_); rintro e w3 ⟨rfl, hk⟩; replace hz := Lib.hid (below_then hz.out hk); have kk := (pfCells (GP.out.then_ hz.out)); clear k0 k1 k2 k3 k4 k5 lP; obtain ⟨k0, k1, k2, k3, k4, k5⟩ := kk; have lP := (GP.out.then_ hz.out).lt; clear hk))
      have GP3 := Lib.hid (GP.out.then_ hz.out)
      have HB3 := Lib.hid (below_then HB1.out hz.out)
      have PM3 := Lib.hid (HM.out.then_ HB3.out)
      have n12 := HV.out.n12
      have n1 := HV.out.n1
      clear hz GP HB1 HFW HFP HCV HM
      have fz : w3.frozen? ⟨bP, 2, none⟩ = false := GP3.out.frozen 2
      go_upto_region 5 with (fail)
      refine name_wp ?_
      intro Y hY
      have GY : Hid (Blk Y bP 27 (pfA (calm p) (msN m none 0))) := by
        rw [hY, ← pf_calm]; exact GP3.out.set_ 2 _
      have HBY : Hid (Below w.heap.size w Y) := by rw [hY]; exact HB3.out.setCell (p := ⟨bP, 2, none⟩) hbP.out _
      have PMY : Hid (Pm Y (calm p) (msN m none 0)) := by
        have := HM0.out.then_ HBY.out
        exact ⟨this.s1, Seg.nil _ _ _ _ _, this.s3, this.s4, this.s5⟩
      have HK := (calm_law HV.out (K := 0)).1
      have HDF := Lib.hid (defaults_ok (calm p) (msN m none 0) Y HV.out.calm PMY.out HK)
      have hL : ((outD (calm p) 0).length : Int) = p.n := outD_len HV.out.calm 0
      have HZ : Hid (∀ (k : Nat) (x : Bool), (outD (calm p) 0)[k]? = some x → x = false) := fun k x hx => by
        rw [← has_of hx, has_outD HV.out.calm, show Dk (calm p) 0 = List.replicate 12 false from rfl, has_0]
      obtain ⟨D, hD⟩ : ∃ D, outD (calm p) 0 = D := ⟨_, rfl⟩
      rw [hD] at HDF HZ hL
      have hne : ((D.length : Int) != (calm p).n) = false := by
        have e : (calm p).n = p.n := rfl
        rw [e]; simp [hL]
      have HLD := Lib.hid hL
      clear hY hD HK PMY PM3 GP3 HB3 hL
      clear k0 k1 k2 k3 k4 k5 lP
      obtain ⟨k0, k1, k2, k3, k4, k5⟩ := pfCells (GY.out)
      have lP := (GY.out).lt
      go_upto_region 6 with (go_at_call 13; (with_reducible refine HDF.out.mono ?_); rintro e w4 ⟨⟨v, rfl, hg⟩, hk⟩)
      obtain ⟨A, c, rfl, _, sg⟩ := Own.seg hg encB_len
      have SG := Lib.hid sg
      have GP4 := Lib.hid (GY.out.then_ hk)
      have HB4 := Lib.hid (below_then HBY.out hk)
      clear k0 k1 k2 k3 k4 k5 lP
      obtain ⟨k0, k1, k2, k3, k4, k5⟩ := pfCells (GP4.out)
      have lP := (GP4.out).lt
      clear hg sg hk HDF HBY GY
      go_upto_region 9 with (fail)
      go_loopw [6] (fun x WR => ∃ k : Nat, k ≤ D.length ∧ x = .int .i64 k ∧ Below w4.heap.size w4 WR) (fun x _ => 2000 - (intOf x).toNat)
      case atStart => exact ⟨0, by omega, rfl, Below.refl _ _⟩
      case round =>
        obtain ⟨k, hk, rfl, hbr⟩ := hrel
        have HBR := Lib.hid hbr
        have hkb : k < 13 := by have := HLD.out; omega
        clear k0 k1 k2 k3 k4 k5 lP
        by_cases hlt : k < D.length
        · obtain ⟨x, hx⟩ : ∃ x, D[k]? = some x := ⟨_, List.getElem?_eq_getElem hlt⟩
          obtain rfl := HZ.out k x hx
          obtain ⟨b1, o1, ea, hb1, x0⟩ := segB (SG.out.below hbr) hx
          have hbl1 : b1 < wr.heap.size := Nat.lt_of_lt_of_le hb1 hbr.size
          rw [ea]
          clear hx ea hbr
          go_wp2
          go_roundw
          case rel => exact ⟨k + 1, by omega, by go_num, HBR.out⟩
          case measure => simp [intOf]; omega
        · go_wp2
          go_ret
          exact ⟨rfl, below_then HB4.out HBR.out⟩
    · rw [hv] at HCV
      clear hv
      go_wp2_with (first | (go_at_call 12; (with_reducible refine (HFW.out _).mono ?_); rintro e w2 ⟨rfl, hk⟩; replace hz := Lib.hid (below_then hz.out hk); have kk := (pfCells (GP.out.then_ hz.out)); clear k0 k1 k2 k3 k4 k5 lP; obtain ⟨k0, k1, k2, k3, k4, k5⟩ := kk; have lP := (GP.out.then_ hz.out).lt; clear hk) | (go_at_call 14; (with_reducible refine (HCV.out _ hz.out).mono ?_); rintro e w3 ⟨rfl, hk⟩; replace hz := Lib.hid (below_then hz.out hk); have kk := (pfCells (GP.out.then_ hz.out)); clear k0 k1 k2 k3 k4 k5 lP; obtain ⟨k0, k1, k2, k3, k4, k5⟩ := kk; have lP := (GP.out.then_ hz.out).lt; clear hk))
      go_ret
      exact ⟨rfl, below_then HB1.out hz.out⟩
  · rw [hf] at HFW
    clear hf
    have hz := Lib.hid (Below.refl w1.heap.size w1)
    go_wp2_with (go_at_call 12; (with_reducible refine (HFW.out _).mono ?_); rintro e w2 ⟨rfl, hk⟩; replace hz := Lib.hid (below_then hz.out hk); have kk := (pfCells (GP.out.then_ hz.out)); clear k0 k1 k2 k3 k4 k5 lP; obtain ⟨k0, k1, k2, k3, k4, k5⟩ := kk; have lP := (GP.out.then_ hz.out).lt; clear hk)
    go_ret
    exact ⟨rfl, below_then HB1.out hz.out⟩
end Go.Proofs.Yteoicnhnpailiaa
