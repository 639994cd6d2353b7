/- The walk of CascadeMore: true at every portfolio, party, two sets and further assets. -/
import Derived.Test.YteoicnhnpailiaaCe7
import Derived.Test.YteoicnhnpailiaaCe0
namespace Go.Proofs.Yteoicnhnpailiaa
open Go.RowKit Go.Sort Go.Maps

abbrev msG (m : Ms) (A : Option Addr) (c : Nat) : Ms := ⟨A, c, m.a2, m.c2, m.a3, m.c3, m.a4, m.c4, m.a5, m.c5⟩
theorem pf_clone (p : Pf) (m : Ms) (A : Option Addr) (c : Nat) : (pfA p m).setIfInBounds 1 (.slice A p.as.length c) = pfA p (msG m A c) := by
  simp only [pfA, List.setIfInBounds_toArray, List.set_cons_zero, List.set_cons_succ]
theorem cmp3 (q r : Rat) {x : Bool} (h : x = decide (r < q)) : (x = true ∧ cmpN q r = 1) ∨ (x = false ∧ cmpN q r = 0) ∨ (x = false ∧ cmpN q r = -1) := by
  subst h
  unfold cmpN
  by_cases h1 : q < r
  · exact .inr (.inr ⟨by simp [Rat.not_lt.2 (Rat.le_of_lt h1)], by simp [h1]⟩)
  · by_cases h2 : r < q
    · exact .inl ⟨by simp [h2], by simp [h1, h2]⟩
    · exact .inr (.inl ⟨by simp [h2], by simp [h1, h2]⟩)
theorem in3 (l : List Bool) (k : Nat) : (k < l.length ∧ l[k]? = some true) ∨ (k < l.length ∧ l[k]? = some false) ∨ ¬ k < l.length := by
  by_cases h : k < l.length
  · cases hx : l[k] with
    | true => exact .inl ⟨h, by rw [List.getElem?_eq_getElem h, hx]⟩
    | false => exact .inr (.inl ⟨h, by rw [List.getElem?_eq_getElem h, hx]⟩)
  · exact .inr (.inr h)
theorem step_uv {U V : List Bool} {N k : Nat} (hU : U.length = N) (hV : V.length = N) (hk : k < N) (h : ∀ i, i < k → U[i]? = some true → V[i]? = some true) {u v : Bool} (huv : u = true → v = true) : ∀ i, i < k + 1 → (U.set k u)[i]? = some true → (V.set k v)[i]? = some true := fun i hi hs => by
  by_cases hik : k = i
  · subst hik
    rw [List.getElem?_set_self (by omega)] at hs ⊢
    cases hs
    rw [huv rfl]
  · rw [List.getElem?_set_ne hik] at hs ⊢
    exact h i (by omega) hs
set_option maxRecDepth 100000 in
set_option maxHeartbeats 3200000 in
theorem more_any (p : Pf) (m : Ms) (pa : Int) (l1 l2 : List Bool) (xt : Int) (A1 A2 : Option Addr) (c1 c2 : Nat) (w : World) (hm : Pm w p m) (hl : Lp p) (hn : -9223372036854775808 ≤ p.n ∧ p.n ≤ 9223372036854775807) (ha : ∀ a ∈ p.as, fitA a) (hd : ∀ x ∈ p.du, fitD x) (hla : ∀ x ∈ p.la, fitD x) (hs1 : Seg w w.heap.size 1 encB A1 l1) (hs2 : Seg w w.heap.size 1 encB A2 l2) (hpa : -9223372036854775808 ≤ pa ∧ pa ≤ 9223372036854775807) (hxt : 0 ≤ xt ∧ xt ≤ 65535) :
    Calls Try.prog 6 #[.agg (pfA p m), .int .i64 pa, .slice A1 l1.length c1, .slice A2 l2.length c2, .int .u16 xt] w fun e w' => e = .returned (.bool true) ∧ Below w.heap.size w w' := by
  have HM := Lib.hid hm
  have HS1 := Lib.hid hs1
  have HS2 := Lib.hid hs2
  have HPA := Lib.hid hpa
  have HXT := Lib.hid hxt
  have HFP := Lib.hid (fun hf => fp_few hl hn ha hd hla (k := 40) (by omega) hf)
  have HFW : Hid (∀ W : World, Calls Try.prog 12 #[.agg (pfA p m), .int .i64 40] W fun e w' => e = .returned (.bool (fewP p 40)) ∧ Below W.heap.size W w') := fun W => few_any p m 40 W (by omega) hl
  clear hm hl hn ha hd hla hs1 hs2 hpa hxt
  go_enter Try.func6, Try.ntmps6
  go_upto_region 1 with (fail)
  refine name_wp ?_
  intro X hX
  have gP0 : Blk X w.heap.size 27 (pfA p m) := by rw [hX]; exact Blk.new _ _ _
  have hbX : Below w.heap.size w X := by rw [hX]; exact wa1 _ _
  obtain ⟨bP, e0⟩ : ∃ b, w.heap.size = b := ⟨_, rfl⟩
  have hbP : Hid (w.heap.size ≤ bP) := Nat.le_of_eq e0
  rw [e0] at gP0 ⊢
  have GP0 := Lib.hid gP0
  have HX := Lib.hid hbX
  clear hX gP0 hbX e0
  go_upto_region 2 with (go_at_call 11; (with_reducible refine (head_any _).mono ?_); rintro e w1 ⟨rfl, hk⟩)
  have GP := Lib.hid (GP0.out.then_ hk)
  have HB1 := Lib.hid (below_then HX.out hk)
  clear hk GP0 HX
  obtain ⟨k0, k1, k2, k3, k4, k5⟩ := pfCells GP.out
  have lP := GP.out.lt
  rcases hbb (fewP p 40) with hf | hf
  · have HF := Lib.hid (HFP.out hf)
    have HCV := Lib.hid (fun W (hW : Below w1.heap.size w1 W) => cvalid_any p m W HF.out ((HM.out.then_ HB1.out).then_ hW))
    rw [hf] at HFW
    clear hf
    have hz := Lib.hid (Below.refl w1.heap.size w1)
    by_cases h20 : 20 < l1.length
    · have h20' : decide (20 < l1.length) = true := by simp [h20]
      go_wp2_with (first | (go_at_call 12; (with_reducible refine (HFW.out _).mono ?_); rintro e w2 ⟨rfl, hk⟩; replace hz := Lib.hid (below_then hz.out hk); have kk := (pfCells (GP.out.then_ hz.out)); clear k0 k1 k2 k3 k4 k5 lP; obtain ⟨k0, k1, k2, k3, k4, k5⟩ := kk; have lP := (GP.out.then_ hz.out).lt; clear hk) | (go_at_call 14; (with_reducible refine (HCV.out _ hz.out).mono ?_); rintro e w3 ⟨rfl, hk⟩; replace hz := Lib.hid (below_then hz.out hk); have kk := (pfCells (GP.out.then_ hz.out)); clear k0 k1 k2 k3 k4 k5 lP; obtain ⟨k0, k1, k2, k3, k4, k5⟩ := kk; have lP := (GP.out.then_ hz.out).lt; clear hk))
      go_ret
      exact ⟨rfl, below_then HB1.out hz.out⟩
    have h20' : decide (20 < l1.length) = false := by simp; omega
    by_cases h21 : 20 < l2.length
    · have h21' : decide (20 < l2.length) = true := by simp [h21]
      go_wp2_with (first | (go_at_call 12; (with_reducible refine (HFW.out _).mono ?_); rintro e w2 ⟨rfl, hk⟩; replace hz := Lib.hid (below_then hz.out hk); have kk := (pfCells (GP.out.then_ hz.out)); clear k0 k1 k2 k3 k4 k5 lP; obtain ⟨k0, k1, k2, k3, k4, k5⟩ := kk; have lP := (GP.out.then_ hz.out).lt; clear hk) | (go_at_call 14; (with_reducible refine (HCV.out _ hz.out).mono ?_); rintro e w3 ⟨rfl, hk⟩; replace hz := Lib.hid (below_then hz.out hk); have kk := (pfCells (GP.out.then_ hz.out)); clear k0 k1 k2 k3 k4 k5 lP; obtain ⟨k0, k1, k2, k3, k4, k5⟩ := kk; have lP := (GP.out.then_ hz.out).lt; clear hk))
      go_ret
      exact ⟨rfl, below_then HB1.out hz.out⟩
    have h21' : decide (20 < l2.length) = false := by simp; omega
    rcases hbb (vldP p) with hv | hv
    · have HV := Lib.hid (vldP_of hv)
      rw [hv] at HCV
      clear hv
      by_cases hp0 : pa < 0
      · have hp0' : decide (pa < 0) = true := by simp [hp0]
        go_wp2_with (first | (go_at_call 12; (with_reducible refine (HFW.out _).mono ?_); rintro e w2 ⟨rfl, hk⟩; replace hz := Lib.hid (below_then hz.out hk); have kk := (pfCells (GP.out.then_ hz.out)); clear k0 k1 k2 k3 k4 k5 lP; obtain ⟨k0, k1, k2, k3, k4, k5⟩ := kk; have lP := (GP.out.then_ hz.out).lt; clear hk) | (go_at_call 14; (with_reducible refine (HCV.out _ hz.out).mono ?_); rintro e w3 ⟨rfl, hk⟩; replace hz := Lib.hid (below_then hz.out hk); have kk := (pfCells (GP.out.then_ hz.out)); clear k0 k1 k2 k3 k4 k5 lP; obtain ⟨k0, k1, k2, k3, k4, k5⟩ := kk; have lP := (GP.out.then_ hz.out).lt; clear hk))
        go_ret
        exact ⟨rfl, below_then HB1.out hz.out⟩
      have hp0' : decide (pa < 0) = false := by simp; omega
      by_cases hp1 : p.n ≤ pa
      · have hp1' : decide (p.n ≤ pa) = true := by simp [hp1]
        go_wp2_with (first | (go_at_call 12; (with_reducible refine (HFW.out _).mono ?_); rintro e w2 ⟨rfl, hk⟩; replace hz := Lib.hid (below_then hz.out hk); have kk := (pfCells (GP.out.then_ hz.out)); clear k0 k1 k2 k3 k4 k5 lP; obtain ⟨k0, k1, k2, k3, k4, k5⟩ := kk; have lP := (GP.out.then_ hz.out).lt; clear hk) | (go_at_call 14; (with_reducible refine (HCV.out _ hz.out).mono ?_); rintro e w3 ⟨rfl, hk⟩; replace hz := Lib.hid (below_then hz.out hk); have kk := (pfCells (GP.out.then_ hz.out)); clear k0 k1 k2 k3 k4 k5 lP; obtain ⟨k0, k1, k2, k3, k4, k5⟩ := kk; have lP := (GP.out.then_ hz.out).lt; clear hk))
        go_ret
        exact ⟨rfl, below_then HB1.out hz.out⟩
      have hp1' : decide (p.n ≤ pa) = false := by simp; omega
      go_upto_region 4 with (first | (go_at_call 12; (with_reducible refine (HFW.out _).mono ?_); rintro e w2 ⟨rfl, hk⟩; replace hz := Lib.hid (below_then hz.out hk); have kk := (pfCells (GP.out.then_ hz.out)); clear k0 k1 k2 k3 k4 k5 lP; obtain ⟨k0, k1, k2, k3, k4, k5⟩ := kk; have lP := (GP.out.then_ hz.out).lt; clear hk) | (go_at_call 14; (with_reducible refine (HCV.out _ hz.out).mono ?_); rintro e w3 ⟨rfl, hk⟩; replace hz := Lib.hid (below_then hz.out hk); have kk := (pfCells (GP.out.then_ hz.out)); clear k0 k1 k2 k3 k4 k5 lP; obtain ⟨k0, k1, k2, k3, k4, k5⟩ := kk; have lP := (GP.out.then_ hz.out).lt; clear hk))
      have GP3 := Lib.hid (GP.out.then_ hz.out)
      have HB3 := Lib.hid (below_then HB1.out hz.out)
      have PM3 := Lib.hid (HM.out.then_ HB3.out)
      have S13 := Lib.hid ((HS1.out.below HB3.out).more HB3.out.size)
      have S23 := Lib.hid ((HS2.out.below HB3.out).more HB3.out.size)
      have n12 := HV.out.n12
      have n1 := HV.out.n1
      have hmk := mk_any p.n n1 n12
      clear hz GP HB1 HFW HFP HCV HM HS1 HS2 h20 h20' h21 h21' hp0' hp1' HPA
      obtain ⟨N, hN⟩ := Int.eq_ofNat_of_zero_le (show 0 ≤ p.n by omega)
      have HN := Lib.hid hN
      have hN2 : p.n.toNat = N := by omega
      have hN12 : N ≤ 12 := by omega
      obtain ⟨q, rfl⟩ := Int.eq_ofNat_of_zero_le (show 0 ≤ pa by omega)
      have hqN : q < N := by omega
      have hqn : (q : Int) < p.n := by omega
      rw [hN2] at hmk
      clear hN hN2 hp0 hp1
      go_upto_region 5 with (fail)
      refine name_wp ?_
      intro X4 hX4
      have e4 : ((List.replicate N false).map Value.bool).toArray = Array.replicate N (.bool false) := by simp
      have gs : Sb X4 w3.heap.size (List.replicate N false) := by rw [hX4]; unfold Sb; rw [e4]; exact Blk.new _ _ _
      have hb4 : Below w3.heap.size w3 X4 := by rw [hX4]; exact wa1 _ _
      obtain ⟨bS, eS⟩ : ∃ b, w3.heap.size = b := ⟨_, rfl⟩
      have hbS : Hid (w3.heap.size ≤ bS) := Nat.le_of_eq eS
      rw [eS] at gs ⊢
      have GS := Lib.hid gs
      have HB4 := Lib.hid hb4
      clear hX4 gs hb4 eS
      clear k0 k1 k2 k3 k4 k5 lP
      obtain ⟨k0, k1, k2, k3, k4, k5⟩ := pfCells (GP3.out.then_ HB4.out)
      have lP := (GP3.out.then_ HB4.out).lt
      go_upto_region 7 with (fail)
      refine name_wp ?_
      intro X5 hX5
      have gb : Sb X5 X4.heap.size (List.replicate N false) := by rw [hX5]; unfold Sb; rw [e4]; exact Blk.new _ _ _
      have hb5 : Below X4.heap.size X4 X5 := by rw [hX5]; exact wa1 _ _
      have nSB := Nat.ne_of_lt GS.out.lt
      have hbB0 : w3.heap.size ≤ X4.heap.size := HB4.out.size
      obtain ⟨bB, eB⟩ : ∃ b, X4.heap.size = b := ⟨_, rfl⟩
      rw [eB] at gb nSB hbB0 ⊢
      have GB := Lib.hid gb
      have HBB := Lib.hid hbB0
      have NSB := Lib.hid nSB
      have GS5 := Lib.hid (show Sb X5 bS (List.replicate N false) from GS.out.then_ hb5)
      have HB5 := Lib.hid (below_then HB4.out hb5)
      clear hX5 gb hb5 eB nSB hbB0 GS HB4 hmk e4 k0 k1 k2 k3 k4 k5 lP
      go_loopw [14] (fun x WR => ∃ (k : Nat) (U V : List Bool), x = .int .i64 k ∧ k ≤ N ∧ Hid (U.length = N ∧ V.length = N ∧ Sb WR bS U ∧ Sb WR bB V ∧ Below w3.heap.size w3 WR ∧ ∀ i, i < k → U[i]? = some true → V[i]? = some true)) (fun x _ => 2000 - (intOf x).toNat)
      case atStart => exact ⟨0, _, _, rfl, by omega, by simp, by simp, GS5.out, GB.out, HB5.out, fun i hi => by omega⟩
      case round =>
        obtain ⟨k, U, V, rfl, hk, hh⟩ := hrel
        have HH := hh
        obtain ⟨hUl, hVl, hU, hV, hbr, _⟩ := hh.out
        have HU := Lib.hid hU
        have HW := Lib.hid hV
        have HBR := Lib.hid hbr
        obtain ⟨k0, k1, k2, k3, k4, k5⟩ := pfCells (GP3.out.then_ hbr)
        have lP := (GP3.out.then_ hbr).lt
        by_cases hkN : k < N
        · have hkn : (k : Int) < p.n := by have := HN.out; omega
          obtain ⟨u, hu⟩ : ∃ u, U[k]? = some u := ⟨_, List.getElem?_eq_getElem (by omega)⟩
          obtain ⟨v, hv⟩ : ∃ v, V[k]? = some v := ⟨_, List.getElem?_eq_getElem (by omega)⟩
          have u0 := hU.at_ hu
          have v0 := hV.at_ hv
          have fu : wr.frozen? ⟨bS, k, none⟩ = false := hU.frozen k
          have fv : wr.frozen? ⟨bB, k, none⟩ = false := hV.frozen k
          have lU := hU.lt
          have lV := hV.lt
          have hnSB := NSB.out
          clear hh hUl hVl hU hV hu hv
          rcases in3 l1 k with ⟨h1, hx⟩ | ⟨h1, hx⟩ | h1
          · have h1' : decide (k < l1.length) = true := by simp [h1]
            obtain ⟨b1, o1, e1, hb1, x0⟩ := segB (S13.out.below hbr) hx
            subst e1
            have hbl1 : b1 < wr.heap.size := Nat.lt_of_lt_of_le hb1 hbr.size
            rcases in3 l2 k with ⟨h2, hy⟩ | ⟨h2, hy⟩ | h2
            · have h2' : decide (k < l2.length) = true := by simp [h2]
              obtain ⟨b2, o2, e2, hb2, y0⟩ := segB (S23.out.below hbr) hy
              subst e2
              have hbl2 : b2 < wr.heap.size := Nat.lt_of_lt_of_le hb2 hbr.size
              have y1 : ∀ z, (wr.setCell ⟨bS, k, none⟩ z).cell? ⟨b2, o2 + k, none⟩ = some (.bool true) := fun z => by
                obtain ⟨b3, o3, e3, _, y3⟩ := segB (S23.out.below (hbr.setCell (p := ⟨bS, k, none⟩) hbS.out z)) hy
                cases e3; exact y3
              go_wp2
              go_roundw
              case rel => exact ⟨k + 1, _, _, by go_num, by omega, by rw [List.length_set]; exact HH.out.1, by rw [List.length_set]; exact HH.out.2.1, (Sb.put HU.out k _).far (p := ⟨bB, k, none⟩) NSB.out _, Sb.put (HW.out.far (p := ⟨bS, k, none⟩) NSB.out.symm _) k _, (HBR.out.setCell (p := ⟨bS, k, none⟩) hbS.out _).setCell (p := ⟨bB, k, none⟩) HBB.out _, step_uv HH.out.1 HH.out.2.1 hkN HH.out.2.2.2.2.2 (by decide)⟩
              case measure => simp [intOf]; omega
            · have h2' : decide (k < l2.length) = true := by simp [h2]
              obtain ⟨b2, o2, e2, hb2, y0⟩ := segB (S23.out.below hbr) hy
              subst e2
              have hbl2 : b2 < wr.heap.size := Nat.lt_of_lt_of_le hb2 hbr.size
              have y1 : ∀ z, (wr.setCell ⟨bS, k, none⟩ z).cell? ⟨b2, o2 + k, none⟩ = some (.bool false) := fun z => by
                obtain ⟨b3, o3, e3, _, y3⟩ := segB (S23.out.below (hbr.setCell (p := ⟨bS, k, none⟩) hbS.out z)) hy
                cases e3; exact y3
              go_wp2
              go_roundw
              case rel => exact ⟨k + 1, _, _, by go_num, by omega, by rw [List.length_set]; exact HH.out.1, by rw [List.length_set]; exact HH.out.2.1, (Sb.put HU.out k _).far (p := ⟨bB, k, none⟩) NSB.out _, Sb.put (HW.out.far (p := ⟨bS, k, none⟩) NSB.out.symm _) k _, (HBR.out.setCell (p := ⟨bS, k, none⟩) hbS.out _).setCell (p := ⟨bB, k, none⟩) HBB.out _, step_uv HH.out.1 HH.out.2.1 hkN HH.out.2.2.2.2.2 (by decide)⟩
              case measure => simp [intOf]; omega
            · have h2' : decide (k < l2.length) = false := by simp; omega
              go_wp2
              go_roundw
              case rel => exact ⟨k + 1, _, _, by go_num, by omega, by rw [List.length_set]; exact HH.out.1, by rw [List.length_set]; exact HH.out.2.1, (Sb.put HU.out k _).far (p := ⟨bB, k, none⟩) NSB.out _, Sb.put (HW.out.far (p := ⟨bS, k, none⟩) NSB.out.symm _) k _, (HBR.out.setCell (p := ⟨bS, k, none⟩) hbS.out _).setCell (p := ⟨bB, k, none⟩) HBB.out _, step_uv HH.out.1 HH.out.2.1 hkN HH.out.2.2.2.2.2 (by decide)⟩
              case measure => simp [intOf]; omega
          · have h1' : decide (k < l1.length) = true := by simp [h1]
            obtain ⟨b1, o1, e1, hb1, x0⟩ := segB (S13.out.below hbr) hx
            subst e1
            have hbl1 : b1 < wr.heap.size := Nat.lt_of_lt_of_le hb1 hbr.size
            rcases in3 l2 k with ⟨h2, hy⟩ | ⟨h2, hy⟩ | h2
            · have h2' : decide (k < l2.length) = true := by simp [h2]
              obtain ⟨b2, o2, e2, hb2, y0⟩ := segB (S23.out.below hbr) hy
              subst e2
              have hbl2 : b2 < wr.heap.size := Nat.lt_of_lt_of_le hb2 hbr.size
              have y1 : ∀ z, (wr.setCell ⟨bS, k, none⟩ z).cell? ⟨b2, o2 + k, none⟩ = some (.bool true) := fun z => by
                obtain ⟨b3, o3, e3, _, y3⟩ := segB (S23.out.below (hbr.setCell (p := ⟨bS, k, none⟩) hbS.out z)) hy
                cases e3; exact y3
              go_wp2
              go_roundw
              case rel => exact ⟨k + 1, _, _, by go_num, by omega, by rw [List.length_set]; exact HH.out.1, by rw [List.length_set]; exact HH.out.2.1, (Sb.put HU.out k _).far (p := ⟨bB, k, none⟩) NSB.out _, Sb.put (HW.out.far (p := ⟨bS, k, none⟩) NSB.out.symm _) k _, (HBR.out.setCell (p := ⟨bS, k, none⟩) hbS.out _).setCell (p := ⟨bB, k, none⟩) HBB.out _, step_uv HH.out.1 HH.out.2.1 hkN HH.out.2.2.2.2.2 (by decide)⟩
              case measure => simp [intOf]; omega
            · have h2' : decide (k < l2.length) = true := by simp [h2]
              obtain ⟨b2, o2, e2, hb2, y0⟩ := segB (S23.out.below hbr) hy
              subst e2
              have hbl2 : b2 < wr.heap.size := Nat.lt_of_lt_of_le hb2 hbr.size
              have y1 : ∀ z, (wr.setCell ⟨bS, k, none⟩ z).cell? ⟨b2, o2 + k, none⟩ = some (.bool false) := fun z => by
                obtain ⟨b3, o3, e3, _, y3⟩ := segB (S23.out.below (hbr.setCell (p := ⟨bS, k, none⟩) hbS.out z)) hy
                cases e3; exact y3
              go_wp2
              go_roundw
              case rel => exact ⟨k + 1, _, _, by go_num, by omega, by rw [List.length_set]; exact HH.out.1, by rw [List.length_set]; exact HH.out.2.1, (Sb.put HU.out k _).far (p := ⟨bB, k, none⟩) NSB.out _, Sb.put (HW.out.far (p := ⟨bS, k, none⟩) NSB.out.symm _) k _, (HBR.out.setCell (p := ⟨bS, k, none⟩) hbS.out _).setCell (p := ⟨bB, k, none⟩) HBB.out _, step_uv HH.out.1 HH.out.2.1 hkN HH.out.2.2.2.2.2 (by decide)⟩
              case measure => simp [intOf]; omega
            · have h2' : decide (k < l2.length) = false := by simp; omega
              go_wp2
              go_roundw
              case rel => exact ⟨k + 1, _, _, by go_num, by omega, by rw [List.length_set]; exact HH.out.1, by rw [List.length_set]; exact HH.out.2.1, (Sb.put HU.out k _).far (p := ⟨bB, k, none⟩) NSB.out _, Sb.put (HW.out.far (p := ⟨bS, k, none⟩) NSB.out.symm _) k _, (HBR.out.setCell (p := ⟨bS, k, none⟩) hbS.out _).setCell (p := ⟨bB, k, none⟩) HBB.out _, step_uv HH.out.1 HH.out.2.1 hkN HH.out.2.2.2.2.2 (by decide)⟩
              case measure => simp [intOf]; omega
          · have h1' : decide (k < l1.length) = false := by simp; omega
            rcases in3 l2 k with ⟨h2, hy⟩ | ⟨h2, hy⟩ | h2
            · have h2' : decide (k < l2.length) = true := by simp [h2]
              obtain ⟨b2, o2, e2, hb2, y0⟩ := segB (S23.out.below hbr) hy
              subst e2
              have hbl2 : b2 < wr.heap.size := Nat.lt_of_lt_of_le hb2 hbr.size
              have y1 : ∀ z, (wr.setCell ⟨bS, k, none⟩ z).cell? ⟨b2, o2 + k, none⟩ = some (.bool true) := fun z => by
                obtain ⟨b3, o3, e3, _, y3⟩ := segB (S23.out.below (hbr.setCell (p := ⟨bS, k, none⟩) hbS.out z)) hy
                cases e3; exact y3
              go_wp2
              go_roundw
              case rel => exact ⟨k + 1, _, _, by go_num, by omega, by rw [List.length_set]; exact HH.out.1, by rw [List.length_set]; exact HH.out.2.1, (Sb.put HU.out k _).far (p := ⟨bB, k, none⟩) NSB.out _, Sb.put (HW.out.far (p := ⟨bS, k, none⟩) NSB.out.symm _) k _, (HBR.out.setCell (p := ⟨bS, k, none⟩) hbS.out _).setCell (p := ⟨bB, k, none⟩) HBB.out _, step_uv HH.out.1 HH.out.2.1 hkN HH.out.2.2.2.2.2 (by decide)⟩
              case measure => simp [intOf]; omega
            · have h2' : decide (k < l2.length) = true := by simp [h2]
              obtain ⟨b2, o2, e2, hb2, y0⟩ := segB (S23.out.below hbr) hy
              subst e2
              have hbl2 : b2 < wr.heap.size := Nat.lt_of_lt_of_le hb2 hbr.size
              have y1 : ∀ z, (wr.setCell ⟨bS, k, none⟩ z).cell? ⟨b2, o2 + k, none⟩ = some (.bool false) := fun z => by
                obtain ⟨b3, o3, e3, _, y3⟩ := segB (S23.out.below (hbr.setCell (p := ⟨bS, k, none⟩) hbS.out z)) hy
                cases e3; exact y3
              go_wp2
              go_roundw
              case rel => exact ⟨k + 1, _, _, by go_num, by omega, by rw [List.length_set]; exact HH.out.1, by rw [List.length_set]; exact HH.out.2.1, (Sb.put HU.out k _).far (p := ⟨bB, k, none⟩) NSB.out _, Sb.put (HW.out.far (p := ⟨bS, k, none⟩) NSB.out.symm _) k _, (HBR.out.setCell (p := ⟨bS, k, none⟩) hbS.out _).setCell (p := ⟨bB, k, none⟩) HBB.out _, step_uv HH.out.1 HH.out.2.1 hkN HH.out.2.2.2.2.2 (by decide)⟩
              case measure => simp [intOf]; omega
            · have h2' : decide (k < l2.length) = false := by simp; omega
              go_wp2
              go_roundw
              case rel => exact ⟨k + 1, _, _, by go_num, by omega, by rw [List.length_set]; exact HH.out.1, by rw [List.length_set]; exact HH.out.2.1, (Sb.put HU.out k _).far (p := ⟨bB, k, none⟩) NSB.out _, Sb.put (HW.out.far (p := ⟨bS, k, none⟩) NSB.out.symm _) k _, (HBR.out.setCell (p := ⟨bS, k, none⟩) hbS.out _).setCell (p := ⟨bB, k, none⟩) HBB.out _, step_uv HH.out.1 HH.out.2.1 hkN HH.out.2.2.2.2.2 (by decide)⟩
              case measure => simp [intOf]; omega
        · have hkN' : ¬ ((k : Int) < p.n) := by have := HN.out; omega
          clear hh hUl hVl hU hV hbr
          have HSUB := Lib.hid (sub_of HV.out HN.out HH.out.1 HH.out.2.1 (fun i hi => HH.out.2.2.2.2.2 i (by omega)))
          obtain ⟨oa, hoa⟩ : ∃ o, ow p (pad U) q = o := ⟨_, rfl⟩
          obtain ⟨ob, hob⟩ : ∃ o, ow p (pad V) q = o := ⟨_, rfl⟩
          have HOA : Hid (∀ W, Below wr.heap.size wr W → Calls Try.prog 17 #[.agg (pfA p m), .int .i64 q, .slice (some ⟨bS, 0, none⟩) N N] W fun e w' => e = .returned (.tuple #[.agg #[.int .i64 (stN oa), .int .i64 (stD oa)], .int .i64 (stE oa)]) ∧ Below W.heap.size W w') := fun W hW => by
            have := Owed_any p m q U (some ⟨bS, 0, none⟩) N W HV.out (PM3.out.then_ (below_then HBR.out hW)) ⟨by omega, hqn⟩ (by have := HN.out; have := HH.out.1; omega) (Sb.seg (HU.out.then_ hW))
            rw [hoa, HH.out.1] at this
            exact this
          have HOB : Hid (∀ W, Below wr.heap.size wr W → Calls Try.prog 17 #[.agg (pfA p m), .int .i64 q, .slice (some ⟨bB, 0, none⟩) N N] W fun e w' => e = .returned (.tuple #[.agg #[.int .i64 (stN ob), .int .i64 (stD ob)], .int .i64 (stE ob)]) ∧ Below W.heap.size W w') := fun W hW => by
            have := Owed_any p m q V (some ⟨bB, 0, none⟩) N W HV.out (PM3.out.then_ (below_then HBR.out hW)) ⟨by omega, hqn⟩ (by have := HN.out; have := HH.out.2.1; omega) (Sb.seg (HW.out.then_ hW))
            rw [hob, HH.out.2.1] at this
            exact this
          have HEO := Lib.hid (And.intro hoa hob)
          have hz := Lib.hid (Below.refl wr.heap.size wr)
          clear hoa hob
          cases oa with
          | none =>
            simp only [stN, stD, stE] at HOA
            go_upto_region 15 with (first | (go_at_call 17; (with_reducible refine (HOA.out _ hz.out).mono ?_); rintro e w4 ⟨rfl, hk4⟩; replace hz := Lib.hid (below_then hz.out hk4); clear k0 k1 k2 k3 k4 k5 lP; obtain ⟨k0, k1, k2, k3, k4, k5⟩ := (pfCells (GP3.out.then_ (below_then HBR.out hz.out))); have lP := (GP3.out.then_ (below_then HBR.out hz.out)).lt) | (go_at_call 17; (with_reducible refine (HOB.out _ (below_alloc hz.out _)).mono ?_); rintro e w5 ⟨rfl, hk5⟩; replace hz := Lib.hid (below_then (below_alloc hz.out _) hk5)))
            refine name_wp ?_
            intro X6 hX6
            have HB6 : Hid (Below w3.heap.size w3 X6) := by rw [hX6]; exact below_then HBR.out (below_alloc hz.out _)
            clear hX6 hz k0 k1 k2 k3 k4 k5 lP
            obtain ⟨k0, k1, k2, k3, k4, k5⟩ := pfCells (GP3.out.then_ HB6.out)
            have lP := (GP3.out.then_ HB6.out).lt
            go_upto_region 16 with (fail)
            refine name_wp ?_
            intro X7 hX7
            have gq : Blk X7 X6.heap.size 27 (pfA p m) := by rw [hX7]; exact Blk.new _ _ _
            have hb7 : Below X6.heap.size X6 X7 := by rw [hX7]; exact wa1 _ _
            have hQ3 : w3.heap.size ≤ X6.heap.size := HB6.out.size
            obtain ⟨bQ, eQ⟩ : ∃ b, X6.heap.size = b := ⟨_, rfl⟩
            have HB7 := Lib.hid (below_then HB6.out hb7)
            rw [eQ] at gq hQ3 ⊢
            have GQ7 := Lib.hid gq
            have HQ3 := Lib.hid hQ3
            clear hX7 hb7 eQ gq hQ3 HB6
            clear k0 k1 k2 k3 k4 k5 lP
            obtain ⟨k0, k1, k2, k3, k4, k5⟩ := pfCells (GP3.out.then_ HB7.out)
            have lP := (GP3.out.then_ HB7.out).lt
            have lq7 := GQ7.out.lt
            obtain ⟨a, hax⟩ : ∃ a, p.as[q]? = some a := ⟨_, List.getElem?_eq_getElem (by have := HV.out.len; omega)⟩
            have HAX := Lib.hid hax
            obtain ⟨ba, oa', ea, _, _, _⟩ := segA (PM3.out.s1.below HB7.out) hax
            have HSA : Hid (Seg X7 X7.heap.size 2 encA (some ⟨ba, oa', none⟩) p.as) := by have := (PM3.out.then_ HB7.out).s1; rwa [ea] at this
            have HEA := Lib.hid ea
            rw [ea] at k1
            clear ea hax
            have hlen := HV.out.len
            have hal : p.as.length ≤ 12 := by omega
            obtain ⟨ri, hin, hz0, hz1, hz2⟩ := info_parts (show (Try.prog.info? 44).map (fun i => (i.zero, i.size, i.bytes)) = some (some (.agg #[.int .i64 0, .int .i64 0]), 2, 16) by kernel_rfl)
            go_upto_region 17 with (at_builtin; go_loud (refine wpList_append_own _ rfl (.tmp 128) (.tmp 130) _ rfl X7.heap.size 44 ri _ 2 16 Try.underlying22 hin hz0 hz1 hz2 rfl (by omega) _ 0 [] rfl (own0s _ (Nat.le_refl _) _ _) _ p.as.length m.c1 (p.as.flatMap encA) rfl (flat_len (enc := encA) (size := 2) (fun _ => rfl) p.as) (src_seg (enc := encA) (size := 2) (fun _ => rfl) (by omega) HSA.out (wa1 _ _)) (oneA p.as) (by unfold maxLen; omega) (by omega) (by simp) ?_); intro v8 V8 hown hgrow hnil; have hb8 : Below X7.heap.size X7 V8 := (wa1 _ _).grown hgrow (by simp) (fun k hk => by cases hk; exact Nat.le_refl _); have gq8 := GQ7.out.then_ hb8; have f1 : V8.frozen? ⟨bQ, 1, none⟩ = false := gq8.frozen 1; have q1 : V8.cell? ⟨bQ, 1, none⟩ = some (.slice m.a1 p.as.length m.c1) := gq8.cell 1; have lq8 := gq8.lt; have hO8 : Own V8 X7.heap.size 44 2 encA v8 p.as := (by unfold Own; simpa using hown); obtain ⟨g, cap, rfl, hgB, hgl⟩ := Own.at_ hO8 (by omega))
            refine name_wp ?_
            intro X9 hX9
            have HO9 : Hid (Own X9 X7.heap.size 44 2 encA (.slice (some ⟨g, 0, none⟩) p.as.length cap) p.as) := by rw [hX9]; exact Own.setOther (p := ⟨bQ, 1, none⟩) hO8 gq8 (by decide) _
            have GQ9 : Hid (Blk X9 bQ 27 (pfA p (msG m (some ⟨g, 0, none⟩) cap))) := by rw [hX9, ← pf_clone]; exact gq8.set_ 1 _
            have HB9 : Hid (Below w3.heap.size w3 X9) := by rw [hX9]; exact (below_then HB7.out hb8).setCell (p := ⟨bQ, 1, none⟩) HQ3.out _
            have hg9 : g < X9.heap.size := by rw [hX9]; simpa using hgl
            have hQg : bQ < g := Nat.lt_of_lt_of_le lq7 hgB
            have H9g := Lib.hid hg9
            have HQG := Lib.hid hQg
            have h3g : Hid (w3.heap.size ≤ g) := Nat.le_trans HB7.out.size hgB
            clear hX9 hO8 gq8 f1 q1 lq8 hb8 hown hgrow hnil hgl hgB HSA hin hz0 hz1 hz2 hg9 hQg GQ7 lq7 HB7
            clear k0 k1 k2 k3 k4 k5 lP
            obtain ⟨k0, k1, k2, k3, k4, k5⟩ := pfCells (GP3.out.then_ HB9.out)
            have lP := (GP3.out.then_ HB9.out).lt
            obtain ⟨r, r1, r2, r3⟩ := rat_of_vld (HV.out.as a (List.mem_of_getElem? HAX.out)).1
            obtain ⟨s, s1, s2, s3⟩ := rat_int xt HXT.out
            obtain ⟨hx0, hx1⟩ := HXT.out
            have hADD : ∀ W, Calls Try.prog 19 #[.agg #[.int .i64 a.1, .int .i64 a.2], .agg #[.int .i64 xt, .int .i64 1]] W fun e w' => e = .returned (.tuple #[.agg #[.int .i64 (oN (r + s)), .int .i64 (oD (r + s))], .int .i64 (oE (r + s))]) ∧ Below W.heap.size W w' := fun W => by
              have := add_any r s W r1 s1
              rwa [r2, r3, s2, s3] at this
            have HADD := Lib.hid hADD
            clear hADD
            obtain ⟨ba2, oa2, ea2, hba, a0, a1⟩ := segA (PM3.out.s1.below HB9.out) HAX.out
            rw [HEA.out] at ea2
            cases ea2
            rw [HEA.out] at k1
            have hbal : ba < X9.heap.size := Nat.lt_of_lt_of_le hba HB9.out.size
            have hql : q < p.as.length := by omega
            rcases hbb (inR (r + s)) with hin | hin
            · rw [oN_yes hin, oD_yes hin, oE_yes hin] at HADD
              obtain ⟨hvr, hnr, har⟩ := rich_ok HV.out HAX.out HXT.out r2 r3 s2 s3 hin
              obtain ⟨nn, hnn⟩ : ∃ n, (r + s).num = n := ⟨_, rfl⟩
              obtain ⟨dd, hdd⟩ : ∃ n : Int, ((r + s).den : Int) = n := ⟨_, rfl⟩
              rw [hnn, hdd] at HADD hvr har
              rw [hnn] at hnr
              have HVR : Hid (VP (rich p q (nn, dd))) := VP.rich HV.out hvr hnr
              have HML : Hid (∀ K K', SpOk p K → SpOk (rich p q (nn, dd)) K' → sub p.n (Dk (rich p q (nn, dd)) K') (Dk p K)) := fun K K' h h' => more_law HV.out hql hvr hnr har h h'
              clear hvr hnr har hnn hdd hin r1 r2 r3 s1 s2 s3
              refine wp_region_qa (T := 44) (zs := #[.int .i64 0, .int .i64 0]) [0, 1, 2, 3, 4, 5, 6, 7, 8, 9] [10, 11] [13, 14] 12 20 (by kernel_rfl) (by kernel_rfl) (by repeat (first | with_reducible refine panOk_then ?_ | with_reducible refine panOk_block ?_ | exact panOk_body)) (fun _ _ => by rfl) ?_
              apply Exists.intro
              refine ⟨?_, ?_⟩
              · intro S gS hGS
                haveI := hGS.2.2
                have rg0 := cell_cls hGS k0
                have rg1 := cell_cls hGS k1
                have rg2 := cell_cls hGS k2
                have rg3 := cell_cls hGS k3
                have rg4 := cell_cls hGS k4
                have rg5 := cell_cls hGS k5
                have rg6 := cell_cls hGS a0
                have rg7 := cell_cls hGS a1
                unfold cls
                simp only [opsAt, List.getElem?_toArray, List.getElem?_cons_succ, List.getElem?_cons_zero, Option.toList_some, List.cons_append, List.nil_append]
                repeat (go_big_quiet_step ((first | (go_at_call 20; exact qa_call hGS (fun W' _ => of_any _ W') _) | (go_at_call 19; exact qa_call hGS (fun W' _ => HADD.out W') _))))
                refine wpQuiet_nil ?_
                exact rfl
              intro la Xa hla hbXa gla
              simp only [opsAt, List.getElem?_toArray, List.getElem?_cons_succ, List.getElem?_cons_zero, Option.toList_some, List.cons_append, List.nil_append, Act.put, List.setIfInBounds_toArray, List.set_cons_succ, List.set_cons_zero]
              obtain ⟨z0, z1, fz0, fz1⟩ := gla.two
              have lla := gla.lt
              go_upto_region 20 with (fail)
              refine name_wp ?_
              intro Xb hXb
              have gl : Blk Xb la 44 #[.int .i64 nn, .int .i64 dd] := by rw [hXb]; exact gla.setT0.setT1
              have nlg : g ≠ la := by have := H9g.out; omega
              have nlQ : bQ ≠ la := by have := H9g.out; have := HQG.out; omega
              have nlP : bP ≠ la := by have := lP; omega
              have HOb : Hid (Own Xb X7.heap.size 44 2 encA (.slice (some ⟨g, 0, none⟩) p.as.length cap) p.as) := by rw [hXb]; exact Own.boxNe (Own.below HO9.out hbXa) nlg
              have GQb : Hid (Blk Xb bQ 27 (pfA p (msG m (some ⟨g, 0, none⟩) cap))) := by rw [hXb]; exact Blk.box (GQ9.out.then_ hbXa) nlQ
              have HBb : Hid (Below w3.heap.size w3 Xb) := by
                have h1 : w3.heap.size ≤ la := by have := h3g.out; have := H9g.out; omega
                rw [hXb]; exact ((below_then HB9.out hbXa).setCell (p := ⟨la, 0, none⟩) h1 _).setCell (p := ⟨la, 1, none⟩) h1 _
              obtain ⟨z2, z3, _, _⟩ := gl.two
              have ll := gl.lt
              have lgb : g < Xb.heap.size := by have := H9g.out; have := hbXa.size; rw [hXb]; simp; omega
              clear hXb z0 z1 fz0 fz1 lla gla hbXa hla HO9 GQ9 HB9 nlP nlQ a0 a1 hba hbal
              clear k0 k1 k2 k3 k4 k5 lP
              obtain ⟨k0, k1, k2, k3, k4, k5⟩ := pfCells (GQb.out)
              have lP := (GQb.out).lt
              obtain ⟨u0, u1, fu0, fu1⟩ := HOb.out.cellsAt (fun _ => rfl) HAX.out rfl
              clear gl
              go_upto_region 21 with (fail)
              refine name_wp ?_
              intro Xc hXc
              have HOc : Hid (Own Xc X7.heap.size 44 2 encA (.slice (some ⟨g, 0, none⟩) p.as.length cap) (p.as.set q (nn, dd))) := by rw [hXc]; exact HOb.out.set2 (fun _ => rfl) rfl hql rfl
              have HBc : Hid (Below w3.heap.size w3 Xc) := by rw [hXc]; exact (HBb.out.setCell (p := ⟨g, q * 2, none⟩) h3g.out _).setCell (p := ⟨g, q * 2 + 1, none⟩) h3g.out _
              have eR : pfA p (msG m (some ⟨g, 0, none⟩) cap) = pfA (rich p q (nn, dd)) (msG m (some ⟨g, 0, none⟩) cap) := by simp [pfA, rich]
              have GQc : Hid (Blk Xc bQ 27 (pfA (rich p q (nn, dd)) (msG m (some ⟨g, 0, none⟩) cap))) := by
                rw [hXc, ← eR]; exact (GQb.out.far (p := ⟨g, q * 2, none⟩) (Nat.ne_of_lt HQG.out) _).far (p := ⟨g, q * 2 + 1, none⟩) (Nat.ne_of_lt HQG.out) _
              have PMc : Hid (Pm Xc (rich p q (nn, dd)) (msG m (some ⟨g, 0, none⟩) cap)) := by
                obtain ⟨A', c', e', _, sg⟩ := Own.seg HOc.out (fun _ => rfl)
                obtain rfl : A' = some ⟨g, 0, none⟩ := by injection e' with e1 _ _; exact e1.symm
                have := PM3.out.then_ HBc.out
                exact ⟨sg, this.s2, this.s3, this.s4, this.s5⟩
              clear hXc u0 u1 fu0 fu1 HOb GQb HBb HOc eR z2 z3 ll lgb nlg
              have HDP := Lib.hid (dfo_any p m Xc HV.out (PM3.out.then_ HBc.out))
              have HDQ : Hid (∀ W, Below Xc.heap.size Xc W → Calls Try.prog 13 #[.agg (pfA (rich p q (nn, dd)) (msG m (some ⟨g, 0, none⟩) cap))] W fun e w' => (∃ v z, e = .returned (.tuple #[v, .int .i64 z]) ∧ DfO (rich p q (nn, dd)) W w' v z) ∧ Below W.heap.size W w') := fun W hW => dfo_any _ _ W HVR.out (PMc.out.then_ hW)
              clear k0 k1 k2 k3 k4 k5 lP
              obtain ⟨k0, k1, k2, k3, k4, k5⟩ := pfCells (GP3.out.then_ HBc.out)
              have lP := (GP3.out.then_ HBc.out).lt
              go_upto_region 22 with (go_at_call 13; (with_reducible refine HDP.out.mono ?_); rintro e w6 ⟨⟨v7, z7, rfl, hd7⟩, hk6⟩)
              have HD7 := Lib.hid hd7
              have HK6 := Lib.hid hk6
              clear k0 k1 k2 k3 k4 k5 lP
              obtain ⟨k0, k1, k2, k3, k4, k5⟩ := pfCells (GQc.out.then_ HK6.out)
              have lP := (GQc.out.then_ HK6.out).lt
              clear hd7 hk6 HDP
              go_upto_region 23 with (go_at_call 13; (with_reducible refine (HDQ.out _ HK6.out).mono ?_); rintro e w7 ⟨⟨v8, z8, rfl, hd8⟩, hk7⟩)
              have HD8 := Lib.hid hd8
              have HK7 := Lib.hid hk7
              have HBF := Lib.hid (below_then HB3.out (below_then HBc.out (below_then HK6.out hk7)))
              clear hd8 hk7 HDQ k0 k1 k2 k3 k4 k5 lP
              rcases HD7.out with ⟨rfl, K, hK, hg7⟩ | rfl
              · rcases HD8.out with ⟨rfl, K', hK', hg8⟩ | rfl
                · obtain ⟨A7, c7, rfl, _, s7⟩ := Own.seg (Own.below hg7 HK7.out) encB_len
                  obtain ⟨A8, c8, rfl, _, s8⟩ := Own.seg hg8 encB_len
                  have hL7 := outD_len HV.out K
                  have hL8 : ((outD (rich p q (nn, dd)) K').length : Int) = p.n := outD_len HVR.out K'
                  have hsub := HML.out K K' hK hK'
                  have hin : ∀ i : Nat, (outD (rich p q (nn, dd)) K')[i]? = some true → (outD p K)[i]? = some true := fun i hi => by
                    have hil := (List.getElem?_eq_some_iff.1 hi).1
                    have h1 := has_of hi
                    rw [has_outD HVR.out] at h1
                    have h2 := hsub (i : Int) (by omega) (by omega) h1
                    rw [← has_outD HV.out] at h2
                    have hi7 : i < (outD p K).length := by omega
                    rw [has_of (List.getElem?_eq_getElem hi7)] at h2
                    rw [List.getElem?_eq_getElem hi7, h2]
                  obtain ⟨D, hD⟩ : ∃ D, outD p K = D := ⟨_, rfl⟩
                  obtain ⟨E, hE⟩ : ∃ E, outD (rich p q (nn, dd)) K' = E := ⟨_, rfl⟩
                  rw [hD] at s7 hL7 hin ⊢
                  rw [hE] at s8 hL8 hin ⊢
                  have hDN : D.length = N := by have := HN.out; omega
                  have hEN : E.length = N := by have := HN.out; omega
                  have S7 := Lib.hid s7
                  have S8 := Lib.hid s8
                  have HIN := Lib.hid hin
                  clear s7 s8 hin hsub hD hE hg7 hg8 hL7 hL8 hK hK' HD7 HD8 HML
                  go_upto_region 26 with (fail)
                  go_loopw [26] (fun x WQ => ∃ k : Nat, x = .int .i64 k ∧ k ≤ N ∧ Below w7.heap.size w7 WQ) (fun x _ => 2000 - (intOf x).toNat)
                  case atStart => exact ⟨0, rfl, by omega, Below.refl _ _⟩
                  case round =>
                    obtain ⟨i, rfl, hi, hbq⟩ := hrel
                    have HBQ := Lib.hid hbq
                    by_cases hlt : i < N
                    · obtain ⟨x, hx⟩ : ∃ x, E[i]? = some x := ⟨_, List.getElem?_eq_getElem (by omega)⟩
                      obtain ⟨y, hy⟩ : ∃ y, D[i]? = some y := ⟨_, List.getElem?_eq_getElem (by omega)⟩
                      obtain ⟨b1, o1, e1, hb1, x0⟩ := segB (S8.out.below hbq) hx
                      obtain ⟨b2, o2, e2, hb2, y0⟩ := segB (S7.out.below hbq) hy
                      have hbl1 : b1 < wr.heap.size := Nat.lt_of_lt_of_le hb1 hbq.size
                      have hbl2 : b2 < wr.heap.size := Nat.lt_of_lt_of_le hb2 hbq.size
                      subst e1
                      subst e2
                      have hge : decide (N ≤ i) = false := by simp; omega
                      cases x
                      · clear hx hy hbq
                        go_wp2
                        go_roundw
                        case rel => exact ⟨i + 1, by go_num, by omega, HBQ.out⟩
                        case measure => simp [intOf]; omega
                      · obtain rfl : y = true := Option.some.inj (hy.symm.trans (HIN.out i hx))
                        clear hx hy hbq
                        go_wp2
                        go_roundw
                        case rel => exact ⟨i + 1, by go_num, by omega, HBQ.out⟩
                        case measure => simp [intOf]; omega
                    · go_wp2
                      go_ret
                      exact ⟨rfl, below_then HBF.out HBQ.out⟩
                · go_wp2
                  go_ret
                  exact ⟨rfl, HBF.out⟩
              · go_wp2
                go_ret
                exact ⟨rfl, HBF.out⟩
            · rw [oN_no hin, oD_no hin, oE_no hin] at HADD
              clear hin r1 r2 r3 s1 s2 s3
              refine wp_region_qa (T := 44) (zs := #[.int .i64 0, .int .i64 0]) [0, 1, 2, 3, 4, 5, 6, 7, 8, 9] [10, 11] [13, 14] 12 20 (by kernel_rfl) (by kernel_rfl) (by repeat (first | with_reducible refine panOk_then ?_ | with_reducible refine panOk_block ?_ | exact panOk_body)) (fun _ _ => by rfl) ?_
              apply Exists.intro
              refine ⟨?_, ?_⟩
              · intro S gS hGS
                haveI := hGS.2.2
                have rg0 := cell_cls hGS k0
                have rg1 := cell_cls hGS k1
                have rg2 := cell_cls hGS k2
                have rg3 := cell_cls hGS k3
                have rg4 := cell_cls hGS k4
                have rg5 := cell_cls hGS k5
                have rg6 := cell_cls hGS a0
                have rg7 := cell_cls hGS a1
                unfold cls
                simp only [opsAt, List.getElem?_toArray, List.getElem?_cons_succ, List.getElem?_cons_zero, Option.toList_some, List.cons_append, List.nil_append]
                repeat (go_big_quiet_step ((first | (go_at_call 20; exact qa_call hGS (fun W' _ => of_any _ W') _) | (go_at_call 19; exact qa_call hGS (fun W' _ => HADD.out W') _))))
                refine wpQuiet_nil ?_
                exact rfl
              intro la Xa hla hbXa gla
              simp only [opsAt, List.getElem?_toArray, List.getElem?_cons_succ, List.getElem?_cons_zero, Option.toList_some, List.cons_append, List.nil_append, Act.put, List.setIfInBounds_toArray, List.set_cons_succ, List.set_cons_zero]
              obtain ⟨z0, z1, fz0, fz1⟩ := gla.two
              have lla := gla.lt
              have h1 : w.heap.size ≤ la := by
                have := h3g.out; have := H9g.out; have := HB3.out.size; omega
              go_wp2
              go_ret
              exact ⟨rfl, ((below_then HB3.out (below_then HB9.out hbXa)).setCell (p := ⟨la, 0, none⟩) h1 _).setCell (p := ⟨la, 1, none⟩) h1 _⟩
          | some a =>
            simp only [stN, stD, stE] at HOA
            cases ob with
            | none =>
              simp only [stN, stD, stE] at HOB
              go_upto_region 15 with (first | (go_at_call 17; (with_reducible refine (HOA.out _ hz.out).mono ?_); rintro e w4 ⟨rfl, hk4⟩; replace hz := Lib.hid (below_then hz.out hk4); clear k0 k1 k2 k3 k4 k5 lP; obtain ⟨k0, k1, k2, k3, k4, k5⟩ := (pfCells (GP3.out.then_ (below_then HBR.out hz.out))); have lP := (GP3.out.then_ (below_then HBR.out hz.out)).lt) | (go_at_call 17; (with_reducible refine (HOB.out _ (below_alloc hz.out _)).mono ?_); rintro e w5 ⟨rfl, hk5⟩; replace hz := Lib.hid (below_then (below_alloc hz.out _) hk5)))
              refine name_wp ?_
              intro X6 hX6
              have HB6 : Hid (Below w3.heap.size w3 X6) := by rw [hX6]; exact below_then HBR.out (below_alloc hz.out _)
              clear hX6 hz k0 k1 k2 k3 k4 k5 lP
              obtain ⟨k0, k1, k2, k3, k4, k5⟩ := pfCells (GP3.out.then_ HB6.out)
              have lP := (GP3.out.then_ HB6.out).lt
              go_upto_region 16 with (fail)
              refine name_wp ?_
              intro X7 hX7
              have gq : Blk X7 X6.heap.size 27 (pfA p m) := by rw [hX7]; exact Blk.new _ _ _
              have hb7 : Below X6.heap.size X6 X7 := by rw [hX7]; exact wa1 _ _
              have hQ3 : w3.heap.size ≤ X6.heap.size := HB6.out.size
              obtain ⟨bQ, eQ⟩ : ∃ b, X6.heap.size = b := ⟨_, rfl⟩
              have HB7 := Lib.hid (below_then HB6.out hb7)
              rw [eQ] at gq hQ3 ⊢
              have GQ7 := Lib.hid gq
              have HQ3 := Lib.hid hQ3
              clear hX7 hb7 eQ gq hQ3 HB6
              clear k0 k1 k2 k3 k4 k5 lP
              obtain ⟨k0, k1, k2, k3, k4, k5⟩ := pfCells (GP3.out.then_ HB7.out)
              have lP := (GP3.out.then_ HB7.out).lt
              have lq7 := GQ7.out.lt
              obtain ⟨a, hax⟩ : ∃ a, p.as[q]? = some a := ⟨_, List.getElem?_eq_getElem (by have := HV.out.len; omega)⟩
              have HAX := Lib.hid hax
              obtain ⟨ba, oa', ea, _, _, _⟩ := segA (PM3.out.s1.below HB7.out) hax
              have HSA : Hid (Seg X7 X7.heap.size 2 encA (some ⟨ba, oa', none⟩) p.as) := by have := (PM3.out.then_ HB7.out).s1; rwa [ea] at this
              have HEA := Lib.hid ea
              rw [ea] at k1
              clear ea hax
              have hlen := HV.out.len
              have hal : p.as.length ≤ 12 := by omega
              obtain ⟨ri, hin, hz0, hz1, hz2⟩ := info_parts (show (Try.prog.info? 44).map (fun i => (i.zero, i.size, i.bytes)) = some (some (.agg #[.int .i64 0, .int .i64 0]), 2, 16) by kernel_rfl)
              go_upto_region 17 with (at_builtin; go_loud (refine wpList_append_own _ rfl (.tmp 128) (.tmp 130) _ rfl X7.heap.size 44 ri _ 2 16 Try.underlying22 hin hz0 hz1 hz2 rfl (by omega) _ 0 [] rfl (own0s _ (Nat.le_refl _) _ _) _ p.as.length m.c1 (p.as.flatMap encA) rfl (flat_len (enc := encA) (size := 2) (fun _ => rfl) p.as) (src_seg (enc := encA) (size := 2) (fun _ => rfl) (by omega) HSA.out (wa1 _ _)) (oneA p.as) (by unfold maxLen; omega) (by omega) (by simp) ?_); intro v8 V8 hown hgrow hnil; have hb8 : Below X7.heap.size X7 V8 := (wa1 _ _).grown hgrow (by simp) (fun k hk => by cases hk; exact Nat.le_refl _); have gq8 := GQ7.out.then_ hb8; have f1 : V8.frozen? ⟨bQ, 1, none⟩ = false := gq8.frozen 1; have q1 : V8.cell? ⟨bQ, 1, none⟩ = some (.slice m.a1 p.as.length m.c1) := gq8.cell 1; have lq8 := gq8.lt; have hO8 : Own V8 X7.heap.size 44 2 encA v8 p.as := (by unfold Own; simpa using hown); obtain ⟨g, cap, rfl, hgB, hgl⟩ := Own.at_ hO8 (by omega))
              refine name_wp ?_
              intro X9 hX9
              have HO9 : Hid (Own X9 X7.heap.size 44 2 encA (.slice (some ⟨g, 0, none⟩) p.as.length cap) p.as) := by rw [hX9]; exact Own.setOther (p := ⟨bQ, 1, none⟩) hO8 gq8 (by decide) _
              have GQ9 : Hid (Blk X9 bQ 27 (pfA p (msG m (some ⟨g, 0, none⟩) cap))) := by rw [hX9, ← pf_clone]; exact gq8.set_ 1 _
              have HB9 : Hid (Below w3.heap.size w3 X9) := by rw [hX9]; exact (below_then HB7.out hb8).setCell (p := ⟨bQ, 1, none⟩) HQ3.out _
              have hg9 : g < X9.heap.size := by rw [hX9]; simpa using hgl
              have hQg : bQ < g := Nat.lt_of_lt_of_le lq7 hgB
              have H9g := Lib.hid hg9
              have HQG := Lib.hid hQg
              have h3g : Hid (w3.heap.size ≤ g) := Nat.le_trans HB7.out.size hgB
              clear hX9 hO8 gq8 f1 q1 lq8 hb8 hown hgrow hnil hgl hgB HSA hin hz0 hz1 hz2 hg9 hQg GQ7 lq7 HB7
              clear k0 k1 k2 k3 k4 k5 lP
              obtain ⟨k0, k1, k2, k3, k4, k5⟩ := pfCells (GP3.out.then_ HB9.out)
              have lP := (GP3.out.then_ HB9.out).lt
              obtain ⟨r, r1, r2, r3⟩ := rat_of_vld (HV.out.as a (List.mem_of_getElem? HAX.out)).1
              obtain ⟨s, s1, s2, s3⟩ := rat_int xt HXT.out
              obtain ⟨hx0, hx1⟩ := HXT.out
              have hADD : ∀ W, Calls Try.prog 19 #[.agg #[.int .i64 a.1, .int .i64 a.2], .agg #[.int .i64 xt, .int .i64 1]] W fun e w' => e = .returned (.tuple #[.agg #[.int .i64 (oN (r + s)), .int .i64 (oD (r + s))], .int .i64 (oE (r + s))]) ∧ Below W.heap.size W w' := fun W => by
                have := add_any r s W r1 s1
                rwa [r2, r3, s2, s3] at this
              have HADD := Lib.hid hADD
              clear hADD
              obtain ⟨ba2, oa2, ea2, hba, a0, a1⟩ := segA (PM3.out.s1.below HB9.out) HAX.out
              rw [HEA.out] at ea2
              cases ea2
              rw [HEA.out] at k1
              have hbal : ba < X9.heap.size := Nat.lt_of_lt_of_le hba HB9.out.size
              have hql : q < p.as.length := by omega
              rcases hbb (inR (r + s)) with hin | hin
              · rw [oN_yes hin, oD_yes hin, oE_yes hin] at HADD
                obtain ⟨hvr, hnr, har⟩ := rich_ok HV.out HAX.out HXT.out r2 r3 s2 s3 hin
                obtain ⟨nn, hnn⟩ : ∃ n, (r + s).num = n := ⟨_, rfl⟩
                obtain ⟨dd, hdd⟩ : ∃ n : Int, ((r + s).den : Int) = n := ⟨_, rfl⟩
                rw [hnn, hdd] at HADD hvr har
                rw [hnn] at hnr
                have HVR : Hid (VP (rich p q (nn, dd))) := VP.rich HV.out hvr hnr
                have HML : Hid (∀ K K', SpOk p K → SpOk (rich p q (nn, dd)) K' → sub p.n (Dk (rich p q (nn, dd)) K') (Dk p K)) := fun K K' h h' => more_law HV.out hql hvr hnr har h h'
                clear hvr hnr har hnn hdd hin r1 r2 r3 s1 s2 s3
                refine wp_region_qa (T := 44) (zs := #[.int .i64 0, .int .i64 0]) [0, 1, 2, 3, 4, 5, 6, 7, 8, 9] [10, 11] [13, 14] 12 20 (by kernel_rfl) (by kernel_rfl) (by repeat (first | with_reducible refine panOk_then ?_ | with_reducible refine panOk_block ?_ | exact panOk_body)) (fun _ _ => by rfl) ?_
                apply Exists.intro
                refine ⟨?_, ?_⟩
                · intro S gS hGS
                  haveI := hGS.2.2
                  have rg0 := cell_cls hGS k0
                  have rg1 := cell_cls hGS k1
                  have rg2 := cell_cls hGS k2
                  have rg3 := cell_cls hGS k3
                  have rg4 := cell_cls hGS k4
                  have rg5 := cell_cls hGS k5
                  have rg6 := cell_cls hGS a0
                  have rg7 := cell_cls hGS a1
                  unfold cls
                  simp only [opsAt, List.getElem?_toArray, List.getElem?_cons_succ, List.getElem?_cons_zero, Option.toList_some, List.cons_append, List.nil_append]
                  repeat (go_big_quiet_step ((first | (go_at_call 20; exact qa_call hGS (fun W' _ => of_any _ W') _) | (go_at_call 19; exact qa_call hGS (fun W' _ => HADD.out W') _))))
                  refine wpQuiet_nil ?_
                  exact rfl
                intro la Xa hla hbXa gla
                simp only [opsAt, List.getElem?_toArray, List.getElem?_cons_succ, List.getElem?_cons_zero, Option.toList_some, List.cons_append, List.nil_append, Act.put, List.setIfInBounds_toArray, List.set_cons_succ, List.set_cons_zero]
                obtain ⟨z0, z1, fz0, fz1⟩ := gla.two
                have lla := gla.lt
                go_upto_region 20 with (fail)
                refine name_wp ?_
                intro Xb hXb
                have gl : Blk Xb la 44 #[.int .i64 nn, .int .i64 dd] := by rw [hXb]; exact gla.setT0.setT1
                have nlg : g ≠ la := by have := H9g.out; omega
                have nlQ : bQ ≠ la := by have := H9g.out; have := HQG.out; omega
                have nlP : bP ≠ la := by have := lP; omega
                have HOb : Hid (Own Xb X7.heap.size 44 2 encA (.slice (some ⟨g, 0, none⟩) p.as.length cap) p.as) := by rw [hXb]; exact Own.boxNe (Own.below HO9.out hbXa) nlg
                have GQb : Hid (Blk Xb bQ 27 (pfA p (msG m (some ⟨g, 0, none⟩) cap))) := by rw [hXb]; exact Blk.box (GQ9.out.then_ hbXa) nlQ
                have HBb : Hid (Below w3.heap.size w3 Xb) := by
                  have h1 : w3.heap.size ≤ la := by have := h3g.out; have := H9g.out; omega
                  rw [hXb]; exact ((below_then HB9.out hbXa).setCell (p := ⟨la, 0, none⟩) h1 _).setCell (p := ⟨la, 1, none⟩) h1 _
                obtain ⟨z2, z3, _, _⟩ := gl.two
                have ll := gl.lt
                have lgb : g < Xb.heap.size := by have := H9g.out; have := hbXa.size; rw [hXb]; simp; omega
                clear hXb z0 z1 fz0 fz1 lla gla hbXa hla HO9 GQ9 HB9 nlP nlQ a0 a1 hba hbal
                clear k0 k1 k2 k3 k4 k5 lP
                obtain ⟨k0, k1, k2, k3, k4, k5⟩ := pfCells (GQb.out)
                have lP := (GQb.out).lt
                obtain ⟨u0, u1, fu0, fu1⟩ := HOb.out.cellsAt (fun _ => rfl) HAX.out rfl
                clear gl
                go_upto_region 21 with (fail)
                refine name_wp ?_
                intro Xc hXc
                have HOc : Hid (Own Xc X7.heap.size 44 2 encA (.slice (some ⟨g, 0, none⟩) p.as.length cap) (p.as.set q (nn, dd))) := by rw [hXc]; exact HOb.out.set2 (fun _ => rfl) rfl hql rfl
                have HBc : Hid (Below w3.heap.size w3 Xc) := by rw [hXc]; exact (HBb.out.setCell (p := ⟨g, q * 2, none⟩) h3g.out _).setCell (p := ⟨g, q * 2 + 1, none⟩) h3g.out _
                have eR : pfA p (msG m (some ⟨g, 0, none⟩) cap) = pfA (rich p q (nn, dd)) (msG m (some ⟨g, 0, none⟩) cap) := by simp [pfA, rich]
                have GQc : Hid (Blk Xc bQ 27 (pfA (rich p q (nn, dd)) (msG m (some ⟨g, 0, none⟩) cap))) := by
                  rw [hXc, ← eR]; exact (GQb.out.far (p := ⟨g, q * 2, none⟩) (Nat.ne_of_lt HQG.out) _).far (p := ⟨g, q * 2 + 1, none⟩) (Nat.ne_of_lt HQG.out) _
                have PMc : Hid (Pm Xc (rich p q (nn, dd)) (msG m (some ⟨g, 0, none⟩) cap)) := by
                  obtain ⟨A', c', e', _, sg⟩ := Own.seg HOc.out (fun _ => rfl)
                  obtain rfl : A' = some ⟨g, 0, none⟩ := by injection e' with e1 _ _; exact e1.symm
                  have := PM3.out.then_ HBc.out
                  exact ⟨sg, this.s2, this.s3, this.s4, this.s5⟩
                clear hXc u0 u1 fu0 fu1 HOb GQb HBb HOc eR z2 z3 ll lgb nlg
                have HDP := Lib.hid (dfo_any p m Xc HV.out (PM3.out.then_ HBc.out))
                have HDQ : Hid (∀ W, Below Xc.heap.size Xc W → Calls Try.prog 13 #[.agg (pfA (rich p q (nn, dd)) (msG m (some ⟨g, 0, none⟩) cap))] W fun e w' => (∃ v z, e = .returned (.tuple #[v, .int .i64 z]) ∧ DfO (rich p q (nn, dd)) W w' v z) ∧ Below W.heap.size W w') := fun W hW => dfo_any _ _ W HVR.out (PMc.out.then_ hW)
                clear k0 k1 k2 k3 k4 k5 lP
                obtain ⟨k0, k1, k2, k3, k4, k5⟩ := pfCells (GP3.out.then_ HBc.out)
                have lP := (GP3.out.then_ HBc.out).lt
                go_upto_region 22 with (go_at_call 13; (with_reducible refine HDP.out.mono ?_); rintro e w6 ⟨⟨v7, z7, rfl, hd7⟩, hk6⟩)
                have HD7 := Lib.hid hd7
                have HK6 := Lib.hid hk6
                clear k0 k1 k2 k3 k4 k5 lP
                obtain ⟨k0, k1, k2, k3, k4, k5⟩ := pfCells (GQc.out.then_ HK6.out)
                have lP := (GQc.out.then_ HK6.out).lt
                clear hd7 hk6 HDP
                go_upto_region 23 with (go_at_call 13; (with_reducible refine (HDQ.out _ HK6.out).mono ?_); rintro e w7 ⟨⟨v8, z8, rfl, hd8⟩, hk7⟩)
                have HD8 := Lib.hid hd8
                have HK7 := Lib.hid hk7
                have HBF := Lib.hid (below_then HB3.out (below_then HBc.out (below_then HK6.out hk7)))
                clear hd8 hk7 HDQ k0 k1 k2 k3 k4 k5 lP
                rcases HD7.out with ⟨rfl, K, hK, hg7⟩ | rfl
                · rcases HD8.out with ⟨rfl, K', hK', hg8⟩ | rfl
                  · obtain ⟨A7, c7, rfl, _, s7⟩ := Own.seg (Own.below hg7 HK7.out) encB_len
                    obtain ⟨A8, c8, rfl, _, s8⟩ := Own.seg hg8 encB_len
                    have hL7 := outD_len HV.out K
                    have hL8 : ((outD (rich p q (nn, dd)) K').length : Int) = p.n := outD_len HVR.out K'
                    have hsub := HML.out K K' hK hK'
                    have hin : ∀ i : Nat, (outD (rich p q (nn, dd)) K')[i]? = some true → (outD p K)[i]? = some true := fun i hi => by
                      have hil := (List.getElem?_eq_some_iff.1 hi).1
                      have h1 := has_of hi
                      rw [has_outD HVR.out] at h1
                      have h2 := hsub (i : Int) (by omega) (by omega) h1
                      rw [← has_outD HV.out] at h2
                      have hi7 : i < (outD p K).length := by omega
                      rw [has_of (List.getElem?_eq_getElem hi7)] at h2
                      rw [List.getElem?_eq_getElem hi7, h2]
                    obtain ⟨D, hD⟩ : ∃ D, outD p K = D := ⟨_, rfl⟩
                    obtain ⟨E, hE⟩ : ∃ E, outD (rich p q (nn, dd)) K' = E := ⟨_, rfl⟩
                    rw [hD] at s7 hL7 hin ⊢
                    rw [hE] at s8 hL8 hin ⊢
                    have hDN : D.length = N := by have := HN.out; omega
                    have hEN : E.length = N := by have := HN.out; omega
                    have S7 := Lib.hid s7
                    have S8 := Lib.hid s8
                    have HIN := Lib.hid hin
                    clear s7 s8 hin hsub hD hE hg7 hg8 hL7 hL8 hK hK' HD7 HD8 HML
                    go_upto_region 26 with (fail)
                    go_loopw [26] (fun x WQ => ∃ k : Nat, x = .int .i64 k ∧ k ≤ N ∧ Below w7.heap.size w7 WQ) (fun x _ => 2000 - (intOf x).toNat)
                    case atStart => exact ⟨0, rfl, by omega, Below.refl _ _⟩
                    case round =>
                      obtain ⟨i, rfl, hi, hbq⟩ := hrel
                      have HBQ := Lib.hid hbq
                      by_cases hlt : i < N
                      · obtain ⟨x, hx⟩ : ∃ x, E[i]? = some x := ⟨_, List.getElem?_eq_getElem (by omega)⟩
                        obtain ⟨y, hy⟩ : ∃ y, D[i]? = some y := ⟨_, List.getElem?_eq_getElem (by omega)⟩
                        obtain ⟨b1, o1, e1, hb1, x0⟩ := segB (S8.out.below hbq) hx
                        obtain ⟨b2, o2, e2, hb2, y0⟩ := segB (S7.out.below hbq) hy
                        have hbl1 : b1 < wr.heap.size := Nat.lt_of_lt_of_le hb1 hbq.size
                        have hbl2 : b2 < wr.heap.size := Nat.lt_of_lt_of_le hb2 hbq.size
                        subst e1
                        subst e2
                        have hge : decide (N ≤ i) = false := by simp; omega
                        cases x
                        · clear hx hy hbq
                          go_wp2
                          go_roundw
                          case rel => exact ⟨i + 1, by go_num, by omega, HBQ.out⟩
                          case measure => simp [intOf]; omega
                        · obtain rfl : y = true := Option.some.inj (hy.symm.trans (HIN.out i hx))
                          clear hx hy hbq
                          go_wp2
                          go_roundw
                          case rel => exact ⟨i + 1, by go_num, by omega, HBQ.out⟩
                          case measure => simp [intOf]; omega
                      · go_wp2
                        go_ret
                        exact ⟨rfl, below_then HBF.out HBQ.out⟩
                  · go_wp2
                    go_ret
                    exact ⟨rfl, HBF.out⟩
                · go_wp2
                  go_ret
                  exact ⟨rfl, HBF.out⟩
              · rw [oN_no hin, oD_no hin, oE_no hin] at HADD
                clear hin r1 r2 r3 s1 s2 s3
                refine wp_region_qa (T := 44) (zs := #[.int .i64 0, .int .i64 0]) [0, 1, 2, 3, 4, 5, 6, 7, 8, 9] [10, 11] [13, 14] 12 20 (by kernel_rfl) (by kernel_rfl) (by repeat (first | with_reducible refine panOk_then ?_ | with_reducible refine panOk_block ?_ | exact panOk_body)) (fun _ _ => by rfl) ?_
                apply Exists.intro
                refine ⟨?_, ?_⟩
                · intro S gS hGS
                  haveI := hGS.2.2
                  have rg0 := cell_cls hGS k0
                  have rg1 := cell_cls hGS k1
                  have rg2 := cell_cls hGS k2
                  have rg3 := cell_cls hGS k3
                  have rg4 := cell_cls hGS k4
                  have rg5 := cell_cls hGS k5
                  have rg6 := cell_cls hGS a0
                  have rg7 := cell_cls hGS a1
                  unfold cls
                  simp only [opsAt, List.getElem?_toArray, List.getElem?_cons_succ, List.getElem?_cons_zero, Option.toList_some, List.cons_append, List.nil_append]
                  repeat (go_big_quiet_step ((first | (go_at_call 20; exact qa_call hGS (fun W' _ => of_any _ W') _) | (go_at_call 19; exact qa_call hGS (fun W' _ => HADD.out W') _))))
                  refine wpQuiet_nil ?_
                  exact rfl
                intro la Xa hla hbXa gla
                simp only [opsAt, List.getElem?_toArray, List.getElem?_cons_succ, List.getElem?_cons_zero, Option.toList_some, List.cons_append, List.nil_append, Act.put, List.setIfInBounds_toArray, List.set_cons_succ, List.set_cons_zero]
                obtain ⟨z0, z1, fz0, fz1⟩ := gla.two
                have lla := gla.lt
                have h1 : w.heap.size ≤ la := by
                  have := h3g.out; have := H9g.out; have := HB3.out.size; omega
                go_wp2
                go_ret
                exact ⟨rfl, ((below_then HB3.out (below_then HB9.out hbXa)).setCell (p := ⟨la, 0, none⟩) h1 _).setCell (p := ⟨la, 1, none⟩) h1 _⟩
            | some b =>
              simp only [stN, stD, stE] at HOB
              have hle : a ≤ b := ow_mono HV.out HSUB.out HEO.out.1 HEO.out.2
              obtain ⟨c', hc'⟩ : ∃ c, cmpN a b = c := ⟨_, rfl⟩
              have HCM : Hid (∀ W, Calls Try.prog 18 #[.agg #[.int .i64 a.num, .int .i64 a.den], .agg #[.int .i64 b.num, .int .i64 b.den]] W fun e w' => e = .returned (.int .i64 c') ∧ Below W.heap.size W w') := fun W => by
                have := cmp_any a b W (ow_inR HEO.out.1) (ow_inR HEO.out.2)
                rwa [hc'] at this
              have h3 : c' = 0 ∨ c' = -1 := by
                rcases cmp3 a b rfl with ⟨h, _⟩ | ⟨_, h⟩ | ⟨_, h⟩
                · exact absurd (of_decide_eq_true h) (Rat.not_lt.2 hle)
                · exact .inl (hc'.symm.trans h)
                · exact .inr (hc'.symm.trans h)
              clear hle hc'
              go_upto_region 13 with (first | (go_at_call 17; (with_reducible refine (HOA.out _ hz.out).mono ?_); rintro e w4 ⟨rfl, hk4⟩; replace hz := Lib.hid (below_then hz.out hk4); clear k0 k1 k2 k3 k4 k5 lP; obtain ⟨k0, k1, k2, k3, k4, k5⟩ := (pfCells (GP3.out.then_ (below_then HBR.out hz.out))); have lP := (GP3.out.then_ (below_then HBR.out hz.out)).lt) | (go_at_call 17; (with_reducible refine (HOB.out _ (below_alloc hz.out _)).mono ?_); rintro e w5 ⟨rfl, hk5⟩; replace hz := Lib.hid (below_then (below_alloc hz.out _) hk5)))
              refine name_wp ?_
              intro Y6 hY6
              have ga : Blk Y6 w4.heap.size 44 #[.int .i64 a.num, .int .i64 a.den] := by rw [hY6]; exact ((Blk.new w4 44 _).then_ hk5).alloc _
              have gb : Blk Y6 w5.heap.size 44 #[.int .i64 b.num, .int .i64 b.den] := by rw [hY6]; exact Blk.new _ _ _
              have HY6 : Hid (Below wr.heap.size wr Y6) := by rw [hY6]; exact below_alloc hz.out _
              obtain ⟨z0, z1, _, _⟩ := ga.two
              obtain ⟨z2, z3, _, _⟩ := gb.two
              have lga := ga.lt
              have lgb := gb.lt
              clear hY6 ga gb
              rcases h3 with rfl | rfl
              · go_upto_region 15 with (go_at_call 18; (with_reducible refine (HCM.out _).mono ?_); rintro e w6' ⟨rfl, hk6⟩)
                clear z0 z1 z2 z3 lga lgb
                refine name_wp ?_
                intro X6 hX6
                have HB6 : Hid (Below w3.heap.size w3 X6) := by rw [hX6]; exact below_then HBR.out (below_then HY6.out hk6)
                clear hX6 hz k0 k1 k2 k3 k4 k5 lP
                obtain ⟨k0, k1, k2, k3, k4, k5⟩ := pfCells (GP3.out.then_ HB6.out)
                have lP := (GP3.out.then_ HB6.out).lt
                go_upto_region 16 with (fail)
                refine name_wp ?_
                intro X7 hX7
                have gq : Blk X7 X6.heap.size 27 (pfA p m) := by rw [hX7]; exact Blk.new _ _ _
                have hb7 : Below X6.heap.size X6 X7 := by rw [hX7]; exact wa1 _ _
                have hQ3 : w3.heap.size ≤ X6.heap.size := HB6.out.size
                obtain ⟨bQ, eQ⟩ : ∃ b, X6.heap.size = b := ⟨_, rfl⟩
                have HB7 := Lib.hid (below_then HB6.out hb7)
                rw [eQ] at gq hQ3 ⊢
                have GQ7 := Lib.hid gq
                have HQ3 := Lib.hid hQ3
                clear hX7 hb7 eQ gq hQ3 HB6
                clear k0 k1 k2 k3 k4 k5 lP
                obtain ⟨k0, k1, k2, k3, k4, k5⟩ := pfCells (GP3.out.then_ HB7.out)
                have lP := (GP3.out.then_ HB7.out).lt
                have lq7 := GQ7.out.lt
                obtain ⟨a, hax⟩ : ∃ a, p.as[q]? = some a := ⟨_, List.getElem?_eq_getElem (by have := HV.out.len; omega)⟩
                have HAX := Lib.hid hax
                obtain ⟨ba, oa', ea, _, _, _⟩ := segA (PM3.out.s1.below HB7.out) hax
                have HSA : Hid (Seg X7 X7.heap.size 2 encA (some ⟨ba, oa', none⟩) p.as) := by have := (PM3.out.then_ HB7.out).s1; rwa [ea] at this
                have HEA := Lib.hid ea
                rw [ea] at k1
                clear ea hax
                have hlen := HV.out.len
                have hal : p.as.length ≤ 12 := by omega
                obtain ⟨ri, hin, hz0, hz1, hz2⟩ := info_parts (show (Try.prog.info? 44).map (fun i => (i.zero, i.size, i.bytes)) = some (some (.agg #[.int .i64 0, .int .i64 0]), 2, 16) by kernel_rfl)
                go_upto_region 17 with (at_builtin; go_loud (refine wpList_append_own _ rfl (.tmp 128) (.tmp 130) _ rfl X7.heap.size 44 ri _ 2 16 Try.underlying22 hin hz0 hz1 hz2 rfl (by omega) _ 0 [] rfl (own0s _ (Nat.le_refl _) _ _) _ p.as.length m.c1 (p.as.flatMap encA) rfl (flat_len (enc := encA) (size := 2) (fun _ => rfl) p.as) (src_seg (enc := encA) (size := 2) (fun _ => rfl) (by omega) HSA.out (wa1 _ _)) (oneA p.as) (by unfold maxLen; omega) (by omega) (by simp) ?_); intro v8 V8 hown hgrow hnil; have hb8 : Below X7.heap.size X7 V8 := (wa1 _ _).grown hgrow (by simp) (fun k hk => by cases hk; exact Nat.le_refl _); have gq8 := GQ7.out.then_ hb8; have f1 : V8.frozen? ⟨bQ, 1, none⟩ = false := gq8.frozen 1; have q1 : V8.cell? ⟨bQ, 1, none⟩ = some (.slice m.a1 p.as.length m.c1) := gq8.cell 1; have lq8 := gq8.lt; have hO8 : Own V8 X7.heap.size 44 2 encA v8 p.as := (by unfold Own; simpa using hown); obtain ⟨g, cap, rfl, hgB, hgl⟩ := Own.at_ hO8 (by omega))
                refine name_wp ?_
                intro X9 hX9
                have HO9 : Hid (Own X9 X7.heap.size 44 2 encA (.slice (some ⟨g, 0, none⟩) p.as.length cap) p.as) := by rw [hX9]; exact Own.setOther (p := ⟨bQ, 1, none⟩) hO8 gq8 (by decide) _
                have GQ9 : Hid (Blk X9 bQ 27 (pfA p (msG m (some ⟨g, 0, none⟩) cap))) := by rw [hX9, ← pf_clone]; exact gq8.set_ 1 _
                have HB9 : Hid (Below w3.heap.size w3 X9) := by rw [hX9]; exact (below_then HB7.out hb8).setCell (p := ⟨bQ, 1, none⟩) HQ3.out _
                have hg9 : g < X9.heap.size := by rw [hX9]; simpa using hgl
                have hQg : bQ < g := Nat.lt_of_lt_of_le lq7 hgB
                have H9g := Lib.hid hg9
                have HQG := Lib.hid hQg
                have h3g : Hid (w3.heap.size ≤ g) := Nat.le_trans HB7.out.size hgB
                clear hX9 hO8 gq8 f1 q1 lq8 hb8 hown hgrow hnil hgl hgB HSA hin hz0 hz1 hz2 hg9 hQg GQ7 lq7 HB7
                clear k0 k1 k2 k3 k4 k5 lP
                obtain ⟨k0, k1, k2, k3, k4, k5⟩ := pfCells (GP3.out.then_ HB9.out)
                have lP := (GP3.out.then_ HB9.out).lt
                obtain ⟨r, r1, r2, r3⟩ := rat_of_vld (HV.out.as a (List.mem_of_getElem? HAX.out)).1
                obtain ⟨s, s1, s2, s3⟩ := rat_int xt HXT.out
                obtain ⟨hx0, hx1⟩ := HXT.out
                have hADD : ∀ W, Calls Try.prog 19 #[.agg #[.int .i64 a.1, .int .i64 a.2], .agg #[.int .i64 xt, .int .i64 1]] W fun e w' => e = .returned (.tuple #[.agg #[.int .i64 (oN (r + s)), .int .i64 (oD (r + s))], .int .i64 (oE (r + s))]) ∧ Below W.heap.size W w' := fun W => by
                  have := add_any r s W r1 s1
                  rwa [r2, r3, s2, s3] at this
                have HADD := Lib.hid hADD
                clear hADD
                obtain ⟨ba2, oa2, ea2, hba, a0, a1⟩ := segA (PM3.out.s1.below HB9.out) HAX.out
                rw [HEA.out] at ea2
                cases ea2
                rw [HEA.out] at k1
                have hbal : ba < X9.heap.size := Nat.lt_of_lt_of_le hba HB9.out.size
                have hql : q < p.as.length := by omega
                rcases hbb (inR (r + s)) with hin | hin
                · rw [oN_yes hin, oD_yes hin, oE_yes hin] at HADD
                  obtain ⟨hvr, hnr, har⟩ := rich_ok HV.out HAX.out HXT.out r2 r3 s2 s3 hin
                  obtain ⟨nn, hnn⟩ : ∃ n, (r + s).num = n := ⟨_, rfl⟩
                  obtain ⟨dd, hdd⟩ : ∃ n : Int, ((r + s).den : Int) = n := ⟨_, rfl⟩
                  rw [hnn, hdd] at HADD hvr har
                  rw [hnn] at hnr
                  have HVR : Hid (VP (rich p q (nn, dd))) := VP.rich HV.out hvr hnr
                  have HML : Hid (∀ K K', SpOk p K → SpOk (rich p q (nn, dd)) K' → sub p.n (Dk (rich p q (nn, dd)) K') (Dk p K)) := fun K K' h h' => more_law HV.out hql hvr hnr har h h'
                  clear hvr hnr har hnn hdd hin r1 r2 r3 s1 s2 s3
                  refine wp_region_qa (T := 44) (zs := #[.int .i64 0, .int .i64 0]) [0, 1, 2, 3, 4, 5, 6, 7, 8, 9] [10, 11] [13, 14] 12 20 (by kernel_rfl) (by kernel_rfl) (by repeat (first | with_reducible refine panOk_then ?_ | with_reducible refine panOk_block ?_ | exact panOk_body)) (fun _ _ => by rfl) ?_
                  apply Exists.intro
                  refine ⟨?_, ?_⟩
                  · intro S gS hGS
                    haveI := hGS.2.2
                    have rg0 := cell_cls hGS k0
                    have rg1 := cell_cls hGS k1
                    have rg2 := cell_cls hGS k2
                    have rg3 := cell_cls hGS k3
                    have rg4 := cell_cls hGS k4
                    have rg5 := cell_cls hGS k5
                    have rg6 := cell_cls hGS a0
                    have rg7 := cell_cls hGS a1
                    unfold cls
                    simp only [opsAt, List.getElem?_toArray, List.getElem?_cons_succ, List.getElem?_cons_zero, Option.toList_some, List.cons_append, List.nil_append]
                    repeat (go_big_quiet_step ((first | (go_at_call 20; exact qa_call hGS (fun W' _ => of_any _ W') _) | (go_at_call 19; exact qa_call hGS (fun W' _ => HADD.out W') _))))
                    refine wpQuiet_nil ?_
                    exact rfl
                  intro la Xa hla hbXa gla
                  simp only [opsAt, List.getElem?_toArray, List.getElem?_cons_succ, List.getElem?_cons_zero, Option.toList_some, List.cons_append, List.nil_append, Act.put, List.setIfInBounds_toArray, List.set_cons_succ, List.set_cons_zero]
                  obtain ⟨z0, z1, fz0, fz1⟩ := gla.two
                  have lla := gla.lt
                  go_upto_region 20 with (fail)
                  refine name_wp ?_
                  intro Xb hXb
                  have gl : Blk Xb la 44 #[.int .i64 nn, .int .i64 dd] := by rw [hXb]; exact gla.setT0.setT1
                  have nlg : g ≠ la := by have := H9g.out; omega
                  have nlQ : bQ ≠ la := by have := H9g.out; have := HQG.out; omega
                  have nlP : bP ≠ la := by have := lP; omega
                  have HOb : Hid (Own Xb X7.heap.size 44 2 encA (.slice (some ⟨g, 0, none⟩) p.as.length cap) p.as) := by rw [hXb]; exact Own.boxNe (Own.below HO9.out hbXa) nlg
                  have GQb : Hid (Blk Xb bQ 27 (pfA p (msG m (some ⟨g, 0, none⟩) cap))) := by rw [hXb]; exact Blk.box (GQ9.out.then_ hbXa) nlQ
                  have HBb : Hid (Below w3.heap.size w3 Xb) := by
                    have h1 : w3.heap.size ≤ la := by have := h3g.out; have := H9g.out; omega
                    rw [hXb]; exact ((below_then HB9.out hbXa).setCell (p := ⟨la, 0, none⟩) h1 _).setCell (p := ⟨la, 1, none⟩) h1 _
                  obtain ⟨z2, z3, _, _⟩ := gl.two
                  have ll := gl.lt
                  have lgb : g < Xb.heap.size := by have := H9g.out; have := hbXa.size; rw [hXb]; simp; omega
                  clear hXb z0 z1 fz0 fz1 lla gla hbXa hla HO9 GQ9 HB9 nlP nlQ a0 a1 hba hbal
                  clear k0 k1 k2 k3 k4 k5 lP
                  obtain ⟨k0, k1, k2, k3, k4, k5⟩ := pfCells (GQb.out)
                  have lP := (GQb.out).lt
                  obtain ⟨u0, u1, fu0, fu1⟩ := HOb.out.cellsAt (fun _ => rfl) HAX.out rfl
                  clear gl
                  go_upto_region 21 with (fail)
                  refine name_wp ?_
                  intro Xc hXc
                  have HOc : Hid (Own Xc X7.heap.size 44 2 encA (.slice (some ⟨g, 0, none⟩) p.as.length cap) (p.as.set q (nn, dd))) := by rw [hXc]; exact HOb.out.set2 (fun _ => rfl) rfl hql rfl
                  have HBc : Hid (Below w3.heap.size w3 Xc) := by rw [hXc]; exact (HBb.out.setCell (p := ⟨g, q * 2, none⟩) h3g.out _).setCell (p := ⟨g, q * 2 + 1, none⟩) h3g.out _
                  have eR : pfA p (msG m (some ⟨g, 0, none⟩) cap) = pfA (rich p q (nn, dd)) (msG m (some ⟨g, 0, none⟩) cap) := by simp [pfA, rich]
                  have GQc : Hid (Blk Xc bQ 27 (pfA (rich p q (nn, dd)) (msG m (some ⟨g, 0, none⟩) cap))) := by
                    rw [hXc, ← eR]; exact (GQb.out.far (p := ⟨g, q * 2, none⟩) (Nat.ne_of_lt HQG.out) _).far (p := ⟨g, q * 2 + 1, none⟩) (Nat.ne_of_lt HQG.out) _
                  have PMc : Hid (Pm Xc (rich p q (nn, dd)) (msG m (some ⟨g, 0, none⟩) cap)) := by
                    obtain ⟨A', c', e', _, sg⟩ := Own.seg HOc.out (fun _ => rfl)
                    obtain rfl : A' = some ⟨g, 0, none⟩ := by injection e' with e1 _ _; exact e1.symm
                    have := PM3.out.then_ HBc.out
                    exact ⟨sg, this.s2, this.s3, this.s4, this.s5⟩
                  clear hXc u0 u1 fu0 fu1 HOb GQb HBb HOc eR z2 z3 ll lgb nlg
                  have HDP := Lib.hid (dfo_any p m Xc HV.out (PM3.out.then_ HBc.out))
                  have HDQ : Hid (∀ W, Below Xc.heap.size Xc W → Calls Try.prog 13 #[.agg (pfA (rich p q (nn, dd)) (msG m (some ⟨g, 0, none⟩) cap))] W fun e w' => (∃ v z, e = .returned (.tuple #[v, .int .i64 z]) ∧ DfO (rich p q (nn, dd)) W w' v z) ∧ Below W.heap.size W w') := fun W hW => dfo_any _ _ W HVR.out (PMc.out.then_ hW)
                  clear k0 k1 k2 k3 k4 k5 lP
                  obtain ⟨k0, k1, k2, k3, k4, k5⟩ := pfCells (GP3.out.then_ HBc.out)
                  have lP := (GP3.out.then_ HBc.out).lt
                  go_upto_region 22 with (go_at_call 13; (with_reducible refine HDP.out.mono ?_); rintro e w6 ⟨⟨v7, z7, rfl, hd7⟩, hk6⟩)
                  have HD7 := Lib.hid hd7
                  have HK6 := Lib.hid hk6
                  clear k0 k1 k2 k3 k4 k5 lP
                  obtain ⟨k0, k1, k2, k3, k4, k5⟩ := pfCells (GQc.out.then_ HK6.out)
                  have lP := (GQc.out.then_ HK6.out).lt
                  clear hd7 hk6 HDP
                  go_upto_region 23 with (go_at_call 13; (with_reducible refine (HDQ.out _ HK6.out).mono ?_); rintro e w7 ⟨⟨v8, z8, rfl, hd8⟩, hk7⟩)
                  have HD8 := Lib.hid hd8
                  have HK7 := Lib.hid hk7
                  have HBF := Lib.hid (below_then HB3.out (below_then HBc.out (below_then HK6.out hk7)))
                  clear hd8 hk7 HDQ k0 k1 k2 k3 k4 k5 lP
                  rcases HD7.out with ⟨rfl, K, hK, hg7⟩ | rfl
                  · rcases HD8.out with ⟨rfl, K', hK', hg8⟩ | rfl
                    · obtain ⟨A7, c7, rfl, _, s7⟩ := Own.seg (Own.below hg7 HK7.out) encB_len
                      obtain ⟨A8, c8, rfl, _, s8⟩ := Own.seg hg8 encB_len
                      have hL7 := outD_len HV.out K
                      have hL8 : ((outD (rich p q (nn, dd)) K').length : Int) = p.n := outD_len HVR.out K'
                      have hsub := HML.out K K' hK hK'
                      have hin : ∀ i : Nat, (outD (rich p q (nn, dd)) K')[i]? = some true → (outD p K)[i]? = some true := fun i hi => by
                        have hil := (List.getElem?_eq_some_iff.1 hi).1
                        have h1 := has_of hi
                        rw [has_outD HVR.out] at h1
                        have h2 := hsub (i : Int) (by omega) (by omega) h1
                        rw [← has_outD HV.out] at h2
                        have hi7 : i < (outD p K).length := by omega
                        rw [has_of (List.getElem?_eq_getElem hi7)] at h2
                        rw [List.getElem?_eq_getElem hi7, h2]
                      obtain ⟨D, hD⟩ : ∃ D, outD p K = D := ⟨_, rfl⟩
                      obtain ⟨E, hE⟩ : ∃ E, outD (rich p q (nn, dd)) K' = E := ⟨_, rfl⟩
                      rw [hD] at s7 hL7 hin ⊢
                      rw [hE] at s8 hL8 hin ⊢
                      have hDN : D.length = N := by have := HN.out; omega
                      have hEN : E.length = N := by have := HN.out; omega
                      have S7 := Lib.hid s7
                      have S8 := Lib.hid s8
                      have HIN := Lib.hid hin
                      clear s7 s8 hin hsub hD hE hg7 hg8 hL7 hL8 hK hK' HD7 HD8 HML
                      go_upto_region 26 with (fail)
                      go_loopw [26] (fun x WQ => ∃ k : Nat, x = .int .i64 k ∧ k ≤ N ∧ Below w7.heap.size w7 WQ) (fun x _ => 2000 - (intOf x).toNat)
                      case atStart => exact ⟨0, rfl, by omega, Below.refl _ _⟩
                      case round =>
                        obtain ⟨i, rfl, hi, hbq⟩ := hrel
                        have HBQ := Lib.hid hbq
                        by_cases hlt : i < N
                        · obtain ⟨x, hx⟩ : ∃ x, E[i]? = some x := ⟨_, List.getElem?_eq_getElem (by omega)⟩
                          obtain ⟨y, hy⟩ : ∃ y, D[i]? = some y := ⟨_, List.getElem?_eq_getElem (by omega)⟩
                          obtain ⟨b1, o1, e1, hb1, x0⟩ := segB (S8.out.below hbq) hx
                          obtain ⟨b2, o2, e2, hb2, y0⟩ := segB (S7.out.below hbq) hy
                          have hbl1 : b1 < wr.heap.size := Nat.lt_of_lt_of_le hb1 hbq.size
                          have hbl2 : b2 < wr.heap.size := Nat.lt_of_lt_of_le hb2 hbq.size
                          subst e1
                          subst e2
                          have hge : decide (N ≤ i) = false := by simp; omega
                          cases x
                          · clear hx hy hbq
                            go_wp2
                            go_roundw
                            case rel => exact ⟨i + 1, by go_num, by omega, HBQ.out⟩
                            case measure => simp [intOf]; omega
                          · obtain rfl : y = true := Option.some.inj (hy.symm.trans (HIN.out i hx))
                            clear hx hy hbq
                            go_wp2
                            go_roundw
                            case rel => exact ⟨i + 1, by go_num, by omega, HBQ.out⟩
                            case measure => simp [intOf]; omega
                        · go_wp2
                          go_ret
                          exact ⟨rfl, below_then HBF.out HBQ.out⟩
                    · go_wp2
                      go_ret
                      exact ⟨rfl, HBF.out⟩
                  · go_wp2
                    go_ret
                    exact ⟨rfl, HBF.out⟩
                · rw [oN_no hin, oD_no hin, oE_no hin] at HADD
                  clear hin r1 r2 r3 s1 s2 s3
                  refine wp_region_qa (T := 44) (zs := #[.int .i64 0, .int .i64 0]) [0, 1, 2, 3, 4, 5, 6, 7, 8, 9] [10, 11] [13, 14] 12 20 (by kernel_rfl) (by kernel_rfl) (by repeat (first | with_reducible refine panOk_then ?_ | with_reducible refine panOk_block ?_ | exact panOk_body)) (fun _ _ => by rfl) ?_
                  apply Exists.intro
                  refine ⟨?_, ?_⟩
                  · intro S gS hGS
                    haveI := hGS.2.2
                    have rg0 := cell_cls hGS k0
                    have rg1 := cell_cls hGS k1
                    have rg2 := cell_cls hGS k2
                    have rg3 := cell_cls hGS k3
                    have rg4 := cell_cls hGS k4
                    have rg5 := cell_cls hGS k5
                    have rg6 := cell_cls hGS a0
                    have rg7 := cell_cls hGS a1
                    unfold cls
                    simp only [opsAt, List.getElem?_toArray, List.getElem?_cons_succ, List.getElem?_cons_zero, Option.toList_some, List.cons_append, List.nil_append]
                    repeat (go_big_quiet_step ((first | (go_at_call 20; exact qa_call hGS (fun W' _ => of_any _ W') _) | (go_at_call 19; exact qa_call hGS (fun W' _ => HADD.out W') _))))
                    refine wpQuiet_nil ?_
                    exact rfl
                  intro la Xa hla hbXa gla
                  simp only [opsAt, List.getElem?_toArray, List.getElem?_cons_succ, List.getElem?_cons_zero, Option.toList_some, List.cons_append, List.nil_append, Act.put, List.setIfInBounds_toArray, List.set_cons_succ, List.set_cons_zero]
                  obtain ⟨z0, z1, fz0, fz1⟩ := gla.two
                  have lla := gla.lt
                  have h1 : w.heap.size ≤ la := by
                    have := h3g.out; have := H9g.out; have := HB3.out.size; omega
                  go_wp2
                  go_ret
                  exact ⟨rfl, ((below_then HB3.out (below_then HB9.out hbXa)).setCell (p := ⟨la, 0, none⟩) h1 _).setCell (p := ⟨la, 1, none⟩) h1 _⟩
              · go_upto_region 15 with (go_at_call 18; (with_reducible refine (HCM.out _).mono ?_); rintro e w6' ⟨rfl, hk6⟩)
                clear z0 z1 z2 z3 lga lgb
                refine name_wp ?_
                intro X6 hX6
                have HB6 : Hid (Below w3.heap.size w3 X6) := by rw [hX6]; exact below_then HBR.out (below_then HY6.out hk6)
                clear hX6 hz k0 k1 k2 k3 k4 k5 lP
                obtain ⟨k0, k1, k2, k3, k4, k5⟩ := pfCells (GP3.out.then_ HB6.out)
                have lP := (GP3.out.then_ HB6.out).lt
                go_upto_region 16 with (fail)
                refine name_wp ?_
                intro X7 hX7
                have gq : Blk X7 X6.heap.size 27 (pfA p m) := by rw [hX7]; exact Blk.new _ _ _
                have hb7 : Below X6.heap.size X6 X7 := by rw [hX7]; exact wa1 _ _
                have hQ3 : w3.heap.size ≤ X6.heap.size := HB6.out.size
                obtain ⟨bQ, eQ⟩ : ∃ b, X6.heap.size = b := ⟨_, rfl⟩
                have HB7 := Lib.hid (below_then HB6.out hb7)
                rw [eQ] at gq hQ3 ⊢
                have GQ7 := Lib.hid gq
                have HQ3 := Lib.hid hQ3
                clear hX7 hb7 eQ gq hQ3 HB6
                clear k0 k1 k2 k3 k4 k5 lP
                obtain ⟨k0, k1, k2, k3, k4, k5⟩ := pfCells (GP3.out.then_ HB7.out)
                have lP := (GP3.out.then_ HB7.out).lt
                have lq7 := GQ7.out.lt
                obtain ⟨a, hax⟩ : ∃ a, p.as[q]? = some a := ⟨_, List.getElem?_eq_getElem (by have := HV.out.len; omega)⟩
                have HAX := Lib.hid hax
                obtain ⟨ba, oa', ea, _, _, _⟩ := segA (PM3.out.s1.below HB7.out) hax
                have HSA : Hid (Seg X7 X7.heap.size 2 encA (some ⟨ba, oa', none⟩) p.as) := by have := (PM3.out.then_ HB7.out).s1; rwa [ea] at this
                have HEA := Lib.hid ea
                rw [ea] at k1
                clear ea hax
                have hlen := HV.out.len
                have hal : p.as.length ≤ 12 := by omega
                obtain ⟨ri, hin, hz0, hz1, hz2⟩ := info_parts (show (Try.prog.info? 44).map (fun i => (i.zero, i.size, i.bytes)) = some (some (.agg #[.int .i64 0, .int .i64 0]), 2, 16) by kernel_rfl)
                go_upto_region 17 with (at_builtin; go_loud (refine wpList_append_own _ rfl (.tmp 128) (.tmp 130) _ rfl X7.heap.size 44 ri _ 2 16 Try.underlying22 hin hz0 hz1 hz2 rfl (by omega) _ 0 [] rfl (own0s _ (Nat.le_refl _) _ _) _ p.as.length m.c1 (p.as.flatMap encA) rfl (flat_len (enc := encA) (size := 2) (fun _ => rfl) p.as) (src_seg (enc := encA) (size := 2) (fun _ => rfl) (by omega) HSA.out (wa1 _ _)) (oneA p.as) (by unfold maxLen; omega) (by omega) (by simp) ?_); intro v8 V8 hown hgrow hnil; have hb8 : Below X7.heap.size X7 V8 := (wa1 _ _).grown hgrow (by simp) (fun k hk => by cases hk; exact Nat.le_refl _); have gq8 := GQ7.out.then_ hb8; have f1 : V8.frozen? ⟨bQ, 1, none⟩ = false := gq8.frozen 1; have q1 : V8.cell? ⟨bQ, 1, none⟩ = some (.slice m.a1 p.as.length m.c1) := gq8.cell 1; have lq8 := gq8.lt; have hO8 : Own V8 X7.heap.size 44 2 encA v8 p.as := (by unfold Own; simpa using hown); obtain ⟨g, cap, rfl, hgB, hgl⟩ := Own.at_ hO8 (by omega))
                refine name_wp ?_
                intro X9 hX9
                have HO9 : Hid (Own X9 X7.heap.size 44 2 encA (.slice (some ⟨g, 0, none⟩) p.as.length cap) p.as) := by rw [hX9]; exact Own.setOther (p := ⟨bQ, 1, none⟩) hO8 gq8 (by decide) _
                have GQ9 : Hid (Blk X9 bQ 27 (pfA p (msG m (some ⟨g, 0, none⟩) cap))) := by rw [hX9, ← pf_clone]; exact gq8.set_ 1 _
                have HB9 : Hid (Below w3.heap.size w3 X9) := by rw [hX9]; exact (below_then HB7.out hb8).setCell (p := ⟨bQ, 1, none⟩) HQ3.out _
                have hg9 : g < X9.heap.size := by rw [hX9]; simpa using hgl
                have hQg : bQ < g := Nat.lt_of_lt_of_le lq7 hgB
                have H9g := Lib.hid hg9
                have HQG := Lib.hid hQg
                have h3g : Hid (w3.heap.size ≤ g) := Nat.le_trans HB7.out.size hgB
                clear hX9 hO8 gq8 f1 q1 lq8 hb8 hown hgrow hnil hgl hgB HSA hin hz0 hz1 hz2 hg9 hQg GQ7 lq7 HB7
                clear k0 k1 k2 k3 k4 k5 lP
                obtain ⟨k0, k1, k2, k3, k4, k5⟩ := pfCells (GP3.out.then_ HB9.out)
                have lP := (GP3.out.then_ HB9.out).lt
                obtain ⟨r, r1, r2, r3⟩ := rat_of_vld (HV.out.as a (List.mem_of_getElem? HAX.out)).1
                obtain ⟨s, s1, s2, s3⟩ := rat_int xt HXT.out
                obtain ⟨hx0, hx1⟩ := HXT.out
                have hADD : ∀ W, Calls Try.prog 19 #[.agg #[.int .i64 a.1, .int .i64 a.2], .agg #[.int .i64 xt, .int .i64 1]] W fun e w' => e = .returned (.tuple #[.agg #[.int .i64 (oN (r + s)), .int .i64 (oD (r + s))], .int .i64 (oE (r + s))]) ∧ Below W.heap.size W w' := fun W => by
                  have := add_any r s W r1 s1
                  rwa [r2, r3, s2, s3] at this
                have HADD := Lib.hid hADD
                clear hADD
                obtain ⟨ba2, oa2, ea2, hba, a0, a1⟩ := segA (PM3.out.s1.below HB9.out) HAX.out
                rw [HEA.out] at ea2
                cases ea2
                rw [HEA.out] at k1
                have hbal : ba < X9.heap.size := Nat.lt_of_lt_of_le hba HB9.out.size
                have hql : q < p.as.length := by omega
                rcases hbb (inR (r + s)) with hin | hin
                · rw [oN_yes hin, oD_yes hin, oE_yes hin] at HADD
                  obtain ⟨hvr, hnr, har⟩ := rich_ok HV.out HAX.out HXT.out r2 r3 s2 s3 hin
                  obtain ⟨nn, hnn⟩ : ∃ n, (r + s).num = n := ⟨_, rfl⟩
                  obtain ⟨dd, hdd⟩ : ∃ n : Int, ((r + s).den : Int) = n := ⟨_, rfl⟩
                  rw [hnn, hdd] at HADD hvr har
                  rw [hnn] at hnr
                  have HVR : Hid (VP (rich p q (nn, dd))) := VP.rich HV.out hvr hnr
                  have HML : Hid (∀ K K', SpOk p K → SpOk (rich p q (nn, dd)) K' → sub p.n (Dk (rich p q (nn, dd)) K') (Dk p K)) := fun K K' h h' => more_law HV.out hql hvr hnr har h h'
                  clear hvr hnr har hnn hdd hin r1 r2 r3 s1 s2 s3
                  refine wp_region_qa (T := 44) (zs := #[.int .i64 0, .int .i64 0]) [0, 1, 2, 3, 4, 5, 6, 7, 8, 9] [10, 11] [13, 14] 12 20 (by kernel_rfl) (by kernel_rfl) (by repeat (first | with_reducible refine panOk_then ?_ | with_reducible refine panOk_block ?_ | exact panOk_body)) (fun _ _ => by rfl) ?_
                  apply Exists.intro
                  refine ⟨?_, ?_⟩
                  · intro S gS hGS
                    haveI := hGS.2.2
                    have rg0 := cell_cls hGS k0
                    have rg1 := cell_cls hGS k1
                    have rg2 := cell_cls hGS k2
                    have rg3 := cell_cls hGS k3
                    have rg4 := cell_cls hGS k4
                    have rg5 := cell_cls hGS k5
                    have rg6 := cell_cls hGS a0
                    have rg7 := cell_cls hGS a1
                    unfold cls
                    simp only [opsAt, List.getElem?_toArray, List.getElem?_cons_succ, List.getElem?_cons_zero, Option.toList_some, List.cons_append, List.nil_append]
                    repeat (go_big_quiet_step ((first | (go_at_call 20; exact qa_call hGS (fun W' _ => of_any _ W') _) | (go_at_call 19; exact qa_call hGS (fun W' _ => HADD.out W') _))))
                    refine wpQuiet_nil ?_
                    exact rfl
                  intro la Xa hla hbXa gla
                  simp only [opsAt, List.getElem?_toArray, List.getElem?_cons_succ, List.getElem?_cons_zero, Option.toList_some, List.cons_append, List.nil_append, Act.put, List.setIfInBounds_toArray, List.set_cons_succ, List.set_cons_zero]
                  obtain ⟨z0, z1, fz0, fz1⟩ := gla.two
                  have lla := gla.lt
                  go_upto_region 20 with (fail)
                  refine name_wp ?_
                  intro Xb hXb
                  have gl : Blk Xb la 44 #[.int .i64 nn, .int .i64 dd] := by rw [hXb]; exact gla.setT0.setT1
                  have nlg : g ≠ la := by have := H9g.out; omega
                  have nlQ : bQ ≠ la := by have := H9g.out; have := HQG.out; omega
                  have nlP : bP ≠ la := by have := lP; omega
                  have HOb : Hid (Own Xb X7.heap.size 44 2 encA (.slice (some ⟨g, 0, none⟩) p.as.length cap) p.as) := by rw [hXb]; exact Own.boxNe (Own.below HO9.out hbXa) nlg
                  have GQb : Hid (Blk Xb bQ 27 (pfA p (msG m (some ⟨g, 0, none⟩) cap))) := by rw [hXb]; exact Blk.box (GQ9.out.then_ hbXa) nlQ
                  have HBb : Hid (Below w3.heap.size w3 Xb) := by
                    have h1 : w3.heap.size ≤ la := by have := h3g.out; have := H9g.out; omega
                    rw [hXb]; exact ((below_then HB9.out hbXa).setCell (p := ⟨la, 0, none⟩) h1 _).setCell (p := ⟨la, 1, none⟩) h1 _
                  obtain ⟨z2, z3, _, _⟩ := gl.two
                  have ll := gl.lt
                  have lgb : g < Xb.heap.size := by have := H9g.out; have := hbXa.size; rw [hXb]; simp; omega
                  clear hXb z0 z1 fz0 fz1 lla gla hbXa hla HO9 GQ9 HB9 nlP nlQ a0 a1 hba hbal
                  clear k0 k1 k2 k3 k4 k5 lP
                  obtain ⟨k0, k1, k2, k3, k4, k5⟩ := pfCells (GQb.out)
                  have lP := (GQb.out).lt
                  obtain ⟨u0, u1, fu0, fu1⟩ := HOb.out.cellsAt (fun _ => rfl) HAX.out rfl
                  clear gl
                  go_upto_region 21 with (fail)
                  refine name_wp ?_
                  intro Xc hXc
                  have HOc : Hid (Own Xc X7.heap.size 44 2 encA (.slice (some ⟨g, 0, none⟩) p.as.length cap) (p.as.set q (nn, dd))) := by rw [hXc]; exact HOb.out.set2 (fun _ => rfl) rfl hql rfl
                  have HBc : Hid (Below w3.heap.size w3 Xc) := by rw [hXc]; exact (HBb.out.setCell (p := ⟨g, q * 2, none⟩) h3g.out _).setCell (p := ⟨g, q * 2 + 1, none⟩) h3g.out _
                  have eR : pfA p (msG m (some ⟨g, 0, none⟩) cap) = pfA (rich p q (nn, dd)) (msG m (some ⟨g, 0, none⟩) cap) := by simp [pfA, rich]
                  have GQc : Hid (Blk Xc bQ 27 (pfA (rich p q (nn, dd)) (msG m (some ⟨g, 0, none⟩) cap))) := by
                    rw [hXc, ← eR]; exact (GQb.out.far (p := ⟨g, q * 2, none⟩) (Nat.ne_of_lt HQG.out) _).far (p := ⟨g, q * 2 + 1, none⟩) (Nat.ne_of_lt HQG.out) _
                  have PMc : Hid (Pm Xc (rich p q (nn, dd)) (msG m (some ⟨g, 0, none⟩) cap)) := by
                    obtain ⟨A', c', e', _, sg⟩ := Own.seg HOc.out (fun _ => rfl)
                    obtain rfl : A' = some ⟨g, 0, none⟩ := by injection e' with e1 _ _; exact e1.symm
                    have := PM3.out.then_ HBc.out
                    exact ⟨sg, this.s2, this.s3, this.s4, this.s5⟩
                  clear hXc u0 u1 fu0 fu1 HOb GQb HBb HOc eR z2 z3 ll lgb nlg
                  have HDP := Lib.hid (dfo_any p m Xc HV.out (PM3.out.then_ HBc.out))
                  have HDQ : Hid (∀ W, Below Xc.heap.size Xc W → Calls Try.prog 13 #[.agg (pfA (rich p q (nn, dd)) (msG m (some ⟨g, 0, none⟩) cap))] W fun e w' => (∃ v z, e = .returned (.tuple #[v, .int .i64 z]) ∧ DfO (rich p q (nn, dd)) W w' v z) ∧ Below W.heap.size W w') := fun W hW => dfo_any _ _ W HVR.out (PMc.out.then_ hW)
                  clear k0 k1 k2 k3 k4 k5 lP
                  obtain ⟨k0, k1, k2, k3, k4, k5⟩ := pfCells (GP3.out.then_ HBc.out)
                  have lP := (GP3.out.then_ HBc.out).lt
                  go_upto_region 22 with (go_at_call 13; (with_reducible refine HDP.out.mono ?_); rintro e w6 ⟨⟨v7, z7, rfl, hd7⟩, hk6⟩)
                  have HD7 := Lib.hid hd7
                  have HK6 := Lib.hid hk6
                  clear k0 k1 k2 k3 k4 k5 lP
                  obtain ⟨k0, k1, k2, k3, k4, k5⟩ := pfCells (GQc.out.then_ HK6.out)
                  have lP := (GQc.out.then_ HK6.out).lt
                  clear hd7 hk6 HDP
                  go_upto_region 23 with (go_at_call 13; (with_reducible refine (HDQ.out _ HK6.out).mono ?_); rintro e w7 ⟨⟨v8, z8, rfl, hd8⟩, hk7⟩)
                  have HD8 := Lib.hid hd8
                  have HK7 := Lib.hid hk7
                  have HBF := Lib.hid (below_then HB3.out (below_then HBc.out (below_then HK6.out hk7)))
                  clear hd8 hk7 HDQ k0 k1 k2 k3 k4 k5 lP
                  rcases HD7.out with ⟨rfl, K, hK, hg7⟩ | rfl
                  · rcases HD8.out with ⟨rfl, K', hK', hg8⟩ | rfl
                    · obtain ⟨A7, c7, rfl, _, s7⟩ := Own.seg (Own.below hg7 HK7.out) encB_len
                      obtain ⟨A8, c8, rfl, _, s8⟩ := Own.seg hg8 encB_len
                      have hL7 := outD_len HV.out K
                      have hL8 : ((outD (rich p q (nn, dd)) K').length : Int) = p.n := outD_len HVR.out K'
                      have hsub := HML.out K K' hK hK'
                      have hin : ∀ i : Nat, (outD (rich p q (nn, dd)) K')[i]? = some true → (outD p K)[i]? = some true := fun i hi => by
                        have hil := (List.getElem?_eq_some_iff.1 hi).1
                        have h1 := has_of hi
                        rw [has_outD HVR.out] at h1
                        have h2 := hsub (i : Int) (by omega) (by omega) h1
                        rw [← has_outD HV.out] at h2
                        have hi7 : i < (outD p K).length := by omega
                        rw [has_of (List.getElem?_eq_getElem hi7)] at h2
                        rw [List.getElem?_eq_getElem hi7, h2]
                      obtain ⟨D, hD⟩ : ∃ D, outD p K = D := ⟨_, rfl⟩
                      obtain ⟨E, hE⟩ : ∃ E, outD (rich p q (nn, dd)) K' = E := ⟨_, rfl⟩
                      rw [hD] at s7 hL7 hin ⊢
                      rw [hE] at s8 hL8 hin ⊢
                      have hDN : D.length = N := by have := HN.out; omega
                      have hEN : E.length = N := by have := HN.out; omega
                      have S7 := Lib.hid s7
                      have S8 := Lib.hid s8
                      have HIN := Lib.hid hin
                      clear s7 s8 hin hsub hD hE hg7 hg8 hL7 hL8 hK hK' HD7 HD8 HML
                      go_upto_region 26 with (fail)
                      go_loopw [26] (fun x WQ => ∃ k : Nat, x = .int .i64 k ∧ k ≤ N ∧ Below w7.heap.size w7 WQ) (fun x _ => 2000 - (intOf x).toNat)
                      case atStart => exact ⟨0, rfl, by omega, Below.refl _ _⟩
                      case round =>
                        obtain ⟨i, rfl, hi, hbq⟩ := hrel
                        have HBQ := Lib.hid hbq
                        by_cases hlt : i < N
                        · obtain ⟨x, hx⟩ : ∃ x, E[i]? = some x := ⟨_, List.getElem?_eq_getElem (by omega)⟩
                          obtain ⟨y, hy⟩ : ∃ y, D[i]? = some y := ⟨_, List.getElem?_eq_getElem (by omega)⟩
                          obtain ⟨b1, o1, e1, hb1, x0⟩ := segB (S8.out.below hbq) hx
                          obtain ⟨b2, o2, e2, hb2, y0⟩ := segB (S7.out.below hbq) hy
                          have hbl1 : b1 < wr.heap.size := Nat.lt_of_lt_of_le hb1 hbq.size
                          have hbl2 : b2 < wr.heap.size := Nat.lt_of_lt_of_le hb2 hbq.size
                          subst e1
                          subst e2
                          have hge : decide (N ≤ i) = false := by simp; omega
                          cases x
                          · clear hx hy hbq
                            go_wp2
                            go_roundw
                            case rel => exact ⟨i + 1, by go_num, by omega, HBQ.out⟩
                            case measure => simp [intOf]; omega
                          · obtain rfl : y = true := Option.some.inj (hy.symm.trans (HIN.out i hx))
                            clear hx hy hbq
                            go_wp2
                            go_roundw
                            case rel => exact ⟨i + 1, by go_num, by omega, HBQ.out⟩
                            case measure => simp [intOf]; omega
                        · go_wp2
                          go_ret
                          exact ⟨rfl, below_then HBF.out HBQ.out⟩
                    · go_wp2
                      go_ret
                      exact ⟨rfl, HBF.out⟩
                  · go_wp2
                    go_ret
                    exact ⟨rfl, HBF.out⟩
                · rw [oN_no hin, oD_no hin, oE_no hin] at HADD
                  clear hin r1 r2 r3 s1 s2 s3
                  refine wp_region_qa (T := 44) (zs := #[.int .i64 0, .int .i64 0]) [0, 1, 2, 3, 4, 5, 6, 7, 8, 9] [10, 11] [13, 14] 12 20 (by kernel_rfl) (by kernel_rfl) (by repeat (first | with_reducible refine panOk_then ?_ | with_reducible refine panOk_block ?_ | exact panOk_body)) (fun _ _ => by rfl) ?_
                  apply Exists.intro
                  refine ⟨?_, ?_⟩
                  · intro S gS hGS
                    haveI := hGS.2.2
                    have rg0 := cell_cls hGS k0
                    have rg1 := cell_cls hGS k1
                    have rg2 := cell_cls hGS k2
                    have rg3 := cell_cls hGS k3
                    have rg4 := cell_cls hGS k4
                    have rg5 := cell_cls hGS k5
                    have rg6 := cell_cls hGS a0
                    have rg7 := cell_cls hGS a1
                    unfold cls
                    simp only [opsAt, List.getElem?_toArray, List.getElem?_cons_succ, List.getElem?_cons_zero, Option.toList_some, List.cons_append, List.nil_append]
                    repeat (go_big_quiet_step ((first | (go_at_call 20; exact qa_call hGS (fun W' _ => of_any _ W') _) | (go_at_call 19; exact qa_call hGS (fun W' _ => HADD.out W') _))))
                    refine wpQuiet_nil ?_
                    exact rfl
                  intro la Xa hla hbXa gla
                  simp only [opsAt, List.getElem?_toArray, List.getElem?_cons_succ, List.getElem?_cons_zero, Option.toList_some, List.cons_append, List.nil_append, Act.put, List.setIfInBounds_toArray, List.set_cons_succ, List.set_cons_zero]
                  obtain ⟨z0, z1, fz0, fz1⟩ := gla.two
                  have lla := gla.lt
                  have h1 : w.heap.size ≤ la := by
                    have := h3g.out; have := H9g.out; have := HB3.out.size; omega
                  go_wp2
                  go_ret
                  exact ⟨rfl, ((below_then HB3.out (below_then HB9.out hbXa)).setCell (p := ⟨la, 0, none⟩) h1 _).setCell (p := ⟨la, 1, none⟩) h1 _⟩
    · rw [hv] at HCV
      clear hv
      go_wp2_with (first | (go_at_call 12; (with_reducible refine (HFW.out _).mono ?_); rintro e w2 ⟨rfl, hk⟩; replace hz := Lib.hid (below_then hz.out hk); have kk := (pfCells (GP.out.then_ hz.out)); clear k0 k1 k2 k3 k4 k5 lP; obtain ⟨k0, k1, k2, k3, k4, k5⟩ := kk; have lP := (GP.out.then_ hz.out).lt; clear hk) | (go_at_call 14; (with_reducible refine (HCV.out _ hz.out).mono ?_); rintro e w3 ⟨rfl, hk⟩; replace hz := Lib.hid (below_then hz.out hk); have kk := (pfCells (GP.out.then_ hz.out)); clear k0 k1 k2 k3 k4 k5 lP; obtain ⟨k0, k1, k2, k3, k4, k5⟩ := kk; have lP := (GP.out.then_ hz.out).lt; clear hk))
      go_ret
      exact ⟨rfl, below_then HB1.out hz.out⟩
  · rw [hf] at HFW
    clear hf
    have hz := Lib.hid (Below.refl w1.heap.size w1)
    go_wp2_with (go_at_call 12; (with_reducible refine (HFW.out _).mono ?_); rintro e w2 ⟨rfl, hk⟩; replace hz := Lib.hid (below_then hz.out hk); have kk := (pfCells (GP.out.then_ hz.out)); clear k0 k1 k2 k3 k4 k5 lP; obtain ⟨k0, k1, k2, k3, k4, k5⟩ := kk; have lP := (GP.out.then_ hz.out).lt; clear hk)
    go_ret
    exact ⟨rfl, below_then HB1.out hz.out⟩
end Go.Proofs.Yteoicnhnpailiaa
