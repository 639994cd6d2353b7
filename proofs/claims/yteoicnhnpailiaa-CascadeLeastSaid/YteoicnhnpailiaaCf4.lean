/- The walk of CascadeLeast: true at every portfolio and set. -/
import Derived.Test.YteoicnhnpailiaaCe5
import Derived.Test.YteoicnhnpailiaaCe0
namespace Go.Proofs.Yteoicnhnpailiaa
open Go.RowKit Go.Sort Go.Maps

set_option maxRecDepth 100000 in
set_option maxHeartbeats 3200000 in
theorem least_any (p : Pf) (m : Ms) (st : List Bool) (As : Option Addr) (cs : Nat) (w : World) (hm : Pm w p m) (hl : Lp p) (hn : -9223372036854775808 ≤ p.n ∧ p.n ≤ 9223372036854775807) (ha : ∀ a ∈ p.as, fitA a) (hd : ∀ x ∈ p.du, fitD x) (hla : ∀ x ∈ p.la, fitD x) (hs : Seg w w.heap.size 1 encB As st) :
    Calls Try.prog 4 #[.agg (pfA p m), .slice As st.length cs] w fun e w' => e = .returned (.bool true) ∧ Below w.heap.size w w' := by
  have HM := Lib.hid hm
  have HST := Lib.hid hs
  have HFP := Lib.hid (fun hf => fp_few hl hn ha hd hla (k := 40) (by omega) hf)
  have HFW : Hid (∀ W : World, Calls Try.prog 12 #[.agg (pfA p m), .int .i64 40] W fun e w' => e = .returned (.bool (fewP p 40)) ∧ Below W.heap.size W w') := fun W => few_any p m 40 W (by omega) hl
  clear hm hl hn ha hd hla hs
  go_enter Try.func4, Try.ntmps4
  go_upto_region 1 with (fail)
  refine name_wp ?_
  intro X hX
  have gP0 : Blk X w.heap.size 27 (pfA p m) := by rw [hX]; exact Blk.new _ _ _
  have hbX : Below w.heap.size w X := by rw [hX]; exact wa1 _ _
  obtain ⟨bP, e0⟩ : ∃ b, w.heap.size = b := ⟨_, rfl⟩
  have hbP : Hid (w.heap.size ≤ bP) := Nat.le_of_eq e0
  rw [e0] at gP0 ⊢
  have GP0 := Lib.hid gP0
  have HX := Lib.hid hbX
  clear hX gP0 hbX e0
  go_upto_region 2 with (go_at_call 11; (with_reducible refine (head_any _).mono ?_); rintro e w1 ⟨rfl, hk⟩)
  have GP := Lib.hid (GP0.out.then_ hk)
  have HB1 := Lib.hid (below_then HX.out hk)
  clear hk GP0 HX
  obtain ⟨k0, k1, k2, k3, k4, k5⟩ := pfCells GP.out
  have lP := GP.out.lt
  rcases hbb (fewP p 40) with hf | hf
  · have HF := Lib.hid (HFP.out hf)
    have HCV := Lib.hid (fun W (hW : Below w1.heap.size w1 W) => cvalid_any p m W HF.out ((HM.out.then_ HB1.out).then_ hW))
    rw [hf] at HFW
    clear hf
    have hz := Lib.hid (Below.refl w1.heap.size w1)
    by_cases h20 : 20 < st.length
    · have h20' : decide (20 < st.length) = true := by simp [h20]
      go_wp2_with (first | (go_at_call 12; (with_reducible refine (HFW.out _).mono ?_); rintro e w2 ⟨rfl, hk⟩; replace hz := Lib.hid (below_then hz.out hk); have kk := (pfCells (GP.out.then_ hz.out)); clear k0 k1 k2 k3 k4 k5 lP; obtain ⟨k0, k1, k2, k3, k4, k5⟩ := kk; have lP := (GP.out.then_ hz.out).lt; clear hk) | (go_at_call 14; (with_reducible refine (HCV.out _ hz.out).mono ?_); rintro e w3 ⟨rfl, hk⟩; replace hz := Lib.hid (below_then hz.out hk); have kk := (pfCells (GP.out.then_ hz.out)); clear k0 k1 k2 k3 k4 k5 lP; obtain ⟨k0, k1, k2, k3, k4, k5⟩ := kk; have lP := (GP.out.then_ hz.out).lt; clear hk))
      go_ret
      exact ⟨rfl, below_then HB1.out hz.out⟩
    have h20' : decide (20 < st.length) = false := by simp; omega
    rcases hbb (vldP p) with hv | hv
    · have HV := Lib.hid (vldP_of hv)
      rw [hv] at HCV
      clear hv
      go_upto_region 4 with (first | (go_at_call 12; (with_reducible refine (HFW.out _).mono ?_); rintro e w2 ⟨rfl, hk⟩; replace hz := Lib.hid (below_then hz.out hk); have kk := (pfCells (GP.out.then_ hz.out)); clear k0 k1 k2 k3 k4 k5 lP; obtain ⟨k0, k1, k2, k3, k4, k5⟩ := kk; have lP := (GP.out.then_ hz.out).lt; clear hk) | (go_at_call 14; (with_reducible refine (HCV.out _ hz.out).mono ?_); rintro e w3 ⟨rfl, hk⟩; replace hz := Lib.hid (below_then hz.out hk); have kk := (pfCells (GP.out.then_ hz.out)); clear k0 k1 k2 k3 k4 k5 lP; obtain ⟨k0, k1, k2, k3, k4, k5⟩ := kk; have lP := (GP.out.then_ hz.out).lt; clear hk))
      have GP3 := Lib.hid (GP.out.then_ hz.out)
      have HB3 := Lib.hid (below_then HB1.out hz.out)
      have PM3 := Lib.hid (HM.out.then_ HB3.out)
      have ST3 := Lib.hid ((HST.out.below HB3.out).more HB3.out.size)
      have n12 := HV.out.n12
      have n1 := HV.out.n1
      have hmk := mk_any p.n n1 n12
      clear hz GP HB1 HFW HFP HCV HM HST
      obtain ⟨N, hN⟩ := Int.eq_ofNat_of_zero_le (show 0 ≤ p.n by omega)
      have HN := Lib.hid hN
      have hN2 : p.n.toNat = N := by omega
      have hN12 : N ≤ 12 := by omega
      rw [hN2] at hmk
      clear hN hN2
      go_upto_region 6 with (fail)
      refine name_wp ?_
      intro X4 hX4
      have HOV : Hid (∀ (T : List Bool) (k : Nat) (b : Nat) (W : World), T.length = N → k < N → Below w3.heap.size w3 W → Sb W b T → Calls Try.prog 15 #[.agg (pfA p m), .int .i64 k, .slice (some ⟨b, 0, none⟩) N N] W fun e w' => e = .returned (.tuple #[.bool (ovr p (pad T) k), .bool (ow p (pad T) k).isSome]) ∧ Below W.heap.size W w') := fun T k b W hT hk hW hb => over_set p m HN.out T hT k hk b W HV.out (PM3.out.then_ hW) hb
      have gs : Sb X4 w3.heap.size (List.replicate N false) := by
        have e : ((List.replicate N false).map Value.bool).toArray = Array.replicate N (.bool false) := by simp
        rw [hX4]; unfold Sb; rw [e]; exact Blk.new _ _ _
      have hb4 : Below w3.heap.size w3 X4 := by rw [hX4]; exact wa1 _ _
      obtain ⟨bT, eT⟩ : ∃ b, w3.heap.size = b := ⟨_, rfl⟩
      have hbT : Hid (w3.heap.size ≤ bT) := Nat.le_of_eq eT
      rw [eT] at gs ⊢
      have GS := Lib.hid gs
      have HB4 := Lib.hid hb4
      clear hX4 gs hb4 eT hmk k0 k1 k2 k3 k4 k5 lP
      go_loopw [7] (fun x WR => ∃ (k : Nat) (U : List Bool), x = .int .i64 k ∧ k ≤ N ∧ Hid (U.length = N ∧ Sb WR bT U ∧ Below w3.heap.size w3 WR)) (fun x _ => 2000 - (intOf x).toNat)
      case atStart => exact ⟨0, _, rfl, by omega, by simp, GS.out, HB4.out⟩
      case round =>
        obtain ⟨k, U, rfl, hk, hh⟩ := hrel
        have HH := hh
        obtain ⟨hUl, hU, hbr⟩ := hh.out
        have lT := hU.lt
        by_cases hkN : k < N
        · by_cases hks : k < st.length
          · obtain ⟨x, hx⟩ : ∃ x, st[k]? = some x := ⟨_, List.getElem?_eq_getElem hks⟩
            obtain ⟨b1, o1, ea, hb1, x0⟩ := segB (ST3.out.below hbr) hx
            have hbl1 : b1 < wr.heap.size := Nat.lt_of_lt_of_le hb1 hbr.size
            obtain ⟨u, hu⟩ : ∃ u, U[k]? = some u := ⟨_, List.getElem?_eq_getElem (by omega)⟩
            have u0 := hU.at_ hu
            have fz : wr.frozen? ⟨bT, k, none⟩ = false := hU.frozen k
            have hkN' : decide (k < N) = true := by simp [hkN]
            have hks' : decide (k < st.length) = true := by simp [hks]
            rw [ea]
            clear hx ea hu hh hUl hU hbr
            go_wp2
            go_roundw
            case rel => exact ⟨k + 1, U.set k x, by go_num, by omega, by rw [List.length_set]; exact HH.out.1, Sb.put HH.out.2.1 k x, HH.out.2.2.setCell (p := ⟨bT, k, none⟩) hbT.out _⟩
            case measure => simp [intOf]; omega
          · have hkN' : decide (k < N) = true := by simp [hkN]
            have hks' : decide (k < st.length) = false := by simp; omega
            clear hh hUl hU hbr
            go_upto_region 10 with (fail)
            go_loopw [8] (fun x WR => ∃ (b : Bool) (U : List Bool), x = .bool b ∧ Hid (U.length = N ∧ Sb WR bT U ∧ Below w3.heap.size w3 WR ∧ (b = false → ∀ i, i < N → ClAt p U i))) (fun x W => (if bv (some x) then 1 else 0) + 2 * (12 - cntT W bT))
            case atStart => exact ⟨true, U, rfl, HH.out.1, HH.out.2.1, HH.out.2.2, fun h => by cases h⟩
            case round =>
              clear HH
              obtain ⟨b, U, rfl, hh⟩ := hrel
              have HH := hh
              cases b
              · have HCL := Lib.hid (HH.out.2.2.2 rfl)
                obtain ⟨_, hU, hbr, _⟩ := hh.out
                have HBR := Lib.hid hbr
                have HU := Lib.hid hU
                obtain ⟨k0, k1, k2, k3, k4, k5⟩ := pfCells (GP3.out.then_ hbr)
                have lP := (GP3.out.then_ hbr).lt
                have HDF := Lib.hid (dfo_any p m wr HV.out (PM3.out.then_ hbr))
                have hUl : U.length = N := HH.out.1
                have HUL := Lib.hid hUl
                clear hh hU hbr hUl
                go_upto_region 22 with (go_at_call 13; (with_reducible refine HDF.out.mono ?_); rintro e w5 ⟨⟨v, z, rfl, hd⟩, hk5⟩)
                have HB5 := Lib.hid hk5
                clear k0 k1 k2 k3 k4 k5 lP HDF
                rcases hd with ⟨rfl, K, hK, hg⟩ | rfl
                · obtain ⟨A, c, rfl, _, sg⟩ := Own.seg hg encB_len
                  have hLD := outD_len HV.out K
                  have hin : ∀ i : Nat, (outD p K)[i]? = some true → U[i]? = some true := fun i hi => cl_least HV.out HN.out HUL.out HCL.out hi
                  obtain ⟨D, hD⟩ : ∃ D, outD p K = D := ⟨_, rfl⟩
                  rw [hD] at hLD sg hin ⊢
                  have HIN := Lib.hid hin
                  have SG := Lib.hid sg
                  have hDN : D.length = N := by have := HN.out; omega
                  clear hg sg hin hD hk5 hK
                  go_upto_region 25 with (fail)
                  go_loopw [14] (fun x WQ => ∃ k : Nat, x = .int .i64 k ∧ k ≤ N ∧ Below w5.heap.size w5 WQ) (fun x _ => 2000 - (intOf x).toNat)
                  case atStart => exact ⟨0, rfl, by omega, Below.refl _ _⟩
                  case round =>
                    obtain ⟨k, rfl, hk, hbq⟩ := hrel
                    have HBQ := Lib.hid hbq
                    by_cases hlt : k < N
                    · obtain ⟨x, hx⟩ : ∃ x, D[k]? = some x := ⟨_, List.getElem?_eq_getElem (by omega)⟩
                      obtain ⟨b1, o1, ea, hb1, x0⟩ := segB (SG.out.below hbq) hx
                      have hbl1 : b1 < wr.heap.size := Nat.lt_of_lt_of_le hb1 hbq.size
                      obtain ⟨u, hu⟩ : ∃ u, U[k]? = some u := ⟨_, List.getElem?_eq_getElem (by have := HUL.out; omega)⟩
                      have hU5 : Sb wr bT U := (HU.out.then_ HB5.out).then_ hbq
                      have u0 := hU5.at_ hu
                      have lT5 := hU5.lt
                      have hge : decide (N ≤ k) = false := by simp; omega
                      rw [ea]
                      cases x
                      · clear hx ea hu hU5 hbq
                        go_wp2
                        go_roundw
                        case rel => exact ⟨k + 1, by go_num, by omega, HBQ.out⟩
                        case measure => simp [intOf]; omega
                      · obtain rfl : u = true := Option.some.inj (hu.symm.trans (HIN.out k hx))
                        clear hx ea hu hU5 hbq
                        go_wp2
                        go_roundw
                        case rel => exact ⟨k + 1, by go_num, by omega, HBQ.out⟩
                        case measure => simp [intOf]; omega
                    · rw [hDN]
                      go_wp2
                      go_ret
                      exact ⟨rfl, below_then HB3.out (below_then HBR.out (below_then HB5.out HBQ.out))⟩
                · go_wp2
                  go_ret
                  exact ⟨rfl, below_then HB3.out (below_then HBR.out HB5.out)⟩
              · clear hh
                go_upto_region 13 with (fail)
                go_loopw [8, 9] (fun x y WQ => ∃ (b : Bool) (k : Nat) (V : List Bool), x = .bool b ∧ y = .int .i64 k ∧ k ≤ N ∧ Hid (V.length = N ∧ Sb WQ bT V ∧ Below w3.heap.size w3 WQ ∧ (b = false → V = U ∧ ∀ i, i < k → ClAt p V i) ∧ (b = true → (pad U).count true < (pad V).count true))) (fun _ y _ => 2000 - (intOf y).toNat)
                case atStart => exact ⟨false, 0, U, rfl, rfl, by omega, HH.out.1, HH.out.2.1, HH.out.2.2.1, fun _ => ⟨rfl, fun i hi => by omega⟩, fun h => by cases h⟩
                case round =>
                  obtain ⟨b, k, V, rfl, rfl, hk, hh⟩ := hrel
                  have HV2 := hh
                  obtain ⟨hVl, hV, hbq, _, _⟩ := hh.out
                  have HBQ := Lib.hid hbq
                  have HVB := Lib.hid hV
                  have HVL := Lib.hid hVl
                  by_cases hlt : k < N
                  · obtain ⟨s, hs⟩ : ∃ s, (ow p (pad V) k).isSome = s := ⟨_, rfl⟩
                    obtain ⟨o, ho⟩ : ∃ o, ovr p (pad V) k = o := ⟨_, rfl⟩
                    have HO := Lib.hid (HOV.out V k bT wr hVl hlt hbq hV)
                    rw [hs, ho] at HO
                    have HSS := Lib.hid hs
                    have HOO := Lib.hid ho
                    obtain ⟨u, hu⟩ : ∃ u, V[k]? = some u := ⟨_, List.getElem?_eq_getElem (by omega)⟩
                    have HUU := Lib.hid hu
                    obtain ⟨k0, k1, k2, k3, k4, k5⟩ := pfCells (GP3.out.then_ hbq)
                    have lP := (GP3.out.then_ hbq).lt
                    clear hh hVl hV hbq hs ho hu
                    cases s
                    · go_wp2_with (go_at_call 15; (with_reducible refine HO.out.mono ?_); rintro e w5 ⟨rfl, hk5⟩)
                      go_ret
                      exact ⟨rfl, below_then HB3.out (below_then HBQ.out hk5)⟩
                    · go_upto_region 16 with (go_at_call 15; (with_reducible refine HO.out.mono ?_); rintro e w5 ⟨rfl, hk5⟩)
                      have hV5 : Sb w5 bT V := HVB.out.then_ hk5
                      have HB5 := Lib.hid (below_then HBQ.out hk5)
                      have HV5 := Lib.hid hV5
                      have u0 := hV5.at_ HUU.out
                      have lT5 := hV5.lt
                      have fz : w5.frozen? ⟨bT, k, none⟩ = false := hV5.frozen k
                      clear k0 k1 k2 k3 k4 k5 lP hk5 hV5 HO
                      cases o
                      · go_wp2
                        go_roundw
                        case rel => exact ⟨b, k + 1, V, rfl, by go_num, by omega, HVL.out, HV5.out, HB5.out, fun hb => ⟨(HV2.out.2.2.2.1 hb).1, fun i hi => by
                          rcases Nat.lt_or_ge i k with h | h
                          · exact (HV2.out.2.2.2.1 hb).2 i h
                          · obtain rfl : i = k := by omega
                            exact ⟨HSS.out, fun h => by rw [HOO.out] at h; cases h⟩⟩, HV2.out.2.2.2.2⟩
                        case measure => simp [intOf]; omega
                      · cases u
                        · have HCN : Hid ((pad U).count true < (pad (V.set k true)).count true) := by
                            unfold Hid
                            rw [cnt_set (by have := HVL.out; omega) HUU.out]
                            cases b
                            · rw [← (HV2.out.2.2.2.1 rfl).1]; omega
                            · have := HV2.out.2.2.2.2 rfl
                              omega
                          go_wp2
                          go_roundw
                          case rel => exact ⟨true, k + 1, V.set k true, rfl, by go_num, by omega, by rw [List.length_set]; exact HVL.out, Sb.put HV5.out k true, HB5.out.setCell (p := ⟨bT, k, none⟩) hbT.out _, (fun h => by cases h), fun _ => HCN.out⟩
                          case measure => simp [intOf]; omega
                        · go_wp2
                          go_roundw
                          case rel => exact ⟨b, k + 1, V, rfl, by go_num, by omega, HVL.out, HV5.out, HB5.out, fun hb => ⟨(HV2.out.2.2.2.1 hb).1, fun i hi => by
                            rcases Nat.lt_or_ge i k with h | h
                            · exact (HV2.out.2.2.2.1 hb).2 i h
                            · obtain rfl : i = k := by omega
                              exact ⟨HSS.out, fun _ => HUU.out⟩⟩, HV2.out.2.2.2.2⟩
                          case measure => simp [intOf]; omega
                  · clear hh hVl hV hbq
                    go_wp2
                    go_roundw
                    case rel => exact ⟨b, V, rfl, HVL.out, HVB.out, HBQ.out, fun hb i hi => (HV2.out.2.2.2.1 hb).2 i (by omega)⟩
                    case measure =>
                      have e1 := cntT_eq HVB.out
                      have e2 := cntT_eq HH.out.2.1
                      have hc : (pad V).count true ≤ 12 := by have := List.count_le_length (a := true) (l := pad V); rw [pad_len] at this; exact this
                      cases b
                      · have e3 := (HV2.out.2.2.2.1 rfl).1
                        subst e3
                        simp [bv, e1, e2]
                      · have e3 := HV2.out.2.2.2.2 rfl
                        simp [bv, e1, e2]; omega
        · have hkN' : decide (k < N) = false := by simp; omega
          clear hh hUl hU hbr
          go_upto_region 10 with (fail)
          go_loopw [8] (fun x WR => ∃ (b : Bool) (U : List Bool), x = .bool b ∧ Hid (U.length = N ∧ Sb WR bT U ∧ Below w3.heap.size w3 WR ∧ (b = false → ∀ i, i < N → ClAt p U i))) (fun x W => (if bv (some x) then 1 else 0) + 2 * (12 - cntT W bT))
          case atStart => exact ⟨true, U, rfl, HH.out.1, HH.out.2.1, HH.out.2.2, fun h => by cases h⟩
          case round =>
            clear HH
            obtain ⟨b, U, rfl, hh⟩ := hrel
            have HH := hh
            cases b
            · have HCL := Lib.hid (HH.out.2.2.2 rfl)
              obtain ⟨_, hU, hbr, _⟩ := hh.out
              have HBR := Lib.hid hbr
              have HU := Lib.hid hU
              obtain ⟨k0, k1, k2, k3, k4, k5⟩ := pfCells (GP3.out.then_ hbr)
              have lP := (GP3.out.then_ hbr).lt
              have HDF := Lib.hid (dfo_any p m wr HV.out (PM3.out.then_ hbr))
              have hUl : U.length = N := HH.out.1
              have HUL := Lib.hid hUl
              clear hh hU hbr hUl
              go_upto_region 22 with (go_at_call 13; (with_reducible refine HDF.out.mono ?_); rintro e w5 ⟨⟨v, z, rfl, hd⟩, hk5⟩)
              have HB5 := Lib.hid hk5
              clear k0 k1 k2 k3 k4 k5 lP HDF
              rcases hd with ⟨rfl, K, hK, hg⟩ | rfl
              · obtain ⟨A, c, rfl, _, sg⟩ := Own.seg hg encB_len
                have hLD := outD_len HV.out K
                have hin : ∀ i : Nat, (outD p K)[i]? = some true → U[i]? = some true := fun i hi => cl_least HV.out HN.out HUL.out HCL.out hi
                obtain ⟨D, hD⟩ : ∃ D, outD p K = D := ⟨_, rfl⟩
                rw [hD] at hLD sg hin ⊢
                have HIN := Lib.hid hin
                have SG := Lib.hid sg
                have hDN : D.length = N := by have := HN.out; omega
                clear hg sg hin hD hk5 hK
                go_upto_region 25 with (fail)
                go_loopw [14] (fun x WQ => ∃ k : Nat, x = .int .i64 k ∧ k ≤ N ∧ Below w5.heap.size w5 WQ) (fun x _ => 2000 - (intOf x).toNat)
                case atStart => exact ⟨0, rfl, by omega, Below.refl _ _⟩
                case round =>
                  obtain ⟨k, rfl, hk, hbq⟩ := hrel
                  have HBQ := Lib.hid hbq
                  by_cases hlt : k < N
                  · obtain ⟨x, hx⟩ : ∃ x, D[k]? = some x := ⟨_, List.getElem?_eq_getElem (by omega)⟩
                    obtain ⟨b1, o1, ea, hb1, x0⟩ := segB (SG.out.below hbq) hx
                    have hbl1 : b1 < wr.heap.size := Nat.lt_of_lt_of_le hb1 hbq.size
                    obtain ⟨u, hu⟩ : ∃ u, U[k]? = some u := ⟨_, List.getElem?_eq_getElem (by have := HUL.out; omega)⟩
                    have hU5 : Sb wr bT U := (HU.out.then_ HB5.out).then_ hbq
                    have u0 := hU5.at_ hu
                    have lT5 := hU5.lt
                    have hge : decide (N ≤ k) = false := by simp; omega
                    rw [ea]
                    cases x
                    · clear hx ea hu hU5 hbq
                      go_wp2
                      go_roundw
                      case rel => exact ⟨k + 1, by go_num, by omega, HBQ.out⟩
                      case measure => simp [intOf]; omega
                    · obtain rfl : u = true := Option.some.inj (hu.symm.trans (HIN.out k hx))
                      clear hx ea hu hU5 hbq
                      go_wp2
                      go_roundw
                      case rel => exact ⟨k + 1, by go_num, by omega, HBQ.out⟩
                      case measure => simp [intOf]; omega
                  · rw [hDN]
                    go_wp2
                    go_ret
                    exact ⟨rfl, below_then HB3.out (below_then HBR.out (below_then HB5.out HBQ.out))⟩
              · go_wp2
                go_ret
                exact ⟨rfl, below_then HB3.out (below_then HBR.out HB5.out)⟩
            · clear hh
              go_upto_region 13 with (fail)
              go_loopw [8, 9] (fun x y WQ => ∃ (b : Bool) (k : Nat) (V : List Bool), x = .bool b ∧ y = .int .i64 k ∧ k ≤ N ∧ Hid (V.length = N ∧ Sb WQ bT V ∧ Below w3.heap.size w3 WQ ∧ (b = false → V = U ∧ ∀ i, i < k → ClAt p V i) ∧ (b = true → (pad U).count true < (pad V).count true))) (fun _ y _ => 2000 - (intOf y).toNat)
              case atStart => exact ⟨false, 0, U, rfl, rfl, by omega, HH.out.1, HH.out.2.1, HH.out.2.2.1, fun _ => ⟨rfl, fun i hi => by omega⟩, fun h => by cases h⟩
              case round =>
                obtain ⟨b, k, V, rfl, rfl, hk, hh⟩ := hrel
                have HV2 := hh
                obtain ⟨hVl, hV, hbq, _, _⟩ := hh.out
                have HBQ := Lib.hid hbq
                have HVB := Lib.hid hV
                have HVL := Lib.hid hVl
                by_cases hlt : k < N
                · obtain ⟨s, hs⟩ : ∃ s, (ow p (pad V) k).isSome = s := ⟨_, rfl⟩
                  obtain ⟨o, ho⟩ : ∃ o, ovr p (pad V) k = o := ⟨_, rfl⟩
                  have HO := Lib.hid (HOV.out V k bT wr hVl hlt hbq hV)
                  rw [hs, ho] at HO
                  have HSS := Lib.hid hs
                  have HOO := Lib.hid ho
                  obtain ⟨u, hu⟩ : ∃ u, V[k]? = some u := ⟨_, List.getElem?_eq_getElem (by omega)⟩
                  have HUU := Lib.hid hu
                  obtain ⟨k0, k1, k2, k3, k4, k5⟩ := pfCells (GP3.out.then_ hbq)
                  have lP := (GP3.out.then_ hbq).lt
                  clear hh hVl hV hbq hs ho hu
                  cases s
                  · go_wp2_with (go_at_call 15; (with_reducible refine HO.out.mono ?_); rintro e w5 ⟨rfl, hk5⟩)
                    go_ret
                    exact ⟨rfl, below_then HB3.out (below_then HBQ.out hk5)⟩
                  · go_upto_region 16 with (go_at_call 15; (with_reducible refine HO.out.mono ?_); rintro e w5 ⟨rfl, hk5⟩)
                    have hV5 : Sb w5 bT V := HVB.out.then_ hk5
                    have HB5 := Lib.hid (below_then HBQ.out hk5)
                    have HV5 := Lib.hid hV5
                    have u0 := hV5.at_ HUU.out
                    have lT5 := hV5.lt
                    have fz : w5.frozen? ⟨bT, k, none⟩ = false := hV5.frozen k
                    clear k0 k1 k2 k3 k4 k5 lP hk5 hV5 HO
                    cases o
                    · go_wp2
                      go_roundw
                      case rel => exact ⟨b, k + 1, V, rfl, by go_num, by omega, HVL.out, HV5.out, HB5.out, fun hb => ⟨(HV2.out.2.2.2.1 hb).1, fun i hi => by
                        rcases Nat.lt_or_ge i k with h | h
                        · exact (HV2.out.2.2.2.1 hb).2 i h
                        · obtain rfl : i = k := by omega
                          exact ⟨HSS.out, fun h => by rw [HOO.out] at h; cases h⟩⟩, HV2.out.2.2.2.2⟩
                      case measure => simp [intOf]; omega
                    · cases u
                      · have HCN : Hid ((pad U).count true < (pad (V.set k true)).count true) := by
                          unfold Hid
                          rw [cnt_set (by have := HVL.out; omega) HUU.out]
                          cases b
                          · rw [← (HV2.out.2.2.2.1 rfl).1]; omega
                          · have := HV2.out.2.2.2.2 rfl
                            omega
                        go_wp2
                        go_roundw
                        case rel => exact ⟨true, k + 1, V.set k true, rfl, by go_num, by omega, by rw [List.length_set]; exact HVL.out, Sb.put HV5.out k true, HB5.out.setCell (p := ⟨bT, k, none⟩) hbT.out _, (fun h => by cases h), fun _ => HCN.out⟩
                        case measure => simp [intOf]; omega
                      · go_wp2
                        go_roundw
                        case rel => exact ⟨b, k + 1, V, rfl, by go_num, by omega, HVL.out, HV5.out, HB5.out, fun hb => ⟨(HV2.out.2.2.2.1 hb).1, fun i hi => by
                          rcases Nat.lt_or_ge i k with h | h
                          · exact (HV2.out.2.2.2.1 hb).2 i h
                          · obtain rfl : i = k := by omega
                            exact ⟨HSS.out, fun _ => HUU.out⟩⟩, HV2.out.2.2.2.2⟩
                        case measure => simp [intOf]; omega
                · clear hh hVl hV hbq
                  go_wp2
                  go_roundw
                  case rel => exact ⟨b, V, rfl, HVL.out, HVB.out, HBQ.out, fun hb i hi => (HV2.out.2.2.2.1 hb).2 i (by omega)⟩
                  case measure =>
                    have e1 := cntT_eq HVB.out
                    have e2 := cntT_eq HH.out.2.1
                    have hc : (pad V).count true ≤ 12 := by have := List.count_le_length (a := true) (l := pad V); rw [pad_len] at this; exact this
                    cases b
                    · have e3 := (HV2.out.2.2.2.1 rfl).1
                      subst e3
                      simp [bv, e1, e2]
                    · have e3 := HV2.out.2.2.2.2 rfl
                      simp [bv, e1, e2]; omega
    · rw [hv] at HCV
      clear hv
      go_wp2_with (first | (go_at_call 12; (with_reducible refine (HFW.out _).mono ?_); rintro e w2 ⟨rfl, hk⟩; replace hz := Lib.hid (below_then hz.out hk); have kk := (pfCells (GP.out.then_ hz.out)); clear k0 k1 k2 k3 k4 k5 lP; obtain ⟨k0, k1, k2, k3, k4, k5⟩ := kk; have lP := (GP.out.then_ hz.out).lt; clear hk) | (go_at_call 14; (with_reducible refine (HCV.out _ hz.out).mono ?_); rintro e w3 ⟨rfl, hk⟩; replace hz := Lib.hid (below_then hz.out hk); have kk := (pfCells (GP.out.then_ hz.out)); clear k0 k1 k2 k3 k4 k5 lP; obtain ⟨k0, k1, k2, k3, k4, k5⟩ := kk; have lP := (GP.out.then_ hz.out).lt; clear hk))
      go_ret
      exact ⟨rfl, below_then HB1.out hz.out⟩
  · rw [hf] at HFW
    clear hf
    have hz := Lib.hid (Below.refl w1.heap.size w1)
    go_wp2_with (go_at_call 12; (with_reducible refine (HFW.out _).mono ?_); rintro e w2 ⟨rfl, hk⟩; replace hz := Lib.hid (below_then hz.out hk); have kk := (pfCells (GP.out.then_ hz.out)); clear k0 k1 k2 k3 k4 k5 lP; obtain ⟨k0, k1, k2, k3, k4, k5⟩ := kk; have lP := (GP.out.then_ hz.out).lt; clear hk)
    go_ret
    exact ⟨rfl, below_then HB1.out hz.out⟩
end Go.Proofs.Yteoicnhnpailiaa
