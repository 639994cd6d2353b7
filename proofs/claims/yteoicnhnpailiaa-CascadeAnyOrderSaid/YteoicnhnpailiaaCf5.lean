/- The walk of CascadeAnyOrder: true at every portfolio and list of choices. -/
import Derived.Test.YteoicnhnpailiaaCe6
import Derived.Test.YteoicnhnpailiaaCe0
namespace Go.Proofs.Yteoicnhnpailiaa
open Go.RowKit Go.Sort Go.Maps

set_option maxRecDepth 100000 in
set_option maxHeartbeats 3200000 in
theorem anyorder_any (p : Pf) (m : Ms) (st : List Int) (As : Option Addr) (cs : Nat) (w : World) (hm : Pm w p m) (hl : Lp p) (hn : -9223372036854775808 ≤ p.n ∧ p.n ≤ 9223372036854775807) (ha : ∀ a ∈ p.as, fitA a) (hd : ∀ x ∈ p.du, fitD x) (hla : ∀ x ∈ p.la, fitD x) (hs : Seg w w.heap.size 1 encU As st) (hu8 : ∀ x ∈ st, 0 ≤ x ∧ x ≤ 255) :
    Calls Try.prog 5 #[.agg (pfA p m), .slice As st.length cs] w fun e w' => e = .returned (.bool true) ∧ Below w.heap.size w w' := by
  have HM := Lib.hid hm
  have HST := Lib.hid hs
  have H8 := Lib.hid hu8
  have HFP := Lib.hid (fun hf => fp_few hl hn ha hd hla (k := 40) (by omega) hf)
  have HFW : Hid (∀ W : World, Calls Try.prog 12 #[.agg (pfA p m), .int .i64 40] W fun e w' => e = .returned (.bool (fewP p 40)) ∧ Below W.heap.size W w') := fun W => few_any p m 40 W (by omega) hl
  clear hm hl hn ha hd hla hs hu8
  go_enter Try.func5, Try.ntmps5
  go_upto_region 1 with (fail)
  refine name_wp ?_
  intro X hX
  have gP0 : Blk X w.heap.size 27 (pfA p m) := by rw [hX]; exact Blk.new _ _ _
  have hbX : Below w.heap.size w X := by rw [hX]; exact wa1 _ _
  obtain ⟨bP, e0⟩ : ∃ b, w.heap.size = b := ⟨_, rfl⟩
  have hbP : Hid (w.heap.size ≤ bP) := Nat.le_of_eq e0
  rw [e0] at gP0 ⊢
  have GP0 := Lib.hid gP0
  have HX := Lib.hid hbX
  clear hX gP0 hbX e0
  go_upto_region 2 with (go_at_call 11; (with_reducible refine (head_any _).mono ?_); rintro e w1 ⟨rfl, hk⟩)
  have GP := Lib.hid (GP0.out.then_ hk)
  have HB1 := Lib.hid (below_then HX.out hk)
  clear hk GP0 HX
  obtain ⟨k0, k1, k2, k3, k4, k5⟩ := pfCells GP.out
  have lP := GP.out.lt
  rcases hbb (fewP p 40) with hf | hf
  · have HF := Lib.hid (HFP.out hf)
    have HCV := Lib.hid (fun W (hW : Below w1.heap.size w1 W) => cvalid_any p m W HF.out ((HM.out.then_ HB1.out).then_ hW))
    rw [hf] at HFW
    clear hf
    have hz := Lib.hid (Below.refl w1.heap.size w1)
    by_cases h20 : 20 < st.length
    · have h20' : decide (20 < st.length) = true := by simp [h20]
      go_wp2_with (first | (go_at_call 12; (with_reducible refine (HFW.out _).mono ?_); rintro e w2 ⟨rfl, hk⟩; replace hz := Lib.hid (below_then hz.out hk); have kk := (pfCells (GP.out.then_ hz.out)); clear k0 k1 k2 k3 k4 k5 lP; obtain ⟨k0, k1, k2, k3, k4, k5⟩ := kk; have lP := (GP.out.then_ hz.out).lt; clear hk) | (go_at_call 14; (with_reducible refine (HCV.out _ hz.out).mono ?_); rintro e w3 ⟨rfl, hk⟩; replace hz := Lib.hid (below_then hz.out hk); have kk := (pfCells (GP.out.then_ hz.out)); clear k0 k1 k2 k3 k4 k5 lP; obtain ⟨k0, k1, k2, k3, k4, k5⟩ := kk; have lP := (GP.out.then_ hz.out).lt; clear hk))
      go_ret
      exact ⟨rfl, below_then HB1.out hz.out⟩
    have h20' : decide (20 < st.length) = false := by simp; omega
    rcases hbb (vldP p) with hv | hv
    · have HV := Lib.hid (vldP_of hv)
      rw [hv] at HCV
      clear hv
      go_upto_region 4 with (first | (go_at_call 12; (with_reducible refine (HFW.out _).mono ?_); rintro e w2 ⟨rfl, hk⟩; replace hz := Lib.hid (below_then hz.out hk); have kk := (pfCells (GP.out.then_ hz.out)); clear k0 k1 k2 k3 k4 k5 lP; obtain ⟨k0, k1, k2, k3, k4, k5⟩ := kk; have lP := (GP.out.then_ hz.out).lt; clear hk) | (go_at_call 14; (with_reducible refine (HCV.out _ hz.out).mono ?_); rintro e w3 ⟨rfl, hk⟩; replace hz := Lib.hid (below_then hz.out hk); have kk := (pfCells (GP.out.then_ hz.out)); clear k0 k1 k2 k3 k4 k5 lP; obtain ⟨k0, k1, k2, k3, k4, k5⟩ := kk; have lP := (GP.out.then_ hz.out).lt; clear hk))
      have GP3 := Lib.hid (GP.out.then_ hz.out)
      have HB3 := Lib.hid (below_then HB1.out hz.out)
      have PM3 := Lib.hid (HM.out.then_ HB3.out)
      have ST3 := Lib.hid ((HST.out.below HB3.out).more HB3.out.size)
      have n12 := HV.out.n12
      have n1 := HV.out.n1
      have hmk := mk_any p.n n1 n12
      clear hz GP HB1 HFW HFP HCV HM HST
      obtain ⟨N, hN⟩ := Int.eq_ofNat_of_zero_le (show 0 ≤ p.n by omega)
      have HN := Lib.hid hN
      have hN2 : p.n.toNat = N := by omega
      have hN12 : N ≤ 12 := by omega
      rw [hN2] at hmk
      clear hN hN2
      go_upto_region 6 with (fail)
      refine name_wp ?_
      intro X4 hX4
      have HOV : Hid (∀ (T : List Bool) (k : Nat) (b : Nat) (W : World), T.length = N → k < N → Below w3.heap.size w3 W → Sb W b T → Calls Try.prog 15 #[.agg (pfA p m), .int .i64 k, .slice (some ⟨b, 0, none⟩) N N] W fun e w' => e = .returned (.tuple #[.bool (ovr p (pad T) k), .bool (ow p (pad T) k).isSome]) ∧ Below W.heap.size W w') := fun T k b W hT hk hW hb => over_set p m HN.out T hT k hk b W HV.out (PM3.out.then_ hW) hb
      have gs : Sb X4 w3.heap.size (List.replicate N false) := by
        have e : ((List.replicate N false).map Value.bool).toArray = Array.replicate N (.bool false) := by simp
        rw [hX4]; unfold Sb; rw [e]; exact Blk.new _ _ _
      have hb4 : Below w3.heap.size w3 X4 := by rw [hX4]; exact wa1 _ _
      obtain ⟨bT, eT⟩ : ∃ b, w3.heap.size = b := ⟨_, rfl⟩
      have hbT : Hid (w3.heap.size ≤ bT) := Nat.le_of_eq eT
      rw [eT] at gs ⊢
      have GS := Lib.hid gs
      have HB4 := Lib.hid hb4
      clear hX4 gs hb4 eT hmk k0 k1 k2 k3 k4 k5 lP
      obtain ⟨ri, hin, hz0, hz1, hz2⟩ := info_parts (show (Try.prog.info? 3).map (fun i => (i.zero, i.size, i.bytes)) = some (some (.int .i64 0), 1, 8) by kernel_rfl)
      go_loopw [7] (fun x WR => ∃ (n : Nat) (U : List Bool), x = .int .i64 n ∧ n ≤ N ∧ Hid (U.length = N ∧ Sb WR bT U ∧ Below w3.heap.size w3 WR ∧ n ≤ (pad U).count true ∧ ∀ K, SpOk p K → sub p.n (pad U) (Dk p K))) (fun x _ => 2000 - (intOf x).toNat)
      case atStart => exact ⟨0, List.replicate N false, rfl, by omega, by simp, GS.out, HB4.out, by omega, fun K _ => sub_none hN12 _⟩
      case round =>
        obtain ⟨n, U, rfl, hn, hh⟩ := hrel
        obtain ⟨Z, hZ⟩ : ∃ Z, Z = wr := ⟨_, rfl⟩
        subst hZ
        have HH := hh
        obtain ⟨_, _, hbr, _, _⟩ := hh.out
        have HBR := Lib.hid hbr
        have hnn : (n : Int) ≤ p.n := by have := HN.out; omega
        obtain ⟨k0, k1, k2, k3, k4, k5⟩ := pfCells (GP3.out.then_ hbr)
        have lP := (GP3.out.then_ hbr).lt
        clear hh hbr
        go_upto_region 10 with (fail)
        clear k0 k1 k2 k3 k4 k5 lP
        go_loopw [8, 9] (fun v y WQ => ∃ (k : Nat) (os : List Int), y = .int .i64 k ∧ k ≤ N ∧ Hid (Own WQ Z.heap.size 3 1 encN v os ∧ Below Z.heap.size Z WQ ∧ os.length ≤ k ∧ (∀ x ∈ os, ∃ j : Nat, j < N ∧ x = j ∧ ovr p (pad U) j = true ∧ U[j]? = some false) ∧ (os = [] → ∀ i, i < k → ClAt p U i))) (fun _ y _ => 2000 - (intOf y).toNat)
        case atStart => exact ⟨0, [], rfl, by omega, Own.nil .., Below.refl _ _, by simp, by simp, fun _ i hi => by omega⟩
        case round =>
          obtain ⟨k, os, rfl, hk, hh⟩ := hrel
          have HV2 := hh
          obtain ⟨hO, hbq, hol, _, _⟩ := hh.out
          have HBQ := Lib.hid hbq
          have HBW := Lib.hid (below_then HBR.out hbq)
          have HU := Lib.hid (show Sb wr bT U from HH.out.2.1.then_ hbq)
          by_cases hlt : k < N
          · obtain ⟨s, hs⟩ : ∃ s, (ow p (pad U) k).isSome = s := ⟨_, rfl⟩
            obtain ⟨o, ho⟩ : ∃ o, ovr p (pad U) k = o := ⟨_, rfl⟩
            have HO := Lib.hid (HOV.out U k bT wr HH.out.1 hlt HBW.out HU.out)
            rw [hs, ho] at HO
            have HSS := Lib.hid hs
            have HOO := Lib.hid ho
            obtain ⟨u, hu⟩ : ∃ u, U[k]? = some u := ⟨_, List.getElem?_eq_getElem (by have := HH.out.1; omega)⟩
            have HUU := Lib.hid hu
            obtain ⟨k0, k1, k2, k3, k4, k5⟩ := pfCells (GP3.out.then_ HBW.out)
            have lP := (GP3.out.then_ HBW.out).lt
            clear hh hO hbq hs ho hu
            cases s
            · go_wp2_with (go_at_call 15; (with_reducible refine HO.out.mono ?_); rintro e w5 ⟨rfl, hk5⟩)
              go_ret
              exact ⟨rfl, below_then HB3.out (below_then HBW.out hk5)⟩
            · go_upto_region 15 with (go_at_call 15; (with_reducible refine HO.out.mono ?_); rintro e w5 ⟨rfl, hk5⟩)
              have hV5 : Sb w5 bT U := HU.out.then_ hk5
              have HB5 := Lib.hid (below_then HBQ.out hk5)
              have HO5 := Lib.hid (Own.below HV2.out.1 hk5)
              have u0 := hV5.at_ HUU.out
              have lT5 := hV5.lt
              clear k0 k1 k2 k3 k4 k5 lP hk5 hV5 HO
              cases o
              · go_wp2
                go_roundw
                case rel => exact ⟨k + 1, os, by go_num, by omega, HO5.out, HB5.out, by omega, HV2.out.2.2.2.1, fun ho i hi => by
                  rcases Nat.lt_or_ge i k with h | h
                  · exact HV2.out.2.2.2.2 ho i h
                  · obtain rfl : i = k := by omega
                    exact ⟨HSS.out, fun h => by rw [HOO.out] at h; cases h⟩⟩
                case measure => simp [intOf]; omega
              · cases u
                · have hrl : os.length ≤ 1000000 := by omega
                  have hB5 : Z.heap.size ≤ w5.heap.size := HB5.out.size
                  go_wp2_with (at_builtin; go_loud (refine wpList_app _ rfl (.tmp 63) (.tmp 65) _ rfl Z.heap.size 3 ri _ 1 8 Try.underlying39 hin hz0 hz1 hz2 rfl (by omega) (by omega) encN encN_len (fun u => by intro v hv; simp [encN] at hv; subst hv; rfl) _ os rfl (HO5.out.alloc _) hrl w5.heap.size 1 (k : Int) rfl (Blk.new _ _ _) (by simp; omega) ?_); intro v8 V8 hO8 hb8 _)
                  go_roundw
                  case rel => exact ⟨k + 1, os ++ [(k : Int)], by go_num, by omega, hO8, (below_alloc HB5.out _).trans hb8, by rw [List.length_append]; simp; omega, fun x hx => by
                    rcases List.mem_append.1 hx with h | h
                    · exact HV2.out.2.2.2.1 x h
                    · exact ⟨k, hlt, by simpa using h, HOO.out, HUU.out⟩, fun h => by simp at h⟩
                  case measure => simp [intOf]; omega
                · go_wp2
                  go_roundw
                  case rel => exact ⟨k + 1, os, by go_num, by omega, HO5.out, HB5.out, by omega, HV2.out.2.2.2.1, fun ho i hi => by
                    rcases Nat.lt_or_ge i k with h | h
                    · exact HV2.out.2.2.2.2 ho i h
                    · obtain rfl : i = k := by omega
                      exact ⟨HSS.out, fun _ => HUU.out⟩⟩
                  case measure => simp [intOf]; omega
          · obtain ⟨A, c, rfl, _, so⟩ := Own.seg hO encN_len
            have SO := Lib.hid so
            have hkN : k = N := by omega
            clear hh hO so hbq
            obtain ⟨k0, k1, k2, k3, k4, k5⟩ := pfCells (GP3.out.then_ HBW.out)
            have lP := (GP3.out.then_ HBW.out).lt
            by_cases hos : os = []
            · subst hos
              have HCL := Lib.hid (HV2.out.2.2.2.2 rfl)
              have HDF := Lib.hid (dfo_any p m wr HV.out (PM3.out.then_ HBW.out))
              go_upto_region 23 with (go_at_call 13; (with_reducible refine HDF.out.mono ?_); rintro e w5 ⟨⟨v, z, rfl, hd⟩, hk5⟩)
              have HB5 := Lib.hid (below_then HBW.out hk5)
              have HU5 := Lib.hid (show Sb w5 bT U from HU.out.then_ hk5)
              clear k0 k1 k2 k3 k4 k5 lP HDF hk5
              rcases hd with ⟨rfl, K, hK, hg⟩ | rfl
              · obtain ⟨A', c', rfl, _, sg⟩ := Own.seg hg encB_len
                have he := any_eq HV.out HN.out HH.out.1 hK (HH.out.2.2.2.2 K hK) (fun i hi => HCL.out i (by omega))
                have HBO : Hid (Calls Try.prog 16 #[.slice A' N c', .slice (some ⟨bT, 0, none⟩) N N] w5 fun e w' => e = .returned (.bool true) ∧ Below w5.heap.size w5 w') := by
                  rw [he] at sg
                  have hUl := HH.out.1
                  have := bools_any U U A' (some ⟨bT, 0, none⟩) c' N w5 (by omega) (by omega) sg HU5.out.seg
                  rw [decide_eq_true rfl, hUl] at this
                  exact this
                rw [he, HH.out.1]
                clear he sg hg hK
                go_wp2_with (go_at_call 16; (with_reducible refine HBO.out.mono ?_); rintro e w6 ⟨rfl, hk6⟩)
                go_ret
                exact ⟨rfl, below_then HB3.out (below_then HB5.out hk6)⟩
              · go_wp2
                go_ret
                exact ⟨rfl, below_then HB3.out HB5.out⟩
            · have hL0 : 0 < os.length := List.length_pos_iff.2 hos
              have hLi : ((os.length : Int) == 0) = false := by simp; omega
              have hLL : os.length ≤ 12 := by have := HV2.out.2.2.1; omega
              clear k0 k1 k2 k3 k4 k5 lP hos
              by_cases hcn : n < st.length
              · obtain ⟨x, hx⟩ : ∃ x, st[n]? = some x := ⟨_, List.getElem?_eq_getElem hcn⟩
                obtain ⟨x0, x1⟩ := H8.out x (List.mem_of_getElem? hx)
                obtain ⟨r, hr, hrL⟩ := tmod_nat (L := os.length) x0 hL0
                obtain ⟨b1, o1, ea, hb1, c0⟩ := segU ((ST3.out.below HBW.out).more HBW.out.size) hx
                subst ea
                clear hx
                obtain ⟨y, hy⟩ : ∃ y, os[r]? = some y := ⟨_, List.getElem?_eq_getElem hrL⟩
                obtain ⟨j, hj, rfl, hoj, huj⟩ := HV2.out.2.2.2.1 y (List.mem_of_getElem? hy)
                obtain ⟨b2, o2, eb, hb2, y0⟩ := segN SO.out hy
                subst eb
                have u0 := HU.out.at_ huj
                have lT := HU.out.lt
                have fz : wr.frozen? ⟨bT, j, none⟩ = false := HU.out.frozen j
                have hjU : j < U.length := by have := HH.out.1; omega
                have HCN : Hid (n + 1 ≤ (pad (U.set j true)).count true) := by
                  unfold Hid
                  rw [cnt_set (by omega) huj]
                  have := HH.out.2.2.2.1
                  omega
                have hcl := cnt_le (U := U.set j true) (by rw [List.length_set]; omega)
                rw [List.length_set, HH.out.1] at hcl
                have hnN : n + 1 ≤ N := by have := HCN.out; omega
                have HSUB : Hid (∀ K, SpOk p K → sub p.n (pad (U.set j true)) (Dk p K)) := fun K hK => sub_set HV.out HN.out HH.out.1 hK (HH.out.2.2.2.2 K hK) hj hoj
                clear hy hoj huj hcl
                go_wp2
                go_roundw
                case rel => exact ⟨n + 1, U.set j true, by go_num, hnN, by rw [List.length_set]; exact HH.out.1, Sb.put HU.out j true, HBW.out.setCell (p := ⟨bT, j, none⟩) hbT.out _, HCN.out, HSUB.out⟩
                case measure => simp [intOf]; omega
              · obtain ⟨r, rfl⟩ : ∃ r : Nat, r = 0 := ⟨0, rfl⟩
                obtain ⟨y, hy⟩ : ∃ y, os[0]? = some y := ⟨_, List.getElem?_eq_getElem hL0⟩
                obtain ⟨j, hj, rfl, hoj, huj⟩ := HV2.out.2.2.2.1 y (List.mem_of_getElem? hy)
                obtain ⟨b2, o2, eb, hb2, y0⟩ := segN SO.out hy
                subst eb
                have y0' : wr.cell? ⟨b2, o2, none⟩ = some (.int .i64 j) := y0
                have u0 := HU.out.at_ huj
                have lT := HU.out.lt
                have fz : wr.frozen? ⟨bT, j, none⟩ = false := HU.out.frozen j
                have hjU : j < U.length := by have := HH.out.1; omega
                have HCN : Hid (n + 1 ≤ (pad (U.set j true)).count true) := by
                  unfold Hid
                  rw [cnt_set (by omega) huj]
                  have := HH.out.2.2.2.1
                  omega
                have hcl := cnt_le (U := U.set j true) (by rw [List.length_set]; omega)
                rw [List.length_set, HH.out.1] at hcl
                have hnN : n + 1 ≤ N := by have := HCN.out; omega
                have HSUB : Hid (∀ K, SpOk p K → sub p.n (pad (U.set j true)) (Dk p K)) := fun K hK => sub_set HV.out HN.out HH.out.1 hK (HH.out.2.2.2.2 K hK) hj hoj
                clear hy hoj huj hcl
                go_wp2
                go_roundw
                case rel => exact ⟨n + 1, U.set j true, by go_num, hnN, by rw [List.length_set]; exact HH.out.1, Sb.put HU.out j true, HBW.out.setCell (p := ⟨bT, j, none⟩) hbT.out _, HCN.out, HSUB.out⟩
                case measure => simp [intOf]; omega
    · rw [hv] at HCV
      clear hv
      go_wp2_with (first | (go_at_call 12; (with_reducible refine (HFW.out _).mono ?_); rintro e w2 ⟨rfl, hk⟩; replace hz := Lib.hid (below_then hz.out hk); have kk := (pfCells (GP.out.then_ hz.out)); clear k0 k1 k2 k3 k4 k5 lP; obtain ⟨k0, k1, k2, k3, k4, k5⟩ := kk; have lP := (GP.out.then_ hz.out).lt; clear hk) | (go_at_call 14; (with_reducible refine (HCV.out _ hz.out).mono ?_); rintro e w3 ⟨rfl, hk⟩; replace hz := Lib.hid (below_then hz.out hk); have kk := (pfCells (GP.out.then_ hz.out)); clear k0 k1 k2 k3 k4 k5 lP; obtain ⟨k0, k1, k2, k3, k4, k5⟩ := kk; have lP := (GP.out.then_ hz.out).lt; clear hk))
      go_ret
      exact ⟨rfl, below_then HB1.out hz.out⟩
  · rw [hf] at HFW
    clear hf
    have hz := Lib.hid (Below.refl w1.heap.size w1)
    go_wp2_with (go_at_call 12; (with_reducible refine (HFW.out _).mono ?_); rintro e w2 ⟨rfl, hk⟩; replace hz := Lib.hid (below_then hz.out hk); have kk := (pfCells (GP.out.then_ hz.out)); clear k0 k1 k2 k3 k4 k5 lP; obtain ⟨k0, k1, k2, k3, k4, k5⟩ := kk; have lP := (GP.out.then_ hz.out).lt; clear hk)
    go_ret
    exact ⟨rfl, below_then HB1.out hz.out⟩
end Go.Proofs.Yteoicnhnpailiaa
