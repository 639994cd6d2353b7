/- The walk of CascadeOwn: true at every portfolio. -/
import Derived.Test.YteoicnhnpailiaaCf1
import Derived.Test.YteoicnhnpailiaaCe0
namespace Go.Proofs.Yteoicnhnpailiaa
open Go.RowKit Go.Sort Go.Maps

theorem part_sum {l : List Db} {i : Int} {q : Rat} (h : sumE (some 0) (ams l i (-1)) = some q) (j : Nat) : ∃ s, sumE (some 0) (ams (l.take j) i (-1)) = some s ∧ inR s = true := by
  have e : ams l i (-1) = ams (l.take j) i (-1) ++ ams (l.drop j) i (-1) := by
    unfold ams; rw [← List.map_append, ← List.filter_append, List.take_append_drop]
  rw [e, sumE_app] at h
  cases hs : sumE (some 0) (ams (l.take j) i (-1)) with
  | none => rw [hs, sumE_none] at h; cases h
  | some s => exact ⟨s, rfl, sumE_inR inR_0 hs⟩
theorem part_step {l : List Db} {i : Int} {q : Rat} (h : sumE (some 0) (ams l i (-1)) = some q) {j : Nat} {d : Db} (hd : l[j]? = some d) {s : Rat} (hs : sumE (some 0) (ams (l.take j) i (-1)) = some s) (hf : (d.f == i) = true) :
    inR (s + qOf d) = true ∧ sumE (some 0) (ams (l.take (j + 1)) i (-1)) = some (s + qOf d) := by
  obtain ⟨u, hu, _⟩ := part_sum h (j + 1)
  have hsel : sel i (-1) d = true := by simp [sel, hf]
  have e := hu
  rw [ams_take hd, hsel, if_pos rfl, sumE_app, hs, sumE_one] at e
  unfold addE at e
  by_cases hi : inR (s + qOf d) = true
  · refine ⟨hi, ?_⟩
    rw [hu, ← e]; simp [hi]
  · simp [hi] at e
theorem part_skip {l : List Db} {i : Int} {j : Nat} {d : Db} (hd : l[j]? = some d) {s : Rat} (hs : sumE (some 0) (ams (l.take j) i (-1)) = some s) (hf : (d.f == i) = false) :
    sumE (some 0) (ams (l.take (j + 1)) i (-1)) = some s := by
  have hsel : sel i (-1) d = false := by simp [sel, hf]
  rw [ams_take hd, hsel, if_neg (by decide), List.append_nil, hs]
theorem cmp3 (q r : Rat) {x : Bool} (h : x = decide (r < q)) : (x = true ∧ cmpN q r = 1) ∨ (x = false ∧ cmpN q r = 0) ∨ (x = false ∧ cmpN q r = -1) := by
  subst h
  unfold cmpN
  by_cases h1 : q < r
  · exact .inr (.inr ⟨by simp [Rat.not_lt.2 (Rat.le_of_lt h1)], by simp [h1]⟩)
  · by_cases h2 : r < q
    · exact .inl ⟨by simp [h2], by simp [h1, h2]⟩
    · exact .inr (.inl ⟨by simp [h2], by simp [h1, h2]⟩)
theorem seg_at {w : World} {B : Nat} {A : Option Addr} {l : List Bool} (h : Seg w B 1 encB A l) (h0 : 0 < l.length) : ∃ g o, A = some ⟨g, o, none⟩ := by
  obtain ⟨g, o, e, _⟩ := segB h (List.getElem?_eq_getElem h0)
  exact ⟨g, o, e⟩
/-- the place of the lists with two lists left away -/
abbrev msB (m : Ms) : Ms := ⟨m.a1, m.c1, m.a2, m.c2, m.a3, m.c3, none, 0, none, 0⟩
theorem pf_bare (p : Pf) (m : Ms) : ((pfA p m).setIfInBounds 5 (.slice none 0 0)).setIfInBounds 4 (.slice none 0 0) = pfA (bare p) (msB m) := by
  simp only [pfA, bare, List.setIfInBounds_toArray, List.set_cons_zero, List.set_cons_succ]; rfl
set_option maxRecDepth 100000 in
set_option maxHeartbeats 3200000 in
theorem own_any (p : Pf) (m : Ms) (w : World) (hm : Pm w p m) (hl : Lp p) (hn : -9223372036854775808 ≤ p.n ∧ p.n ≤ 9223372036854775807) (ha : ∀ a ∈ p.as, fitA a) (hd : ∀ x ∈ p.du, fitD x) (hla : ∀ x ∈ p.la, fitD x) :
    Calls Try.prog 8 #[.agg (pfA p m)] w fun e w' => e = .returned (.bool true) ∧ Below w.heap.size w w' := by
  have HM := Lib.hid hm
  have HFP := Lib.hid (fun hf => fp_few hl hn ha hd hla (k := 40) (by omega) hf)
  have HFW : Hid (∀ W : World, Calls Try.prog 12 #[.agg (pfA p m), .int .i64 40] W fun e w' => e = .returned (.bool (fewP p 40)) ∧ Below W.heap.size W w') := fun W => few_any p m 40 W (by omega) hl
  clear hm hl hn ha hd hla
  go_enter Try.func8, Try.ntmps8
  go_upto_region 1 with (fail)
  refine name_wp ?_
  intro X hX
  have gP0 : Blk X w.heap.size 27 (pfA p m) := by rw [hX]; exact Blk.new _ _ _
  have hbX : Below w.heap.size w X := by rw [hX]; exact wa1 _ _
  obtain ⟨bP, e0⟩ : ∃ b, w.heap.size = b := ⟨_, rfl⟩
  have hbP : Hid (w.heap.size ≤ bP) := Nat.le_of_eq e0
  rw [e0] at gP0 ⊢
  have GP0 := Lib.hid gP0
  have HX := Lib.hid hbX
  clear hX gP0 hbX e0
  go_upto_region 2 with (go_at_call 11; (with_reducible refine (head_any _).mono ?_); rintro e w1 ⟨rfl, hk⟩)
  have GP := Lib.hid (GP0.out.then_ hk)
  have HB1 := Lib.hid (below_then HX.out hk)
  clear hk GP0 HX
  obtain ⟨k0, k1, k2, k3, k4, k5⟩ := pfCells GP.out
  have lP := GP.out.lt
  rcases hbb (fewP p 40) with hf | hf
  · have HF := Lib.hid (HFP.out hf)
    have HCV := Lib.hid (fun W (hW : Below w1.heap.size w1 W) => cvalid_any p m W HF.out ((HM.out.then_ HB1.out).then_ hW))
    rw [hf] at HFW
    clear hf
    have hz := Lib.hid (Below.refl w1.heap.size w1)
    rcases hbb (vldP p) with hv | hv
    · have HV := Lib.hid (vldP_of hv)
      rw [hv] at HCV
      clear hv
      go_upto_region 4 with (first | (go_at_call 12; (with_reducible refine (HFW.out _).mono ?_); rintro e w2 ⟨rfl, hk⟩; replace hz := Lib.hid (below_then hz.out hk); have kk := (pfCells (GP.out.then_ hz.out)); clear k0 k1 k2 k3 k4 k5 lP; obtain ⟨k0, k1, k2, k3, k4, k5⟩ := kk; have lP := (GP.out.then_ hz.out).lt; clear hk) | (go_at_call 14; (with_reducible refine (HCV.out _ hz.out).mono ?_); rintro e w3 ⟨rfl, hk⟩; replace hz := Lib.hid (below_then hz.out hk); have kk := (pfCells (GP.out.then_ hz.out)); clear k0 k1 k2 k3 k4 k5 lP; obtain ⟨k0, k1, k2, k3, k4, k5⟩ := kk; have lP := (GP.out.then_ hz.out).lt; clear hk))
      have GP3 := Lib.hid (GP.out.then_ hz.out)
      have HB3 := Lib.hid (below_then HB1.out hz.out)
      have PM3 := Lib.hid (HM.out.then_ HB3.out)
      have n12 := HV.out.n12
      have n1 := HV.out.n1
      clear hz GP HB1 HFW HFP HCV HM
      have HP := Lib.hid hbP.out
      go_upto_region 5 with (fail)
      refine name_wp ?_
      intro Y0 hY0
      have gq : Blk Y0 w3.heap.size 27 (pfA p m) := by rw [hY0]; exact Blk.new _ _ _
      have hb0 : Below w3.heap.size w3 Y0 := by rw [hY0]; exact wa1 _ _
      have nq : bP ≠ w3.heap.size := Nat.ne_of_lt lP
      have NQ := Lib.hid nq
      obtain ⟨bQ, eQ⟩ : ∃ b, w3.heap.size = b := ⟨_, rfl⟩
      have hbQ : Hid (w3.heap.size ≤ bQ) := Nat.le_of_eq eQ
      have HB0 := Lib.hid hb0
      rw [eQ] at gq ⊢
      have GQ0 := Lib.hid gq
      have f5 : Y0.frozen? ⟨bQ, 5, none⟩ = false := gq.frozen 5
      have f4 : Y0.frozen? ⟨bQ, 4, none⟩ = false := gq.frozen 4
      clear hY0 hb0 nq eQ
      clear k0 k1 k2 k3 k4 k5 lP
      obtain ⟨k0, k1, k2, k3, k4, k5⟩ := pfCells (gq)
      have lP := (gq).lt
      clear gq
      go_upto_region 7 with (fail)
      refine name_wp ?_
      intro Y hY
      have GQ : Hid (Blk Y bQ 27 (pfA (bare p) (msB m))) := by rw [hY, ← pf_bare p m]; exact (GQ0.out.set_ 5 _).set_ 4 _
      have hbY : Below w3.heap.size w3 Y := by rw [hY]; exact (HB0.out.setCell (p := ⟨bQ, 5, none⟩) hbQ.out _).setCell (p := ⟨bQ, 4, none⟩) hbQ.out _
      have GPY := Lib.hid (GP3.out.then_ hbY)
      have PMY := Lib.hid (PM3.out.then_ hbY)
      have PMQ : Hid (Pm Y (bare p) (msB m)) := ⟨PMY.out.s1, PMY.out.s2, PMY.out.s3, Seg.nil _ _ _ _ _, Seg.nil _ _ _ _ _⟩
      have HBY := Lib.hid (below_then HB3.out hbY)
      clear hY f5 f4 hbY GP3 PM3 HB3 HB0 GQ0 NQ hbQ HP
      clear k0 k1 k2 k3 k4 k5 lP
      obtain ⟨k0, k1, k2, k3, k4, k5⟩ := pfCells (GQ.out)
      have lP := (GQ.out).lt
      have HDP := Lib.hid (fun W (hW : Below Y.heap.size Y W) => dfo_any p m W HV.out (PMY.out.then_ hW))
      by_cases hK : ∃ K, SpOk (bare p) K
      · obtain ⟨K, hK⟩ := hK
        have HK := Lib.hid hK
        have HDF := Lib.hid (defaults_ok (bare p) (msB m) Y HV.out.bare PMQ.out hK)
        clear hK
        go_upto_region 8 with (go_at_call 13; (with_reducible refine HDF.out.mono ?_); rintro e w4 ⟨⟨v, rfl, hg⟩, hk⟩)
        obtain ⟨A, c, rfl, _, sg⟩ := Own.seg hg encB_len
        have SC := Lib.hid sg
        have GP4 := Lib.hid (GPY.out.then_ hk)
        have HB4 := Lib.hid hk
        clear k0 k1 k2 k3 k4 k5 lP
        obtain ⟨k0, k1, k2, k3, k4, k5⟩ := pfCells (GP4.out)
        have lP := (GP4.out).lt
        clear hg sg hk HDF GPY
        go_upto_region 9 with (go_at_call 13; (with_reducible refine (HDP.out _ HB4.out).mono ?_); rintro e w5 ⟨⟨v7, z7, rfl, hd7⟩, hk⟩)
        have HD7 := Lib.hid hd7
        have SC5 := Lib.hid ((SC.out.below hk).more hk.size)
        have GP5 := Lib.hid (GP4.out.then_ hk)
        have HB5 := Lib.hid (below_then HB4.out hk)
        clear k0 k1 k2 k3 k4 k5 lP
        obtain ⟨k0, k1, k2, k3, k4, k5⟩ := pfCells (GP5.out)
        have lP := (GP5.out).lt
        clear hd7 hk SC GP4 HB4 HDP
        have PM5 := Lib.hid (PMY.out.then_ HB5.out)
        have HBW := Lib.hid (below_then HBY.out HB5.out)
        have hL : ((outD (bare p) K).length : Int) = p.n := outD_len HV.out.bare K
        have HX : Hid (∀ k : Nat, (k : Int) < p.n → ∃ (q : Rat) (x : Bool), sumE (some 0) (ams p.du k (-1)) = some q ∧ (outD (bare p) K)[k]? = some x ∧ x = decide (asQ p k < q)) := fun k hk => by
          obtain ⟨q, hq, hx⟩ := own_law HV.out (i := (k : Int)) (by omega) hk HK.out
          rw [← has_outD HV.out.bare] at hx
          have hkl : k < (outD (bare p) K).length := by omega
          refine ⟨q, _, hq, List.getElem?_eq_getElem hkl, ?_⟩
          rw [← has_of (List.getElem?_eq_getElem hkl), hx, Int.toNat_natCast]
        obtain ⟨D, hD⟩ : ∃ D, outD (bare p) K = D := ⟨_, rfl⟩
        have hmore : ∀ (K' k : Nat), SpOk p K' → (k : Int) < p.n → D[k]? = some true → (outD p K')[k]? = some true := fun K' k hK' hk hx => by
          rw [← hD] at hx
          have h1 := has_of hx
          rw [has_outD HV.out.bare] at h1
          have h2 := own_more HV.out (i := (k : Int)) (by omega) hk HK.out hK' h1
          rw [← has_outD HV.out] at h2
          have hl := outD_len HV.out K'
          have hkl : k < (outD p K').length := by omega
          rw [has_of (List.getElem?_eq_getElem hkl)] at h2
          rw [List.getElem?_eq_getElem hkl, h2]
        have HMORE := Lib.hid hmore
        rw [hD] at HX hL SC5 ⊢
        have hne : ((D.length : Int) != p.n) = false := by simp [hL]
        have HLD := Lib.hid hL
        obtain ⟨g, o, rfl⟩ := seg_at SC5.out (by omega)
        clear hD hmore hL HK PMQ GQ PMY HBY HB5
        rcases HD7.out with ⟨rfl, K', hK', hg7⟩ | rfl
        · obtain ⟨A7, c7, rfl, _, s7⟩ := Own.seg hg7 encB_len
          have hL7 := outD_len HV.out K'
          have hmr : ∀ k : Nat, (k : Int) < p.n → D[k]? = some true → (outD p K')[k]? = some true := fun k hk hx => HMORE.out K' k hK' hk hx
          obtain ⟨E, hE⟩ : ∃ E, outD p K' = E := ⟨_, rfl⟩
          rw [hE] at hL7 s7 hmr ⊢
          obtain ⟨g7, o7, rfl⟩ := seg_at s7 (by omega)
          have HMR := Lib.hid hmr
          have S7 := Lib.hid s7
          have HL7 := Lib.hid hL7
          clear hE hmr s7 hg7 hL7 hK' HMORE HD7
          go_upto_region 14 with (fail)
          go_loopw [9] (fun x WR => ∃ k : Nat, (k : Int) ≤ p.n ∧ x = .int .i64 k ∧ Below w5.heap.size w5 WR) (fun x _ => 2000 - (intOf x).toNat)
          case atStart => exact ⟨0, by omega, rfl, Below.refl _ _⟩
          case round =>
            obtain ⟨k, hk, rfl, hbr⟩ := hrel
            have HBR := Lib.hid hbr
            clear k0 k1 k2 k3 k4 k5 lP
            obtain ⟨k0, k1, k2, k3, k4, k5⟩ := pfCells (GP5.out.then_ hbr)
            have lP := (GP5.out.then_ hbr).lt
            by_cases hlt : (k : Int) < p.n
            · obtain ⟨q, x, hq, hx, hxq⟩ := HX.out k hlt
              have HQ := Lib.hid hq
              have HXD := Lib.hid hx
              have HXQ := Lib.hid hxq
              clear hq hx hxq
              go_upto_region 17 with (go_at_call 20; (with_reducible refine (of_any _ _).mono ?_); rintro e w6 ⟨rfl, hk6⟩)
              refine name_wp ?_
              intro Z hZ
              have gs : Blk Z w6.heap.size 44 #[.int .i64 0, .int .i64 1] := by rw [hZ]; exact Blk.new _ _ _
              have hbZ : Below w5.heap.size w5 Z := by rw [hZ]; exact below_alloc (below_then hbr hk6) _
              have hnS : w5.heap.size ≤ w6.heap.size := (below_then hbr hk6).size
              have hpS : bP < w6.heap.size := (GP5.out.then_ (below_then hbr hk6)).lt
              obtain ⟨bS, eS⟩ : ∃ b, w6.heap.size = b := ⟨_, rfl⟩
              rw [eS] at gs hnS hpS ⊢
              have GS := Lib.hid gs
              have HZ := Lib.hid hbZ
              have HNS := Lib.hid hnS
              have HPS := Lib.hid hpS
              clear hZ hbr hk6 eS gs hbZ hnS hpS
              clear k0 k1 k2 k3 k4 k5 lP
              obtain ⟨k0, k1, k2, k3, k4, k5⟩ := pfCells (GP5.out.then_ HZ.out)
              have lP := (GP5.out.then_ HZ.out).lt
              go_upto_region 18 with (fail)
              go_loopw [11] (fun y WQ => ∃ (j : Nat) (s : Rat), j ≤ p.du.length ∧ y = .int .i64 j ∧ Hid (sumE (some 0) (ams (p.du.take j) k (-1)) = some s ∧ Blk WQ bS 44 #[.int .i64 s.num, .int .i64 s.den] ∧ Below w5.heap.size w5 WQ)) (fun y _ => 1000 - (intOf y).toNat)
              case atStart => exact ⟨0, 0, by omega, rfl, rfl, GS.out, HZ.out⟩
              case round =>
                obtain ⟨j, s, hj, rfl, hh⟩ := hrel
                obtain ⟨hs, gs, hbq⟩ := hh.out
                have HS := Lib.hid hs
                have GS2 := Lib.hid gs
                have HBQ := Lib.hid hbq
                have ldu := HV.out.ldu
                obtain ⟨y0, y1, fy0, fy1⟩ := gs.two
                have lS := gs.lt
                clear hh hs gs
                clear k0 k1 k2 k3 k4 k5 lP
                obtain ⟨k0, k1, k2, k3, k4, k5⟩ := pfCells (GP5.out.then_ hbq)
                have lP := (GP5.out.then_ hbq).lt
                by_cases hlj : j < p.du.length
                · obtain ⟨d, hd⟩ : ∃ d, p.du[j]? = some d := ⟨_, List.getElem?_eq_getElem hlj⟩
                  obtain ⟨b', off', ea, hb', d0, d1, d2, d3⟩ := segD (PM5.out.s2.below hbq) hd
                  have hbl : b' < wr.heap.size := Nat.lt_of_lt_of_le hb' hbq.size
                  obtain ⟨_, hvd, _⟩ := okD_of (HV.out.du d (List.mem_of_getElem? hd))
                  obtain ⟨w1', w2', w3'⟩ := qOf_vld hvd
                  rw [ea] at k2
                  clear ea hvd hbq
                  by_cases hf : d.f = k
                  · have hf' : (d.f == (k : Int)) = true := by simpa using hf
                    obtain ⟨hin, hnext⟩ := part_step HQ.out hd HS.out hf'
                    have HADD : Hid (∀ W, Calls Try.prog 19 #[.agg #[.int .i64 s.num, .int .i64 s.den], .agg #[.int .i64 d.n, .int .i64 d.d]] W fun e w' => e = .returned (.tuple #[.agg #[.int .i64 (s + qOf d).num, .int .i64 (s + qOf d).den], .int .i64 0]) ∧ Below W.heap.size W w') := fun W => by
                      have := add_any s (qOf d) W (sumE_inR inR_0 HS.out) w3'
                      rwa [w1', w2', oN_yes hin, oD_yes hin, oE_yes hin] at this
                    have HNX := Lib.hid hnext
                    clear hd hin hnext w1' w2' w3' hf
                    go_upto_region 21 with (fail)
                    have rg0 := cell_regrown y0
                    have rg1 := cell_regrown y1
                    have rg2 := cell_regrown k0
                    have rg3 := cell_regrown k1
                    have rg4 := cell_regrown k2
                    have rg5 := cell_regrown k3
                    have rg6 := cell_regrown k4
                    have rg7 := cell_regrown k5
                    have rg8 := cell_regrown d0
                    have rg9 := cell_regrown d1
                    have rg10 := cell_regrown d2
                    have rg11 := cell_regrown d3
                    refine wp_region_qt [0, 1, 2, 3, 4, 5, 6, 7] [8, 9, 10, 11] (by kernel_rfl) (by kernel_rfl) (by repeat (first | with_reducible refine panOk_then ?_ | with_reducible refine panOk_block ?_ | exact panOk_body)) ?_
                    simp only [opsAt, List.getElem?_toArray, List.getElem?_cons_succ, List.getElem?_cons_zero, Option.toList_some, List.cons_append, List.nil_append]
                    repeat (go_big_quiet_step ((go_at_call 19; exact qt_call (fun W' _ => HADD.out W') _ _)))
                    refine wpQuiet_nil ?_
                    intro W2 hw2
                    have hbW2 := qt_world hw2
                    clear hw2 rg0 rg1 rg2 rg3 rg4 rg5 rg6 rg7 rg8 rg9 rg10 rg11
                    have GS3 := GS2.out.then_ hbW2
                    obtain ⟨z0, z1, fz0, fz1⟩ := GS3.two
                    have lS3 := GS3.lt
                    have HB2 := Lib.hid hbW2
                    have GS4 := Lib.hid GS3
                    clear y0 y1 fy0 fy1 lS k0 k1 k2 k3 k4 k5 lP d0 d1 d2 d3 GS3 hbW2
                    go_wp2
                    go_roundw
                    case rel => exact ⟨j + 1, _, by omega, by go_num, HNX.out, GS4.out.setT0.setT1, below_box (below_then HBQ.out HB2.out) HNS.out⟩
                    case measure => simp [intOf]; omega
                  · have hf' : (d.f == (k : Int)) = false := by simpa using hf
                    have HNX := Lib.hid (part_skip hd HS.out hf')
                    clear hd w1' w2' w3' hf
                    go_wp2
                    go_roundw
                    case rel => exact ⟨j + 1, s, by omega, by go_num, HNX.out, GS2.out, HBQ.out⟩
                    case measure => simp [intOf]; omega
                · have hs' := HS.out
                  rw [List.take_of_length_le (by omega), HQ.out] at hs'
                  obtain rfl : q = s := Option.some.inj hs'
                  obtain ⟨a, hax⟩ : ∃ a, p.as[k]? = some a := ⟨_, List.getElem?_eq_getElem (by have := HV.out.len; omega)⟩
                  obtain ⟨r, r1, r2, r3⟩ := rat_of_vld (HV.out.as a (List.mem_of_getElem? hax)).1
                  have hr : asQ p k = r := by unfold asQ; rw [hax]; show Rat.divInt a.1 a.2 = r; rw [← r2, ← r3, Rat.num_divInt_den]
                  have hcc := HXQ.out
                  rw [hr] at hcc
                  obtain ⟨c', hc'⟩ : ∃ c, cmpN q r = c := ⟨_, rfl⟩
                  have h3 := cmp3 q r hcc
                  have HCM : Hid (∀ W, Calls Try.prog 18 #[.agg #[.int .i64 q.num, .int .i64 q.den], .agg #[.int .i64 a.1, .int .i64 a.2]] W fun e w' => e = .returned (.int .i64 c') ∧ Below W.heap.size W w') := fun W => by
                    have := cmp_any q r W (sumE_inR inR_0 HQ.out) r1
                    rwa [hc', r2, r3] at this
                  rw [hc'] at h3
                  obtain ⟨b', off', ea, hb', a0, a1⟩ := segA (PM5.out.s1.below hbq) hax
                  have hbl : b' < wr.heap.size := Nat.lt_of_lt_of_le hb' hbq.size
                  rw [ea] at k1
                  obtain ⟨b2, o2, ec, hb2, x0⟩ := segB (SC5.out.below hbq) HXD.out
                  cases ec
                  have hbl2 : g < wr.heap.size := Nat.lt_of_lt_of_le hb2 hbq.size
                  have hln := HV.out.len
                  have hkD : k < D.length := by have := HLD.out; omega
                  have hkE : k < E.length := by have := HL7.out; omega
                  have hmr := HMR.out k hlt
                  have hx0 := HXD.out
                  clear ea hax r1 r2 r3 hr hcc hc' hs' hbq
                  rcases h3 with ⟨rfl, rfl⟩ | ⟨rfl, rfl⟩ | ⟨rfl, rfl⟩
                  · have hyE := hmr hx0
                    obtain ⟨b7, o8, e7, hb7, u0⟩ := segB (S7.out.below HBQ.out) hyE
                    cases e7
                    have hbl7 : g7 < wr.heap.size := Nat.lt_of_lt_of_le hb7 HBQ.out.size
                    have hge : decide (E.length ≤ k) = false := by simp; omega
                    clear hmr hx0 hyE hb7
                    go_upto_region 22 with (fail)
                    have rg0 := cell_regrown y0
                    have rg1 := cell_regrown y1
                    have rg2 := cell_regrown k0
                    have rg3 := cell_regrown k1
                    have rg4 := cell_regrown k2
                    have rg5 := cell_regrown k3
                    have rg6 := cell_regrown k4
                    have rg7 := cell_regrown k5
                    have rg8 := cell_regrown a0
                    have rg9 := cell_regrown a1
                    have rg10 := cell_regrown x0
                    have rg11 := cell_regrown u0
                    refine wp_region_qt [0, 1, 2, 3, 4, 5, 6, 7, 8, 9, 10, 11, 12, 13, 14, 15, 16, 17, 18, 19, 20, 21, 22, 23, 24, 25, 26, 27, 28, 29, 30, 31, 32, 33, 34, 35] [] (by kernel_rfl) (by kernel_rfl) (by repeat (first | with_reducible refine panOk_then ?_ | with_reducible refine panOk_block ?_ | exact panOk_body)) ?_
                    simp only [opsAt, List.getElem?_toArray, List.getElem?_cons_succ, List.getElem?_cons_zero, Option.toList_some, List.cons_append, List.nil_append]
                    repeat (go_big_quiet_step ((go_at_call 18; exact qt_call (fun W' _ => HCM.out W') _ _)))
                    refine wpQuiet_nil ?_
                    intro W2 hw2
                    have hbW2 := qt_world hw2
                    clear hw2 rg0 rg1 rg2 rg3 rg4 rg5 rg6 rg7 rg8 rg9 rg10 rg11
                    refine wpList_done ?_
                    clear y0 y1 fy0 fy1 k0 k1 k2 k3 k4 k5 a0 a1 x0
                    go_wp2
                    go_roundw
                    case rel => exact ⟨k + 1, by omega, by go_num, below_then HBQ.out hbW2⟩
                    case measure => simp [intOf]; omega
                  · clear hmr hx0
                    go_upto_region 22 with (fail)
                    have rg0 := cell_regrown y0
                    have rg1 := cell_regrown y1
                    have rg2 := cell_regrown k0
                    have rg3 := cell_regrown k1
                    have rg4 := cell_regrown k2
                    have rg5 := cell_regrown k3
                    have rg6 := cell_regrown k4
                    have rg7 := cell_regrown k5
                    have rg8 := cell_regrown a0
                    have rg9 := cell_regrown a1
                    have rg10 := cell_regrown x0
                    refine wp_region_qt [0, 1, 2, 3, 4, 5, 6, 7, 8, 9, 10, 11, 12, 13, 14, 15, 16, 17, 18, 19, 20, 21, 22, 23, 24, 25, 26, 27, 28, 29, 30, 31, 32, 33, 34, 35] [] (by kernel_rfl) (by kernel_rfl) (by repeat (first | with_reducible refine panOk_then ?_ | with_reducible refine panOk_block ?_ | exact panOk_body)) ?_
                    simp only [opsAt, List.getElem?_toArray, List.getElem?_cons_succ, List.getElem?_cons_zero, Option.toList_some, List.cons_append, List.nil_append]
                    repeat (go_big_quiet_step ((go_at_call 18; exact qt_call (fun W' _ => HCM.out W') _ _)))
                    refine wpQuiet_nil ?_
                    intro W2 hw2
                    have hbW2 := qt_world hw2
                    clear hw2 rg0 rg1 rg2 rg3 rg4 rg5 rg6 rg7 rg8 rg9 rg10
                    refine wpList_done ?_
                    clear y0 y1 fy0 fy1 k0 k1 k2 k3 k4 k5 a0 a1 x0
                    go_wp2
                    go_roundw
                    case rel => exact ⟨k + 1, by omega, by go_num, below_then HBQ.out hbW2⟩
                    case measure => simp [intOf]; omega
                  · clear hmr hx0
                    go_upto_region 22 with (fail)
                    have rg0 := cell_regrown y0
                    have rg1 := cell_regrown y1
                    have rg2 := cell_regrown k0
                    have rg3 := cell_regrown k1
                    have rg4 := cell_regrown k2
                    have rg5 := cell_regrown k3
                    have rg6 := cell_regrown k4
                    have rg7 := cell_regrown k5
                    have rg8 := cell_regrown a0
                    have rg9 := cell_regrown a1
                    have rg10 := cell_regrown x0
                    refine wp_region_qt [0, 1, 2, 3, 4, 5, 6, 7, 8, 9, 10, 11, 12, 13, 14, 15, 16, 17, 18, 19, 20, 21, 22, 23, 24, 25, 26, 27, 28, 29, 30, 31, 32, 33, 34, 35] [] (by kernel_rfl) (by kernel_rfl) (by repeat (first | with_reducible refine panOk_then ?_ | with_reducible refine panOk_block ?_ | exact panOk_body)) ?_
                    simp only [opsAt, List.getElem?_toArray, List.getElem?_cons_succ, List.getElem?_cons_zero, Option.toList_some, List.cons_append, List.nil_append]
                    repeat (go_big_quiet_step ((go_at_call 18; exact qt_call (fun W' _ => HCM.out W') _ _)))
                    refine wpQuiet_nil ?_
                    intro W2 hw2
                    have hbW2 := qt_world hw2
                    clear hw2 rg0 rg1 rg2 rg3 rg4 rg5 rg6 rg7 rg8 rg9 rg10
                    refine wpList_done ?_
                    clear y0 y1 fy0 fy1 k0 k1 k2 k3 k4 k5 a0 a1 x0
                    go_wp2
                    go_roundw
                    case rel => exact ⟨k + 1, by omega, by go_num, below_then HBQ.out hbW2⟩
                    case measure => simp [intOf]; omega
            · go_wp2
              go_ret
              exact ⟨rfl, below_then HBW.out HBR.out⟩
        · clear HMORE HD7
          go_upto_region 14 with (fail)
          go_loopw [9] (fun x WR => ∃ k : Nat, (k : Int) ≤ p.n ∧ x = .int .i64 k ∧ Below w5.heap.size w5 WR) (fun x _ => 2000 - (intOf x).toNat)
          case atStart => exact ⟨0, by omega, rfl, Below.refl _ _⟩
          case round =>
            obtain ⟨k, hk, rfl, hbr⟩ := hrel
            have HBR := Lib.hid hbr
            clear k0 k1 k2 k3 k4 k5 lP
            obtain ⟨k0, k1, k2, k3, k4, k5⟩ := pfCells (GP5.out.then_ hbr)
            have lP := (GP5.out.then_ hbr).lt
            by_cases hlt : (k : Int) < p.n
            · obtain ⟨q, x, hq, hx, hxq⟩ := HX.out k hlt
              have HQ := Lib.hid hq
              have HXD := Lib.hid hx
              have HXQ := Lib.hid hxq
              clear hq hx hxq
              go_upto_region 17 with (go_at_call 20; (with_reducible refine (of_any _ _).mono ?_); rintro e w6 ⟨rfl, hk6⟩)
              refine name_wp ?_
              intro Z hZ
              have gs : Blk Z w6.heap.size 44 #[.int .i64 0, .int .i64 1] := by rw [hZ]; exact Blk.new _ _ _
              have hbZ : Below w5.heap.size w5 Z := by rw [hZ]; exact below_alloc (below_then hbr hk6) _
              have hnS : w5.heap.size ≤ w6.heap.size := (below_then hbr hk6).size
              have hpS : bP < w6.heap.size := (GP5.out.then_ (below_then hbr hk6)).lt
              obtain ⟨bS, eS⟩ : ∃ b, w6.heap.size = b := ⟨_, rfl⟩
              rw [eS] at gs hnS hpS ⊢
              have GS := Lib.hid gs
              have HZ := Lib.hid hbZ
              have HNS := Lib.hid hnS
              have HPS := Lib.hid hpS
              clear hZ hbr hk6 eS gs hbZ hnS hpS
              clear k0 k1 k2 k3 k4 k5 lP
              obtain ⟨k0, k1, k2, k3, k4, k5⟩ := pfCells (GP5.out.then_ HZ.out)
              have lP := (GP5.out.then_ HZ.out).lt
              go_upto_region 18 with (fail)
              go_loopw [11] (fun y WQ => ∃ (j : Nat) (s : Rat), j ≤ p.du.length ∧ y = .int .i64 j ∧ Hid (sumE (some 0) (ams (p.du.take j) k (-1)) = some s ∧ Blk WQ bS 44 #[.int .i64 s.num, .int .i64 s.den] ∧ Below w5.heap.size w5 WQ)) (fun y _ => 1000 - (intOf y).toNat)
              case atStart => exact ⟨0, 0, by omega, rfl, rfl, GS.out, HZ.out⟩
              case round =>
                obtain ⟨j, s, hj, rfl, hh⟩ := hrel
                obtain ⟨hs, gs, hbq⟩ := hh.out
                have HS := Lib.hid hs
                have GS2 := Lib.hid gs
                have HBQ := Lib.hid hbq
                have ldu := HV.out.ldu
                obtain ⟨y0, y1, fy0, fy1⟩ := gs.two
                have lS := gs.lt
                clear hh hs gs
                clear k0 k1 k2 k3 k4 k5 lP
                obtain ⟨k0, k1, k2, k3, k4, k5⟩ := pfCells (GP5.out.then_ hbq)
                have lP := (GP5.out.then_ hbq).lt
                by_cases hlj : j < p.du.length
                · obtain ⟨d, hd⟩ : ∃ d, p.du[j]? = some d := ⟨_, List.getElem?_eq_getElem hlj⟩
                  obtain ⟨b', off', ea, hb', d0, d1, d2, d3⟩ := segD (PM5.out.s2.below hbq) hd
                  have hbl : b' < wr.heap.size := Nat.lt_of_lt_of_le hb' hbq.size
                  obtain ⟨_, hvd, _⟩ := okD_of (HV.out.du d (List.mem_of_getElem? hd))
                  obtain ⟨w1', w2', w3'⟩ := qOf_vld hvd
                  rw [ea] at k2
                  clear ea hvd hbq
                  by_cases hf : d.f = k
                  · have hf' : (d.f == (k : Int)) = true := by simpa using hf
                    obtain ⟨hin, hnext⟩ := part_step HQ.out hd HS.out hf'
                    have HADD : Hid (∀ W, Calls Try.prog 19 #[.agg #[.int .i64 s.num, .int .i64 s.den], .agg #[.int .i64 d.n, .int .i64 d.d]] W fun e w' => e = .returned (.tuple #[.agg #[.int .i64 (s + qOf d).num, .int .i64 (s + qOf d).den], .int .i64 0]) ∧ Below W.heap.size W w') := fun W => by
                      have := add_any s (qOf d) W (sumE_inR inR_0 HS.out) w3'
                      rwa [w1', w2', oN_yes hin, oD_yes hin, oE_yes hin] at this
                    have HNX := Lib.hid hnext
                    clear hd hin hnext w1' w2' w3' hf
                    go_upto_region 21 with (fail)
                    have rg0 := cell_regrown y0
                    have rg1 := cell_regrown y1
                    have rg2 := cell_regrown k0
                    have rg3 := cell_regrown k1
                    have rg4 := cell_regrown k2
                    have rg5 := cell_regrown k3
                    have rg6 := cell_regrown k4
                    have rg7 := cell_regrown k5
                    have rg8 := cell_regrown d0
                    have rg9 := cell_regrown d1
                    have rg10 := cell_regrown d2
                    have rg11 := cell_regrown d3
                    refine wp_region_qt [0, 1, 2, 3, 4, 5, 6, 7] [8, 9, 10, 11] (by kernel_rfl) (by kernel_rfl) (by repeat (first | with_reducible refine panOk_then ?_ | with_reducible refine panOk_block ?_ | exact panOk_body)) ?_
                    simp only [opsAt, List.getElem?_toArray, List.getElem?_cons_succ, List.getElem?_cons_zero, Option.toList_some, List.cons_append, List.nil_append]
                    repeat (go_big_quiet_step ((go_at_call 19; exact qt_call (fun W' _ => HADD.out W') _ _)))
                    refine wpQuiet_nil ?_
                    intro W2 hw2
                    have hbW2 := qt_world hw2
                    clear hw2 rg0 rg1 rg2 rg3 rg4 rg5 rg6 rg7 rg8 rg9 rg10 rg11
                    have GS3 := GS2.out.then_ hbW2
                    obtain ⟨z0, z1, fz0, fz1⟩ := GS3.two
                    have lS3 := GS3.lt
                    have HB2 := Lib.hid hbW2
                    have GS4 := Lib.hid GS3
                    clear y0 y1 fy0 fy1 lS k0 k1 k2 k3 k4 k5 lP d0 d1 d2 d3 GS3 hbW2
                    go_wp2
                    go_roundw
                    case rel => exact ⟨j + 1, _, by omega, by go_num, HNX.out, GS4.out.setT0.setT1, below_box (below_then HBQ.out HB2.out) HNS.out⟩
                    case measure => simp [intOf]; omega
                  · have hf' : (d.f == (k : Int)) = false := by simpa using hf
                    have HNX := Lib.hid (part_skip hd HS.out hf')
                    clear hd w1' w2' w3' hf
                    go_wp2
                    go_roundw
                    case rel => exact ⟨j + 1, s, by omega, by go_num, HNX.out, GS2.out, HBQ.out⟩
                    case measure => simp [intOf]; omega
                · have hs' := HS.out
                  rw [List.take_of_length_le (by omega), HQ.out] at hs'
                  obtain rfl : q = s := Option.some.inj hs'
                  obtain ⟨a, hax⟩ : ∃ a, p.as[k]? = some a := ⟨_, List.getElem?_eq_getElem (by have := HV.out.len; omega)⟩
                  obtain ⟨r, r1, r2, r3⟩ := rat_of_vld (HV.out.as a (List.mem_of_getElem? hax)).1
                  have hr : asQ p k = r := by unfold asQ; rw [hax]; show Rat.divInt a.1 a.2 = r; rw [← r2, ← r3, Rat.num_divInt_den]
                  have hcc := HXQ.out
                  rw [hr] at hcc
                  obtain ⟨c', hc'⟩ : ∃ c, cmpN q r = c := ⟨_, rfl⟩
                  have h3 := cmp3 q r hcc
                  have HCM : Hid (∀ W, Calls Try.prog 18 #[.agg #[.int .i64 q.num, .int .i64 q.den], .agg #[.int .i64 a.1, .int .i64 a.2]] W fun e w' => e = .returned (.int .i64 c') ∧ Below W.heap.size W w') := fun W => by
                    have := cmp_any q r W (sumE_inR inR_0 HQ.out) r1
                    rwa [hc', r2, r3] at this
                  rw [hc'] at h3
                  obtain ⟨b', off', ea, hb', a0, a1⟩ := segA (PM5.out.s1.below hbq) hax
                  have hbl : b' < wr.heap.size := Nat.lt_of_lt_of_le hb' hbq.size
                  rw [ea] at k1
                  obtain ⟨b2, o2, ec, hb2, x0⟩ := segB (SC5.out.below hbq) HXD.out
                  cases ec
                  have hbl2 : g < wr.heap.size := Nat.lt_of_lt_of_le hb2 hbq.size
                  have hln := HV.out.len
                  have hkD : k < D.length := by have := HLD.out; omega
                  clear ea hax r1 r2 r3 hr hcc hc' hs' hbq
                  rcases h3 with ⟨rfl, rfl⟩ | ⟨rfl, rfl⟩ | ⟨rfl, rfl⟩
                  · skip
                    go_upto_region 22 with (fail)
                    have rg0 := cell_regrown y0
                    have rg1 := cell_regrown y1
                    have rg2 := cell_regrown k0
                    have rg3 := cell_regrown k1
                    have rg4 := cell_regrown k2
                    have rg5 := cell_regrown k3
                    have rg6 := cell_regrown k4
                    have rg7 := cell_regrown k5
                    have rg8 := cell_regrown a0
                    have rg9 := cell_regrown a1
                    have rg10 := cell_regrown x0
                    refine wp_region_qt [0, 1, 2, 3, 4, 5, 6, 7, 8, 9, 10, 11, 12, 13, 14, 15, 16, 17, 18, 19, 20, 21, 22, 23, 24, 25, 26, 27, 28, 29, 30, 31, 32, 33, 34, 35] [] (by kernel_rfl) (by kernel_rfl) (by repeat (first | with_reducible refine panOk_then ?_ | with_reducible refine panOk_block ?_ | exact panOk_body)) ?_
                    simp only [opsAt, List.getElem?_toArray, List.getElem?_cons_succ, List.getElem?_cons_zero, Option.toList_some, List.cons_append, List.nil_append]
                    repeat (go_big_quiet_step ((go_at_call 18; exact qt_call (fun W' _ => HCM.out W') _ _)))
                    refine wpQuiet_nil ?_
                    intro W2 hw2
                    have hbW2 := qt_world hw2
                    clear hw2 rg0 rg1 rg2 rg3 rg4 rg5 rg6 rg7 rg8 rg9 rg10
                    refine wpList_done ?_
                    clear y0 y1 fy0 fy1 k0 k1 k2 k3 k4 k5 a0 a1 x0
                    go_wp2
                    go_roundw
                    case rel => exact ⟨k + 1, by omega, by go_num, below_then HBQ.out hbW2⟩
                    case measure => simp [intOf]; omega
                  · skip
                    go_upto_region 22 with (fail)
                    have rg0 := cell_regrown y0
                    have rg1 := cell_regrown y1
                    have rg2 := cell_regrown k0
                    have rg3 := cell_regrown k1
                    have rg4 := cell_regrown k2
                    have rg5 := cell_regrown k3
                    have rg6 := cell_regrown k4
                    have rg7 := cell_regrown k5
                    have rg8 := cell_regrown a0
                    have rg9 := cell_regrown a1
                    have rg10 := cell_regrown x0
                    refine wp_region_qt [0, 1, 2, 3, 4, 5, 6, 7, 8, 9, 10, 11, 12, 13, 14, 15, 16, 17, 18, 19, 20, 21, 22, 23, 24, 25, 26, 27, 28, 29, 30, 31, 32, 33, 34, 35] [] (by kernel_rfl) (by kernel_rfl) (by repeat (first | with_reducible refine panOk_then ?_ | with_reducible refine panOk_block ?_ | exact panOk_body)) ?_
                    simp only [opsAt, List.getElem?_toArray, List.getElem?_cons_succ, List.getElem?_cons_zero, Option.toList_some, List.cons_append, List.nil_append]
                    repeat (go_big_quiet_step ((go_at_call 18; exact qt_call (fun W' _ => HCM.out W') _ _)))
                    refine wpQuiet_nil ?_
                    intro W2 hw2
                    have hbW2 := qt_world hw2
                    clear hw2 rg0 rg1 rg2 rg3 rg4 rg5 rg6 rg7 rg8 rg9 rg10
                    refine wpList_done ?_
                    clear y0 y1 fy0 fy1 k0 k1 k2 k3 k4 k5 a0 a1 x0
                    go_wp2
                    go_roundw
                    case rel => exact ⟨k + 1, by omega, by go_num, below_then HBQ.out hbW2⟩
                    case measure => simp [intOf]; omega
                  · skip
                    go_upto_region 22 with (fail)
                    have rg0 := cell_regrown y0
                    have rg1 := cell_regrown y1
                    have rg2 := cell_regrown k0
                    have rg3 := cell_regrown k1
                    have rg4 := cell_regrown k2
                    have rg5 := cell_regrown k3
                    have rg6 := cell_regrown k4
                    have rg7 := cell_regrown k5
                    have rg8 := cell_regrown a0
                    have rg9 := cell_regrown a1
                    have rg10 := cell_regrown x0
                    refine wp_region_qt [0, 1, 2, 3, 4, 5, 6, 7, 8, 9, 10, 11, 12, 13, 14, 15, 16, 17, 18, 19, 20, 21, 22, 23, 24, 25, 26, 27, 28, 29, 30, 31, 32, 33, 34, 35] [] (by kernel_rfl) (by kernel_rfl) (by repeat (first | with_reducible refine panOk_then ?_ | with_reducible refine panOk_block ?_ | exact panOk_body)) ?_
                    simp only [opsAt, List.getElem?_toArray, List.getElem?_cons_succ, List.getElem?_cons_zero, Option.toList_some, List.cons_append, List.nil_append]
                    repeat (go_big_quiet_step ((go_at_call 18; exact qt_call (fun W' _ => HCM.out W') _ _)))
                    refine wpQuiet_nil ?_
                    intro W2 hw2
                    have hbW2 := qt_world hw2
                    clear hw2 rg0 rg1 rg2 rg3 rg4 rg5 rg6 rg7 rg8 rg9 rg10
                    refine wpList_done ?_
                    clear y0 y1 fy0 fy1 k0 k1 k2 k3 k4 k5 a0 a1 x0
                    go_wp2
                    go_roundw
                    case rel => exact ⟨k + 1, by omega, by go_num, below_then HBQ.out hbW2⟩
                    case measure => simp [intOf]; omega
            · go_wp2
              go_ret
              exact ⟨rfl, below_then HBW.out HBR.out⟩
      · have HDF := Lib.hid (defaults_no (bare p) (msB m) Y HV.out.bare PMQ.out hK)
        clear hK
        go_upto_region 8 with (go_at_call 13; (with_reducible refine HDF.out.mono ?_); rintro e w4 ⟨rfl, hk⟩)
        have GP4 := Lib.hid (GPY.out.then_ hk)
        have HB4 := Lib.hid hk
        clear k0 k1 k2 k3 k4 k5 lP
        obtain ⟨k0, k1, k2, k3, k4, k5⟩ := pfCells (GP4.out)
        have lP := (GP4.out).lt
        clear hk HDF GPY
        go_wp2_with (go_at_call 13; (with_reducible refine (HDP.out _ HB4.out).mono ?_); rintro e w5 ⟨⟨v7, z7, rfl, hd7⟩, hk⟩)
        go_ret
        exact ⟨rfl, below_then HBY.out (below_then HB4.out hk)⟩
    · rw [hv] at HCV
      clear hv
      go_wp2_with (first | (go_at_call 12; (with_reducible refine (HFW.out _).mono ?_); rintro e w2 ⟨rfl, hk⟩; replace hz := Lib.hid (below_then hz.out hk); have kk := (pfCells (GP.out.then_ hz.out)); clear k0 k1 k2 k3 k4 k5 lP; obtain ⟨k0, k1, k2, k3, k4, k5⟩ := kk; have lP := (GP.out.then_ hz.out).lt; clear hk) | (go_at_call 14; (with_reducible refine (HCV.out _ hz.out).mono ?_); rintro e w3 ⟨rfl, hk⟩; replace hz := Lib.hid (below_then hz.out hk); have kk := (pfCells (GP.out.then_ hz.out)); clear k0 k1 k2 k3 k4 k5 lP; obtain ⟨k0, k1, k2, k3, k4, k5⟩ := kk; have lP := (GP.out.then_ hz.out).lt; clear hk))
      go_ret
      exact ⟨rfl, below_then HB1.out hz.out⟩
  · rw [hf] at HFW
    clear hf
    have hz := Lib.hid (Below.refl w1.heap.size w1)
    go_wp2_with (go_at_call 12; (with_reducible refine (HFW.out _).mono ?_); rintro e w2 ⟨rfl, hk⟩; replace hz := Lib.hid (below_then hz.out hk); have kk := (pfCells (GP.out.then_ hz.out)); clear k0 k1 k2 k3 k4 k5 lP; obtain ⟨k0, k1, k2, k3, k4, k5⟩ := kk; have lP := (GP.out.then_ hz.out).lt; clear hk)
    go_ret
    exact ⟨rfl, below_then HB1.out hz.out⟩
end Go.Proofs.Yteoicnhnpailiaa
