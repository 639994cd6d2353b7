/- The walk of MergeSequences. -/
import Derived.Test.YtcplneglfbdooaaZLc2a
namespace Go.Proofs.Ytcplneglfbdooaa
open Go.RowKit

set_option maxRecDepth 100000 in
set_option maxHeartbeats 6400000 in
theorem sequences_any (c : Con) (m : Cm) (L1 L2 : List Pk) (A1 A2 : Option Addr) (k1 k2 : Nat) (w : World) (hc : ContW w c m) (hl1 : PatsW w A1 L1 k1) (hl2 : PatsW w A2 L2 k2) :
    Calls Try.prog 3 #[.agg (coA c m), .slice A1 L1.length k1, .slice A2 L2.length k2] w fun e w' => e = .returned (.bool true) ∧ Below w.heap.size w w' := by
  have HH := Lib.hid (fun W => head_any W)
  cases hs1 : smallA c (pats L1) with
  | false =>
    have HS := Lib.hid (fun W (hb : Below w.heap.size w W) => small_at c m L1 A1 k1 false hc hl1 hs1 W hb)
    clear hc hl1 hs1 hl2
    go_enter Try.func3, Try.ntmps3
    go_upto_region 1 with (fail)
    refine name_wp ?_
    intro X0 hX
    have gbc : Blk X0 w.heap.size 27 (coA c m) := by rw [hX]; exact blk_at (by simp)
    have HB0 : Below w.heap.size w X0 := by rw [hX]; (repeat (first | with_reducible assumption | with_reducible exact Below.refl _ _ | with_reducible refine below_drewN ?_ _ | with_reducible refine Below.drew ?_ | with_reducible refine below_alloc ?_ _ | with_reducible refine Below.setCell ?_ (by first | omega | (simp; done) | (simp; omega)) _ | with_reducible refine below_then ?_ (by with_reducible assumption) | (refine below_then (a := World.drew _) ?_ (by with_reducible assumption))))
    clear hX
    obtain ⟨bc, ebc⟩ : ∃ b, w.heap.size = b := ⟨_, rfl⟩
    have lbc : w.heap.size ≤ bc := by omega
    rw [ebc] at gbc ⊢
    clear ebc
    go_upto_region 2 with ((go_at_call 9; (with_reducible refine (HH.out _).mono ?_); rintro e w1 ⟨rfl, hbw1⟩))
    have HH1 := hbw1
    have HB1 := below_then HB0 HH1
    have gbc_1 := gbc.then_ HH1
    clear gbc HB0 HH1
    go_wp2_with (first | (refine wpList_row_w (by rfl) 27 _ rfl bc rfl 27 _ gbc_1 ⟨_, Try.underlying27⟩ (by kernel_rfl) ?_; simp only [Act.put, List.setIfInBounds_toArray, List.set_cons_succ, List.set_cons_zero]) | (go_at_call 10; (with_reducible refine (HS.out _ HB1).mono ?_); rintro e w2 ⟨rfl, hbw2⟩))
    go_ret
    exact ⟨rfl, below_then HB1 hbw2⟩
  | true =>
  have HS := Lib.hid (fun W (hb : Below w.heap.size w W) => small_at c m L1 A1 k1 true hc hl1 hs1 W hb)
  cases hs2 : smallA c (pats L2) with
  | false =>
    have HT := Lib.hid (fun W (hb : Below w.heap.size w W) => small_at c m L2 A2 k2 false hc hl2 hs2 W hb)
    clear hc hl1 hs1 hl2 hs2
    go_enter Try.func3, Try.ntmps3
    go_upto_region 1 with (fail)
    refine name_wp ?_
    intro X0 hX
    have gbc : Blk X0 w.heap.size 27 (coA c m) := by rw [hX]; exact blk_at (by simp)
    have HB0 : Below w.heap.size w X0 := by rw [hX]; (repeat (first | with_reducible assumption | with_reducible exact Below.refl _ _ | with_reducible refine below_drewN ?_ _ | with_reducible refine Below.drew ?_ | with_reducible refine below_alloc ?_ _ | with_reducible refine Below.setCell ?_ (by first | omega | (simp; done) | (simp; omega)) _ | with_reducible refine below_then ?_ (by with_reducible assumption) | (refine below_then (a := World.drew _) ?_ (by with_reducible assumption))))
    clear hX
    obtain ⟨bc, ebc⟩ : ∃ b, w.heap.size = b := ⟨_, rfl⟩
    have lbc : w.heap.size ≤ bc := by omega
    rw [ebc] at gbc ⊢
    clear ebc
    go_upto_region 2 with ((go_at_call 9; (with_reducible refine (HH.out _).mono ?_); rintro e w1 ⟨rfl, hbw1⟩))
    have HH1 := hbw1
    have HB1 := below_then HB0 HH1
    have gbc_1 := gbc.then_ HH1
    clear gbc HB0 HH1
    go_wp2_with (first | (refine wpList_row_w (by rfl) 27 _ rfl bc rfl 27 _ gbc_1 ⟨_, Try.underlying27⟩ (by kernel_rfl) ?_; simp only [Act.put, List.setIfInBounds_toArray, List.set_cons_succ, List.set_cons_zero]) | (go_at_call 10; (with_reducible refine (HS.out _ HB1).mono ?_); rintro e w2 ⟨rfl, hbw2⟩; have gw2 := gbc_1.then_ hbw2) | (refine wpList_row_w (by rfl) 27 _ rfl bc rfl 27 _ gw2 ⟨_, Try.underlying27⟩ (by kernel_rfl) ?_; simp only [Act.put, List.setIfInBounds_toArray, List.set_cons_succ, List.set_cons_zero]) | (go_at_call 10; (with_reducible refine (HT.out _ (below_then HB1 hbw2)).mono ?_); rintro e w3 ⟨rfl, hbw3⟩))
    go_ret
    exact ⟨rfl, below_then (below_then HB1 hbw2) hbw3⟩
  | true =>
  have HT := Lib.hid (fun W (hb : Below w.heap.size w W) => small_at c m L2 A2 k2 true hc hl2 hs2 W hb)
  obtain ⟨hC, hn⟩ := smallA_con hc hs1
  obtain ⟨hP1, h71, hk1⟩ := smallA_pats hl1 hs1
  obtain ⟨hP2, h72, hk2⟩ := smallA_pats hl2 hs2
  have hn1 := hl1.2.1.2
  have hn2 := hl2.2.1.2
  have hwr : IntKind.i64.wrap ((L1.length : Int) + (L2.length : Int)) = (L1.length : Int) + (L2.length : Int) := by rw [IntKind.wrap_i64]; omega
  clear hc hl1 hs1 hl2 hs2
  by_cases h60 : 60 < L1.length + L2.length
  · have t1 : decide ((60 : Int) < (L1.length : Int) + (L2.length : Int)) = true := decide_eq_true (by omega)
    clear h60 h71 h72 hk1 hk2 hn hC hP1 hP2 hn1 hn2
    go_enter Try.func3, Try.ntmps3
    go_upto_region 1 with (fail)
    refine name_wp ?_
    intro X0 hX
    have gbc : Blk X0 w.heap.size 27 (coA c m) := by rw [hX]; exact blk_at (by simp)
    have HB0 : Below w.heap.size w X0 := by rw [hX]; (repeat (first | with_reducible assumption | with_reducible exact Below.refl _ _ | with_reducible refine below_drewN ?_ _ | with_reducible refine Below.drew ?_ | with_reducible refine below_alloc ?_ _ | with_reducible refine Below.setCell ?_ (by first | omega | (simp; done) | (simp; omega)) _ | with_reducible refine below_then ?_ (by with_reducible assumption) | (refine below_then (a := World.drew _) ?_ (by with_reducible assumption))))
    clear hX
    obtain ⟨bc, ebc⟩ : ∃ b, w.heap.size = b := ⟨_, rfl⟩
    have lbc : w.heap.size ≤ bc := by omega
    rw [ebc] at gbc ⊢
    clear ebc
    go_upto_region 2 with ((go_at_call 9; (with_reducible refine (HH.out _).mono ?_); rintro e w1 ⟨rfl, hbw1⟩))
    have HH1 := hbw1
    have HB1 := below_then HB0 HH1
    have gbc_1 := gbc.then_ HH1
    clear gbc HB0 HH1
    go_wp2_with (first | (refine wpList_row_w (by rfl) 27 _ rfl bc rfl 27 _ gbc_1 ⟨_, Try.underlying27⟩ (by kernel_rfl) ?_; simp only [Act.put, List.setIfInBounds_toArray, List.set_cons_succ, List.set_cons_zero]) | (go_at_call 10; (with_reducible refine (HS.out _ HB1).mono ?_); rintro e w2 ⟨rfl, hbw2⟩; have gw2 := gbc_1.then_ hbw2) | (refine wpList_row_w (by rfl) 27 _ rfl bc rfl 27 _ gw2 ⟨_, Try.underlying27⟩ (by kernel_rfl) ?_; simp only [Act.put, List.setIfInBounds_toArray, List.set_cons_succ, List.set_cons_zero]) | (go_at_call 10; (with_reducible refine (HT.out _ (below_then HB1 hbw2)).mono ?_); rintro e w3 ⟨rfl, hbw3⟩))
    go_ret
    exact ⟨rfl, below_then (below_then HB1 hbw2) hbw3⟩
  have t1 : decide ((60 : Int) < (L1.length : Int) + (L2.length : Int)) = false := decide_eq_false (by omega)
  have hl60 : (pats L1).length + (pats L2).length ≤ 60 := by rw [List.length_map, List.length_map]; omega
  have HCW := Lib.hid hC
  have HP1 := Lib.hid hP1
  have HP2 := Lib.hid hP2
  obtain ⟨ri, hi, hz0, hz1, hz2⟩ := info_parts zero_pat
  by_cases hE : c.allE (pats L1) = 0
  · obtain ⟨a, ea⟩ : ∃ a, c.allC (pats L1) = a := ⟨_, rfl⟩
    obtain ⟨b, eb⟩ : ∃ b, a.allC (pats L2) = b := ⟨_, rfl⟩
    obtain ⟨F, eF⟩ : ∃ F, a.allE (pats L2) = F := ⟨_, rfl⟩
    have ea' : (c.al (pats L1)).2 = a := by rw [← ea]; unfold Con.allC; rw [if_pos hE]
    have hq := seq_yes hl60 hE
    rw [ea'] at hq
    have eF' : c.allE (pats (L1 ++ L2)) = F := by unfold pats; rw [List.map_append, ← eF]; exact hq.1
    have eb' : c.allC (pats (L1 ++ L2)) = b := by
      rw [← eb]
      unfold Con.allC
      rw [eF', eF]
      unfold pats
      rw [List.map_append, hq.2]
    have hnil := all_nil hE
    have HA1 := Lib.hid (fun W (hb : Below w.heap.size w W) => all_to c a m L1 A1 k1 L1.length 0 W (hC.then_ hb) (hP1.then_ hb) rfl hE ea)
    have HA2 := Lib.hid (fun W A3 cap (hb : Below w.heap.size w W) (hs : Seg W W.heap.size 19 eP A3 (L1 ++ L2)) => all_off_to c b m (L1 ++ L2) A3 cap (L1.length + L2.length) F W (hC.then_ hb) (pats_app hP1 hP2 hb (by omega) hs) List.length_append eF' eb')
    have HA3 := Lib.hid (fun W (ma : Cm) (hb : Below w.heap.size w W) (ha : Cont W a ma) => all_to a b ma L2 A2 k2 L2.length F W ha (hP2.then_ hb) rfl eF eb)
    have HA4 := Lib.hid (fun W (hb : Below w.heap.size w W) => all_to c c m [] none 0 0 0 W (hC.then_ hb) (pats_nil W) rfl hnil.1 hnil.2)
    have HQ1 := Lib.hid (fun W m1 m2 (h1 : Cont W b m1) (h2 : Cont W b m2) => scon_to b b m1 m2 true W h1 h2 (by simp))
    have HQ2 := Lib.hid (fun W m1 (hb : Below w.heap.size w W) (h1 : Cont W c m1) => scon_to c c m1 m true W h1 (hC.then_ hb) (by simp))
    have tF : (F == F) = true := beq_self_eq_true F
    clear hl60 hE ea eb eF ea' hq eF' eb' hnil hC hP1 hP2 h60 hn hk1 hk2
    go_enter Try.func3, Try.ntmps3
    go_upto_region 1 with (fail)
    refine name_wp ?_
    intro X0 hX
    have gbc : Blk X0 w.heap.size 27 (coA c m) := by rw [hX]; exact blk_at (by simp)
    have HB0 : Below w.heap.size w X0 := by rw [hX]; (repeat (first | with_reducible assumption | with_reducible exact Below.refl _ _ | with_reducible refine below_drewN ?_ _ | with_reducible refine Below.drew ?_ | with_reducible refine below_alloc ?_ _ | with_reducible refine Below.setCell ?_ (by first | omega | (simp; done) | (simp; omega)) _ | with_reducible refine below_then ?_ (by with_reducible assumption) | (refine below_then (a := World.drew _) ?_ (by with_reducible assumption))))
    clear hX
    obtain ⟨bc, ebc⟩ : ∃ b, w.heap.size = b := ⟨_, rfl⟩
    have lbc : w.heap.size ≤ bc := by omega
    rw [ebc] at gbc ⊢
    clear ebc
    go_upto_region 2 with ((go_at_call 9; (with_reducible refine (HH.out _).mono ?_); rintro e w1 ⟨rfl, hbw1⟩))
    have HH1 := hbw1
    have HB1 := below_then HB0 HH1
    have gbc_1 := gbc.then_ HH1
    clear gbc HB0 HH1
    go_upto_region 4 with (first | (refine wpList_row_w (by rfl) 27 _ rfl bc rfl 27 _ gbc_1 ⟨_, Try.underlying27⟩ (by kernel_rfl) ?_; simp only [Act.put, List.setIfInBounds_toArray, List.set_cons_succ, List.set_cons_zero]) | (go_at_call 10; (with_reducible refine (HS.out _ HB1).mono ?_); rintro e w2 ⟨rfl, hbw2⟩; have gw2 := gbc_1.then_ hbw2) | (refine wpList_row_w (by rfl) 27 _ rfl bc rfl 27 _ gw2 ⟨_, Try.underlying27⟩ (by kernel_rfl) ?_; simp only [Act.put, List.setIfInBounds_toArray, List.set_cons_succ, List.set_cons_zero]) | (go_at_call 10; (with_reducible refine (HT.out _ (below_then HB1 hbw2)).mono ?_); rintro e w3 ⟨rfl, hbw3⟩))
    have HH2 := below_then hbw2 hbw3
    have HB2 := below_then HB1 HH2
    have gbc_2 := gbc_1.then_ HH2
    clear gbc_1 HB1 HH2
    try clear gw2
    go_upto_region 5 with (first | (refine wpList_row_w (by rfl) 27 _ rfl bc rfl 27 _ gbc_2 ⟨_, Try.underlying27⟩ (by kernel_rfl) ?_; simp only [Act.put, List.setIfInBounds_toArray, List.set_cons_succ, List.set_cons_zero]) | (go_at_call 11; (with_reducible refine (HA1.out _ HB2).mono ?_); rintro e w4 ⟨⟨ma, rfl, hcw4⟩, hbw4⟩) | (refine wpList_store_all rfl 27 _ _ rfl w4.heap.size 27 [] coZ.toList [] (coA a ma).toList rfl rfl (Blk.new _ _ _) rfl (by kernel_rfl) (by simp [Value.oneCell']) ?_; intro WS gbWS UWS))
    have hsWS : Below w4.heap.size w4 WS := (wa1 _ _).trans (UWS.b _ (Nat.le_refl _))
    have HH3 := below_then hbw4 hsWS
    have HB3 := below_then HB2 HH3
    have gbc_3 := gbc_2.then_ HH3
    clear gbc_2 HB2 HH3
    have hca1 := hcw4.then_ hsWS
    obtain ⟨bWS, ebWS⟩ : ∃ b, w4.heap.size = b := ⟨_, rfl⟩
    rw [ebWS] at gbWS ⊢
    clear ebWS UWS hsWS hcw4
    have HA2' := Lib.hid (fun W A3 cap (hb : Below WS.heap.size WS W) hs => HA2.out W A3 cap (below_then HB3 hb) hs)
    replace HCW := Lib.hid (HCW.out.then_ HB3)
    replace HP1 := Lib.hid (HP1.out.then_ HB3)
    replace HP2 := Lib.hid (HP2.out.then_ HB3)
    go_upto_region 5 with (fail)
    go_cut [10, 11] from 42 to 51 (fun v10 v11 W => ∃ q m, v10 = .pointer (some ⟨q, 0, none⟩) ∧ v11 = .int .i64 F ∧ Blk W q 27 (coA b m) ∧ Cont W b m ∧ Below WS.heap.size WS W)
    case first =>
      refine wp_region_hb (fun w' => Hid (Below WS.heap.size WS w')) [0, 1, 2, 3, 4, 5, 6, 7, 8, 9, 10, 11] [12] (by kernel_rfl) (by kernel_rfl) (by repeat (first | with_reducible refine panOk_then ?_ | with_reducible refine panOk_block ?_ | exact panOk_body)) (Lib.hid (Below.drew (Below.refl _ _))) (fun hdir hsel hpan hHeld => ?_)
      refine wpHB_take (i := 0) (oi := ⟨some 43, _, _, _, _, _⟩) hdir hsel hpan rfl (by kernel_rfl) (by kernel_rfl) (by kernel_rfl) (yieldsIf_row (by rfl) 27 _ rfl bc rfl 27 _ (fun w hw => (gbc_3.then_ hw.out)) ⟨_, Try.underlying27⟩ (by kernel_rfl)) (by assumption) ?_
      try simp only [Act.put, List.setIfInBounds_toArray, List.set_cons_zero, List.set_cons_succ]
      refine wpHB_take (i := 2) (oi := ⟨some 45, _, _, _, _, _⟩) hdir hsel hpan rfl (by kernel_rfl) (by kernel_rfl) (by kernel_rfl) (Or.inl ⟨by rfl, fun _ _ => by rfl⟩) (by assumption) ?_
      try simp only [Act.put, List.setIfInBounds_toArray, List.set_cons_zero, List.set_cons_succ]
      refine wpHB_take (i := 4) (oi := ⟨some 47, _, _, _, _, _⟩) hdir hsel hpan rfl (by kernel_rfl) (by kernel_rfl) (by kernel_rfl) (Or.inl ⟨by rfl, fun _ _ => by rfl⟩) (by assumption) ?_
      try simp only [Act.put, List.setIfInBounds_toArray, List.set_cons_zero, List.set_cons_succ]
      refine wpHB_ready (rs := [1, 10]) (by kernel_rfl) (by simp) ?_
      refine AllHB.cons (by kernel_rfl) (o := ⟨some 44, _, _, _, _, _⟩) rfl (fun K hK => ?_) ?_
      · go_simp
        refine name_k ?_
        intro Vb hVb
        obtain ⟨hO, hbb⟩ : Own Vb WS.heap.size 49 19 eP _ [] ∧ _ := (by first | exact own_new hVb hHeld.out.size | exact own_new (W := WS.drew) hVb hHeld.out.size)
        try (replace gp := gp.then_ hbb)
        clear hVb
        refine hK.out _ _ (Lib.hid (below_then hHeld.out hbb)) (fun hHeld2 => ?_)
        clear hK K hHeld
        have hHeld := hHeld2
        clear hHeld2
        try simp only [Act.put, List.setIfInBounds_toArray, List.set_cons_zero, List.set_cons_succ]
        refine wpHB_ready (rs := [3, 10]) (by kernel_rfl) (by simp) ?_
        refine AllHB.cons (by kernel_rfl) (o := ⟨some 46, _, _, _, _, _⟩) rfl (fun K hK => ?_) ?_
        · rw [if_pos (by rfl)]
          refine wp_app_list _ (.tmp 44) (.tmp 45) _ rfl WS.heap.size 49 ri _ 19 176 Try.underlying28 hi hz0 hz1 hz2 rfl (by omega) (by omega) eP eP_len one_pat _ [] rfl hO A1 L1 k1 _ rfl rfl (by (try simp only [List.length_nil]); omega) _ (HP1.out.then_ hHeld.out).s hn1 hHeld.out.size ?_
          intro va Va hOa hba hga
          try (replace gp := gp.grownBy hO (by decide) hga)
          clear hO hga
          have hO := hOa
          clear hOa
          rw [List.nil_append] at hO
          refine hK.out _ _ (Lib.hid (hHeld.out.trans hba)) (fun hHeld2 => ?_)
          clear hK K hHeld
          have hHeld := hHeld2
          clear hHeld2
          try simp only [Act.put, List.setIfInBounds_toArray, List.set_cons_zero, List.set_cons_succ]
          refine wpHB_ready (rs := [5, 10]) (by kernel_rfl) (by simp) ?_
          refine AllHB.cons (by kernel_rfl) (o := ⟨some 48, _, _, _, _, _⟩) rfl (fun K hK => ?_) ?_
          · rw [if_pos (by rfl)]
            refine wp_app_list _ (.tmp 46) (.tmp 47) _ rfl WS.heap.size 49 ri _ 19 176 Try.underlying28 hi hz0 hz1 hz2 rfl (by omega) (by omega) eP eP_len one_pat _ L1 rfl hO A2 L2 k2 _ rfl rfl (by (try simp only [List.length_nil]); omega) _ (HP2.out.then_ hHeld.out).s hn2 hHeld.out.size ?_
            intro va Va hOa hba hga
            try (replace gp := gp.grownBy hO (by decide) hga)
            clear hO hga
            have hO := hOa
            clear hOa
            obtain ⟨A3, k3, rfl, hk3, hs3⟩ := hO.seg eP_len
            clear hO
            refine hK.out _ _ (Lib.hid (hHeld.out.trans hba)) (fun hHeld2 => ?_)
            clear hK K hHeld
            have hHeld := hHeld2
            clear hHeld2
            try simp only [Act.put, List.setIfInBounds_toArray, List.set_cons_zero, List.set_cons_succ]
            refine wpHB_ready (rs := [6, 10]) (by kernel_rfl) (by simp) ?_
            refine AllHB.cons (by kernel_rfl) (o := ⟨some 49, _, _, _, _, _⟩) rfl (fun K hK => ?_) ?_
            · go_simp
              (go_at_call 11; (with_reducible refine (HA2'.out _ _ _ hHeld.out hs3).mono ?_); rintro e wa ⟨⟨m2, rfl, hca, hof⟩, hba⟩)
              try (have ho := off_before hof HCW.out lla gp.lt)
              try (replace gp := gp.then_ hba)
              clear hof hs3
              refine hK.out _ _ (Lib.hid (below_then hHeld.out hba)) (fun hHeld2 => ?_)
              clear hK K hHeld
              have hHeld := hHeld2
              clear hHeld2
              try simp only [Act.put, List.setIfInBounds_toArray, List.set_cons_zero, List.set_cons_succ]
              refine wpHB_take (i := 7) (oi := ⟨some 42, _, _, _, _, _⟩) hdir hsel hpan rfl (by kernel_rfl) (by kernel_rfl) (by kernel_rfl) (Or.inl ⟨by rfl, fun _ _ => by rfl⟩) (by assumption) ?_
              try simp only [Act.put, List.setIfInBounds_toArray, List.set_cons_zero, List.set_cons_succ]
              refine wpHB_take (i := 8) (oi := ⟨some 50, _, _, _, _, _⟩) hdir hsel hpan rfl (by kernel_rfl) (by kernel_rfl) (by kernel_rfl) (Or.inl ⟨by rfl, fun _ _ => by rfl⟩) (by assumption) ?_
              try simp only [Act.put, List.setIfInBounds_toArray, List.set_cons_zero, List.set_cons_succ]
              refine wpHB_take (i := 9) (oi := ⟨some 51, _, _, _, _, _⟩) hdir hsel hpan rfl (by kernel_rfl) (by kernel_rfl) (by kernel_rfl) (Or.inl ⟨by rfl, fun _ _ => by rfl⟩) (by assumption) ?_
              try simp only [Act.put, List.setIfInBounds_toArray, List.set_cons_zero, List.set_cons_succ]
              refine wpHB_ready (rs := [10]) (by kernel_rfl) (by simp) ?_
              refine AllHB.cons (by kernel_rfl) (o := ⟨some 10, _, _, _, _, _⟩) rfl (fun K hK => ?_) AllHB.nil
              go_simp
              have lla := hHeld.out.size
              refine name_k ?_
              intro Vp hVp
              obtain ⟨gp, hbp⟩ : _ ∧ _ := (by first | exact con_new hVp | exact con_new (W := WS.drew) hVp)
              try (have ho := hca.off.mono fun b hb => Nat.ne_of_lt hb)
              try (replace hca := hca.then_ hbp)
              try (replace hO := hO.below hbp)
              clear hVp
              try (replace hs3 := (hs3.below hbp).more hbp.size)
              refine hK.out _ _ (Lib.hid (below_then hHeld.out hbp)) (fun hHeld2 => ?_)
              clear hK K hHeld
              have hHeld := hHeld2
              clear hHeld2
              try simp only [Act.put, List.setIfInBounds_toArray, List.set_cons_zero, List.set_cons_succ]
              refine wpHB_ready (rs := [11]) (by kernel_rfl) (by simp) ?_
              refine AllHB.cons (by kernel_rfl) (o := ⟨none, _, _, _, _, _⟩) rfl (fun K hK => ?_) AllHB.nil
              rw [if_pos (by rfl)]
              refine wp_store_all 27 _ _ rfl _ 27 [] coZ.toList [] (coA b m2).toList rfl rfl gp rfl (by kernel_rfl) (by simp [Value.oneCell']) ?_
              intro w8 g8 U8
              refine hK.out _ _ (Lib.hid (hHeld.out.trans (U8.b _ lla))) (fun hHeld2 => ?_)
              clear hK K hHeld
              have hHeld := hHeld2
              clear hHeld2
              try simp only [Act.put]
              refine wpHB_tail (by kernel_rfl) (by kernel_rfl) ?_
              clear hdir hsel hpan
              simp only [opsAt, List.getElem?_toArray, List.getElem?_cons_succ, List.getElem?_cons_zero, Option.toList_some, List.cons_append, List.nil_append]
              go_wp2
              go_meet
              case rel => exact ⟨_, m2, rfl, rfl, g8, hca.upd U8 ho, hHeld.out⟩
            refine AllHB.cons (by kernel_rfl) (o := ⟨some 10, _, _, _, _, _⟩) rfl (fun K hK => ?_) ?_
            · go_simp
              have lla := hHeld.out.size
              refine name_k ?_
              intro Vp hVp
              obtain ⟨gp, hbp⟩ : _ ∧ _ := (by first | exact con_new hVp | exact con_new (W := WS.drew) hVp)
              try (have ho := hca.off.mono fun b hb => Nat.ne_of_lt hb)
              try (replace hca := hca.then_ hbp)
              try (replace hO := hO.below hbp)
              clear hVp
              try (replace hs3 := (hs3.below hbp).more hbp.size)
              refine hK.out _ _ (Lib.hid (below_then hHeld.out hbp)) (fun hHeld2 => ?_)
              clear hK K hHeld
              have hHeld := hHeld2
              clear hHeld2
              try simp only [Act.put, List.setIfInBounds_toArray, List.set_cons_zero, List.set_cons_succ]
              refine wpHB_ready (rs := [6]) (by kernel_rfl) (by simp) ?_
              refine AllHB.cons (by kernel_rfl) (o := ⟨some 49, _, _, _, _, _⟩) rfl (fun K hK => ?_) AllHB.nil
              go_simp
              (go_at_call 11; (with_reducible refine (HA2'.out _ _ _ hHeld.out hs3).mono ?_); rintro e wa ⟨⟨m2, rfl, hca, hof⟩, hba⟩)
              try (have ho := off_before hof HCW.out lla gp.lt)
              try (replace gp := gp.then_ hba)
              clear hof hs3
              refine hK.out _ _ (Lib.hid (below_then hHeld.out hba)) (fun hHeld2 => ?_)
              clear hK K hHeld
              have hHeld := hHeld2
              clear hHeld2
              try simp only [Act.put, List.setIfInBounds_toArray, List.set_cons_zero, List.set_cons_succ]
              refine wpHB_take (i := 7) (oi := ⟨some 42, _, _, _, _, _⟩) hdir hsel hpan rfl (by kernel_rfl) (by kernel_rfl) (by kernel_rfl) (Or.inl ⟨by rfl, fun _ _ => by rfl⟩) (by assumption) ?_
              try simp only [Act.put, List.setIfInBounds_toArray, List.set_cons_zero, List.set_cons_succ]
              refine wpHB_take (i := 8) (oi := ⟨some 50, _, _, _, _, _⟩) hdir hsel hpan rfl (by kernel_rfl) (by kernel_rfl) (by kernel_rfl) (Or.inl ⟨by rfl, fun _ _ => by rfl⟩) (by assumption) ?_
              try simp only [Act.put, List.setIfInBounds_toArray, List.set_cons_zero, List.set_cons_succ]
              refine wpHB_take (i := 9) (oi := ⟨some 51, _, _, _, _, _⟩) hdir hsel hpan rfl (by kernel_rfl) (by kernel_rfl) (by kernel_rfl) (Or.inl ⟨by rfl, fun _ _ => by rfl⟩) (by assumption) ?_
              try simp only [Act.put, List.setIfInBounds_toArray, List.set_cons_zero, List.set_cons_succ]
              refine wpHB_ready (rs := [11]) (by kernel_rfl) (by simp) ?_
              refine AllHB.cons (by kernel_rfl) (o := ⟨none, _, _, _, _, _⟩) rfl (fun K hK => ?_) AllHB.nil
              rw [if_pos (by rfl)]
              refine wp_store_all 27 _ _ rfl _ 27 [] coZ.toList [] (coA b m2).toList rfl rfl gp rfl (by kernel_rfl) (by simp [Value.oneCell']) ?_
              intro w8 g8 U8
              refine hK.out _ _ (Lib.hid (hHeld.out.trans (U8.b _ lla))) (fun hHeld2 => ?_)
              clear hK K hHeld
              have hHeld := hHeld2
              clear hHeld2
              try simp only [Act.put]
              refine wpHB_tail (by kernel_rfl) (by kernel_rfl) ?_
              clear hdir hsel hpan
              simp only [opsAt, List.getElem?_toArray, List.getElem?_cons_succ, List.getElem?_cons_zero, Option.toList_some, List.cons_append, List.nil_append]
              go_wp2
              go_meet
              case rel => exact ⟨_, m2, rfl, rfl, g8, hca.upd U8 ho, hHeld.out⟩
            exact AllHB.nil
          refine AllHB.cons (by kernel_rfl) (o := ⟨some 10, _, _, _, _, _⟩) rfl (fun K hK => ?_) ?_
          · go_simp
            have lla := hHeld.out.size
            refine name_k ?_
            intro Vp hVp
            obtain ⟨gp, hbp⟩ : _ ∧ _ := (by first | exact con_new hVp | exact con_new (W := WS.drew) hVp)
            try (have ho := hca.off.mono fun b hb => Nat.ne_of_lt hb)
            try (replace hca := hca.then_ hbp)
            try (replace hO := hO.below hbp)
            clear hVp
            try (replace hs3 := (hs3.below hbp).more hbp.size)
            refine hK.out _ _ (Lib.hid (below_then hHeld.out hbp)) (fun hHeld2 => ?_)
            clear hK K hHeld
            have hHeld := hHeld2
            clear hHeld2
            try simp only [Act.put, List.setIfInBounds_toArray, List.set_cons_zero, List.set_cons_succ]
            refine wpHB_ready (rs := [5]) (by kernel_rfl) (by simp) ?_
            refine AllHB.cons (by kernel_rfl) (o := ⟨some 48, _, _, _, _, _⟩) rfl (fun K hK => ?_) AllHB.nil
            rw [if_pos (by rfl)]
            refine wp_app_list _ (.tmp 46) (.tmp 47) _ rfl WS.heap.size 49 ri _ 19 176 Try.underlying28 hi hz0 hz1 hz2 rfl (by omega) (by omega) eP eP_len one_pat _ L1 rfl hO A2 L2 k2 _ rfl rfl (by (try simp only [List.length_nil]); omega) _ (HP2.out.then_ hHeld.out).s hn2 hHeld.out.size ?_
            intro va Va hOa hba hga
            try (replace gp := gp.grownBy hO (by decide) hga)
            clear hO hga
            have hO := hOa
            clear hOa
            obtain ⟨A3, k3, rfl, hk3, hs3⟩ := hO.seg eP_len
            clear hO
            refine hK.out _ _ (Lib.hid (hHeld.out.trans hba)) (fun hHeld2 => ?_)
            clear hK K hHeld
            have hHeld := hHeld2
            clear hHeld2
            try simp only [Act.put, List.setIfInBounds_toArray, List.set_cons_zero, List.set_cons_succ]
            refine wpHB_ready (rs := [6]) (by kernel_rfl) (by simp) ?_
            refine AllHB.cons (by kernel_rfl) (o := ⟨some 49, _, _, _, _, _⟩) rfl (fun K hK => ?_) AllHB.nil
            go_simp
            (go_at_call 11; (with_reducible refine (HA2'.out _ _ _ hHeld.out hs3).mono ?_); rintro e wa ⟨⟨m2, rfl, hca, hof⟩, hba⟩)
            try (have ho := off_before hof HCW.out lla gp.lt)
            try (replace gp := gp.then_ hba)
            clear hof hs3
            refine hK.out _ _ (Lib.hid (below_then hHeld.out hba)) (fun hHeld2 => ?_)
            clear hK K hHeld
            have hHeld := hHeld2
            clear hHeld2
            try simp only [Act.put, List.setIfInBounds_toArray, List.set_cons_zero, List.set_cons_succ]
            refine wpHB_take (i := 7) (oi := ⟨some 42, _, _, _, _, _⟩) hdir hsel hpan rfl (by kernel_rfl) (by kernel_rfl) (by kernel_rfl) (Or.inl ⟨by rfl, fun _ _ => by rfl⟩) (by assumption) ?_
            try simp only [Act.put, List.setIfInBounds_toArray, List.set_cons_zero, List.set_cons_succ]
            refine wpHB_take (i := 8) (oi := ⟨some 50, _, _, _, _, _⟩) hdir hsel hpan rfl (by kernel_rfl) (by kernel_rfl) (by kernel_rfl) (Or.inl ⟨by rfl, fun _ _ => by rfl⟩) (by assumption) ?_
            try simp only [Act.put, List.setIfInBounds_toArray, List.set_cons_zero, List.set_cons_succ]
            refine wpHB_take (i := 9) (oi := ⟨some 51, _, _, _, _, _⟩) hdir hsel hpan rfl (by kernel_rfl) (by kernel_rfl) (by kernel_rfl) (Or.inl ⟨by rfl, fun _ _ => by rfl⟩) (by assumption) ?_
            try simp only [Act.put, List.setIfInBounds_toArray, List.set_cons_zero, List.set_cons_succ]
            refine wpHB_ready (rs := [11]) (by kernel_rfl) (by simp) ?_
            refine AllHB.cons (by kernel_rfl) (o := ⟨none, _, _, _, _, _⟩) rfl (fun K hK => ?_) AllHB.nil
            rw [if_pos (by rfl)]
            refine wp_store_all 27 _ _ rfl _ 27 [] coZ.toList [] (coA b m2).toList rfl rfl gp rfl (by kernel_rfl) (by simp [Value.oneCell']) ?_
            intro w8 g8 U8
            refine hK.out _ _ (Lib.hid (hHeld.out.trans (U8.b _ lla))) (fun hHeld2 => ?_)
            clear hK K hHeld
            have hHeld := hHeld2
            clear hHeld2
            try simp only [Act.put]
            refine wpHB_tail (by kernel_rfl) (by kernel_rfl) ?_
            clear hdir hsel hpan
            simp only [opsAt, List.getElem?_toArray, List.getElem?_cons_succ, List.getElem?_cons_zero, Option.toList_some, List.cons_append, List.nil_append]
            go_wp2
            go_meet
            case rel => exact ⟨_, m2, rfl, rfl, g8, hca.upd U8 ho, hHeld.out⟩
          exact AllHB.nil
        refine AllHB.cons (by kernel_rfl) (o := ⟨some 10, _, _, _, _, _⟩) rfl (fun K hK => ?_) ?_
        · go_simp
          have lla := hHeld.out.size
          refine name_k ?_
          intro Vp hVp
          obtain ⟨gp, hbp⟩ : _ ∧ _ := (by first | exact con_new hVp | exact con_new (W := WS.drew) hVp)
          try (have ho := hca.off.mono fun b hb => Nat.ne_of_lt hb)
          try (replace hca := hca.then_ hbp)
          try (replace hO := hO.below hbp)
          clear hVp
          try (replace hs3 := (hs3.below hbp).more hbp.size)
          refine hK.out _ _ (Lib.hid (below_then hHeld.out hbp)) (fun hHeld2 => ?_)
          clear hK K hHeld
          have hHeld := hHeld2
          clear hHeld2
          try simp only [Act.put, List.setIfInBounds_toArray, List.set_cons_zero, List.set_cons_succ]
          refine wpHB_ready (rs := [3]) (by kernel_rfl) (by simp) ?_
          refine AllHB.cons (by kernel_rfl) (o := ⟨some 46, _, _, _, _, _⟩) rfl (fun K hK => ?_) AllHB.nil
          rw [if_pos (by rfl)]
          refine wp_app_list _ (.tmp 44) (.tmp 45) _ rfl WS.heap.size 49 ri _ 19 176 Try.underlying28 hi hz0 hz1 hz2 rfl (by omega) (by omega) eP eP_len one_pat _ [] rfl hO A1 L1 k1 _ rfl rfl (by (try simp only [List.length_nil]); omega) _ (HP1.out.then_ hHeld.out).s hn1 hHeld.out.size ?_
          intro va Va hOa hba hga
          try (replace gp := gp.grownBy hO (by decide) hga)
          clear hO hga
          have hO := hOa
          clear hOa
          rw [List.nil_append] at hO
          refine hK.out _ _ (Lib.hid (hHeld.out.trans hba)) (fun hHeld2 => ?_)
          clear hK K hHeld
          have hHeld := hHeld2
          clear hHeld2
          try simp only [Act.put, List.setIfInBounds_toArray, List.set_cons_zero, List.set_cons_succ]
          refine wpHB_ready (rs := [5]) (by kernel_rfl) (by simp) ?_
          refine AllHB.cons (by kernel_rfl) (o := ⟨some 48, _, _, _, _, _⟩) rfl (fun K hK => ?_) AllHB.nil
          rw [if_pos (by rfl)]
          refine wp_app_list _ (.tmp 46) (.tmp 47) _ rfl WS.heap.size 49 ri _ 19 176 Try.underlying28 hi hz0 hz1 hz2 rfl (by omega) (by omega) eP eP_len one_pat _ L1 rfl hO A2 L2 k2 _ rfl rfl (by (try simp only [List.length_nil]); omega) _ (HP2.out.then_ hHeld.out).s hn2 hHeld.out.size ?_
          intro va Va hOa hba hga
          try (replace gp := gp.grownBy hO (by decide) hga)
          clear hO hga
          have hO := hOa
          clear hOa
          obtain ⟨A3, k3, rfl, hk3, hs3⟩ := hO.seg eP_len
          clear hO
          refine hK.out _ _ (Lib.hid (hHeld.out.trans hba)) (fun hHeld2 => ?_)
          clear hK K hHeld
          have hHeld := hHeld2
          clear hHeld2
          try simp only [Act.put, List.setIfInBounds_toArray, List.set_cons_zero, List.set_cons_succ]
          refine wpHB_ready (rs := [6]) (by kernel_rfl) (by simp) ?_
          refine AllHB.cons (by kernel_rfl) (o := ⟨some 49, _, _, _, _, _⟩) rfl (fun K hK => ?_) AllHB.nil
          go_simp
          (go_at_call 11; (with_reducible refine (HA2'.out _ _ _ hHeld.out hs3).mono ?_); rintro e wa ⟨⟨m2, rfl, hca, hof⟩, hba⟩)
          try (have ho := off_before hof HCW.out lla gp.lt)
          try (replace gp := gp.then_ hba)
          clear hof hs3
          refine hK.out _ _ (Lib.hid (below_then hHeld.out hba)) (fun hHeld2 => ?_)
          clear hK K hHeld
          have hHeld := hHeld2
          clear hHeld2
          try simp only [Act.put, List.setIfInBounds_toArray, List.set_cons_zero, List.set_cons_succ]
          refine wpHB_take (i := 7) (oi := ⟨some 42, _, _, _, _, _⟩) hdir hsel hpan rfl (by kernel_rfl) (by kernel_rfl) (by kernel_rfl) (Or.inl ⟨by rfl, fun _ _ => by rfl⟩) (by assumption) ?_
          try simp only [Act.put, List.setIfInBounds_toArray, List.set_cons_zero, List.set_cons_succ]
          refine wpHB_take (i := 8) (oi := ⟨some 50, _, _, _, _, _⟩) hdir hsel hpan rfl (by kernel_rfl) (by kernel_rfl) (by kernel_rfl) (Or.inl ⟨by rfl, fun _ _ => by rfl⟩) (by assumption) ?_
          try simp only [Act.put, List.setIfInBounds_toArray, List.set_cons_zero, List.set_cons_succ]
          refine wpHB_take (i := 9) (oi := ⟨some 51, _, _, _, _, _⟩) hdir hsel hpan rfl (by kernel_rfl) (by kernel_rfl) (by kernel_rfl) (Or.inl ⟨by rfl, fun _ _ => by rfl⟩) (by assumption) ?_
          try simp only [Act.put, List.setIfInBounds_toArray, List.set_cons_zero, List.set_cons_succ]
          refine wpHB_ready (rs := [11]) (by kernel_rfl) (by simp) ?_
          refine AllHB.cons (by kernel_rfl) (o := ⟨none, _, _, _, _, _⟩) rfl (fun K hK => ?_) AllHB.nil
          rw [if_pos (by rfl)]
          refine wp_store_all 27 _ _ rfl _ 27 [] coZ.toList [] (coA b m2).toList rfl rfl gp rfl (by kernel_rfl) (by simp [Value.oneCell']) ?_
          intro w8 g8 U8
          refine hK.out _ _ (Lib.hid (hHeld.out.trans (U8.b _ lla))) (fun hHeld2 => ?_)
          clear hK K hHeld
          have hHeld := hHeld2
          clear hHeld2
          try simp only [Act.put]
          refine wpHB_tail (by kernel_rfl) (by kernel_rfl) ?_
          clear hdir hsel hpan
          simp only [opsAt, List.getElem?_toArray, List.getElem?_cons_succ, List.getElem?_cons_zero, Option.toList_some, List.cons_append, List.nil_append]
          go_wp2
          go_meet
          case rel => exact ⟨_, m2, rfl, rfl, g8, hca.upd U8 ho, hHeld.out⟩
        exact AllHB.nil
      refine AllHB.cons (by kernel_rfl) (o := ⟨some 10, _, _, _, _, _⟩) rfl (fun K hK => ?_) ?_
      · go_simp
        have lla := hHeld.out.size
        refine name_k ?_
        intro Vp hVp
        obtain ⟨gp, hbp⟩ : _ ∧ _ := (by first | exact con_new hVp | exact con_new (W := WS.drew) hVp)
        try (have ho := hca.off.mono fun b hb => Nat.ne_of_lt hb)
        try (replace hca := hca.then_ hbp)
        try (replace hO := hO.below hbp)
        clear hVp
        try (replace hs3 := (hs3.below hbp).more hbp.size)
        refine hK.out _ _ (Lib.hid (below_then hHeld.out hbp)) (fun hHeld2 => ?_)
        clear hK K hHeld
        have hHeld := hHeld2
        clear hHeld2
        try simp only [Act.put, List.setIfInBounds_toArray, List.set_cons_zero, List.set_cons_succ]
        refine wpHB_ready (rs := [1]) (by kernel_rfl) (by simp) ?_
        refine AllHB.cons (by kernel_rfl) (o := ⟨some 44, _, _, _, _, _⟩) rfl (fun K hK => ?_) AllHB.nil
        go_simp
        refine name_k ?_
        intro Vb hVb
        obtain ⟨hO, hbb⟩ : Own Vb WS.heap.size 49 19 eP _ [] ∧ _ := (by first | exact own_new hVb hHeld.out.size | exact own_new (W := WS.drew) hVb hHeld.out.size)
        try (replace gp := gp.then_ hbb)
        clear hVb
        refine hK.out _ _ (Lib.hid (below_then hHeld.out hbb)) (fun hHeld2 => ?_)
        clear hK K hHeld
        have hHeld := hHeld2
        clear hHeld2
        try simp only [Act.put, List.setIfInBounds_toArray, List.set_cons_zero, List.set_cons_succ]
        refine wpHB_ready (rs := [3]) (by kernel_rfl) (by simp) ?_
        refine AllHB.cons (by kernel_rfl) (o := ⟨some 46, _, _, _, _, _⟩) rfl (fun K hK => ?_) AllHB.nil
        rw [if_pos (by rfl)]
        refine wp_app_list _ (.tmp 44) (.tmp 45) _ rfl WS.heap.size 49 ri _ 19 176 Try.underlying28 hi hz0 hz1 hz2 rfl (by omega) (by omega) eP eP_len one_pat _ [] rfl hO A1 L1 k1 _ rfl rfl (by (try simp only [List.length_nil]); omega) _ (HP1.out.then_ hHeld.out).s hn1 hHeld.out.size ?_
        intro va Va hOa hba hga
        try (replace gp := gp.grownBy hO (by decide) hga)
        clear hO hga
        have hO := hOa
        clear hOa
        rw [List.nil_append] at hO
        refine hK.out _ _ (Lib.hid (hHeld.out.trans hba)) (fun hHeld2 => ?_)
        clear hK K hHeld
        have hHeld := hHeld2
        clear hHeld2
        try simp only [Act.put, List.setIfInBounds_toArray, List.set_cons_zero, List.set_cons_succ]
        refine wpHB_ready (rs := [5]) (by kernel_rfl) (by simp) ?_
        refine AllHB.cons (by kernel_rfl) (o := ⟨some 48, _, _, _, _, _⟩) rfl (fun K hK => ?_) AllHB.nil
        rw [if_pos (by rfl)]
        refine wp_app_list _ (.tmp 46) (.tmp 47) _ rfl WS.heap.size 49 ri _ 19 176 Try.underlying28 hi hz0 hz1 hz2 rfl (by omega) (by omega) eP eP_len one_pat _ L1 rfl hO A2 L2 k2 _ rfl rfl (by (try simp only [List.length_nil]); omega) _ (HP2.out.then_ hHeld.out).s hn2 hHeld.out.size ?_
        intro va Va hOa hba hga
        try (replace gp := gp.grownBy hO (by decide) hga)
        clear hO hga
        have hO := hOa
        clear hOa
        obtain ⟨A3, k3, rfl, hk3, hs3⟩ := hO.seg eP_len
        clear hO
        refine hK.out _ _ (Lib.hid (hHeld.out.trans hba)) (fun hHeld2 => ?_)
        clear hK K hHeld
        have hHeld := hHeld2
        clear hHeld2
        try simp only [Act.put, List.setIfInBounds_toArray, List.set_cons_zero, List.set_cons_succ]
        refine wpHB_ready (rs := [6]) (by kernel_rfl) (by simp) ?_
        refine AllHB.cons (by kernel_rfl) (o := ⟨some 49, _, _, _, _, _⟩) rfl (fun K hK => ?_) AllHB.nil
        go_simp
        (go_at_call 11; (with_reducible refine (HA2'.out _ _ _ hHeld.out hs3).mono ?_); rintro e wa ⟨⟨m2, rfl, hca, hof⟩, hba⟩)
        try (have ho := off_before hof HCW.out lla gp.lt)
        try (replace gp := gp.then_ hba)
        clear hof hs3
        refine hK.out _ _ (Lib.hid (below_then hHeld.out hba)) (fun hHeld2 => ?_)
        clear hK K hHeld
        have hHeld := hHeld2
        clear hHeld2
        try simp only [Act.put, List.setIfInBounds_toArray, List.set_cons_zero, List.set_cons_succ]
        refine wpHB_take (i := 7) (oi := ⟨some 42, _, _, _, _, _⟩) hdir hsel hpan rfl (by kernel_rfl) (by kernel_rfl) (by kernel_rfl) (Or.inl ⟨by rfl, fun _ _ => by rfl⟩) (by assumption) ?_
        try simp only [Act.put, List.setIfInBounds_toArray, List.set_cons_zero, List.set_cons_succ]
        refine wpHB_take (i := 8) (oi := ⟨some 50, _, _, _, _, _⟩) hdir hsel hpan rfl (by kernel_rfl) (by kernel_rfl) (by kernel_rfl) (Or.inl ⟨by rfl, fun _ _ => by rfl⟩) (by assumption) ?_
        try simp only [Act.put, List.setIfInBounds_toArray, List.set_cons_zero, List.set_cons_succ]
        refine wpHB_take (i := 9) (oi := ⟨some 51, _, _, _, _, _⟩) hdir hsel hpan rfl (by kernel_rfl) (by kernel_rfl) (by kernel_rfl) (Or.inl ⟨by rfl, fun _ _ => by rfl⟩) (by assumption) ?_
        try simp only [Act.put, List.setIfInBounds_toArray, List.set_cons_zero, List.set_cons_succ]
        refine wpHB_ready (rs := [11]) (by kernel_rfl) (by simp) ?_
        refine AllHB.cons (by kernel_rfl) (o := ⟨none, _, _, _, _, _⟩) rfl (fun K hK => ?_) AllHB.nil
        rw [if_pos (by rfl)]
        refine wp_store_all 27 _ _ rfl _ 27 [] coZ.toList [] (coA b m2).toList rfl rfl gp rfl (by kernel_rfl) (by simp [Value.oneCell']) ?_
        intro w8 g8 U8
        refine hK.out _ _ (Lib.hid (hHeld.out.trans (U8.b _ lla))) (fun hHeld2 => ?_)
        clear hK K hHeld
        have hHeld := hHeld2
        clear hHeld2
        try simp only [Act.put]
        refine wpHB_tail (by kernel_rfl) (by kernel_rfl) ?_
        clear hdir hsel hpan
        simp only [opsAt, List.getElem?_toArray, List.getElem?_cons_succ, List.getElem?_cons_zero, Option.toList_some, List.cons_append, List.nil_append]
        go_wp2
        go_meet
        case rel => exact ⟨_, m2, rfl, rfl, g8, hca.upd U8 ho, hHeld.out⟩
      exact AllHB.nil
    obtain ⟨bq, mq, rfl, rfl, gbq, hcq, hbq⟩ := hcut
    obtain ⟨w5c, rfl⟩ : ∃ W, W = wc := ⟨_, rfl⟩
    have HH4 := hbq
    have HB4 := below_then HB3 HH4
    have gbc_4 := gbc_3.then_ HH4
    have gbWS_4 := gbWS.then_ HH4
    have hca1_4 := hca1.then_ HH4
    clear gbc_3 gbWS hca1 HB3 HH4
    clear HA2 HA2' HCW HP1 HP2
    go_upto_region 9 with (first | (refine wpList_row_w (by rfl) 27 _ rfl bWS rfl 27 _ gbWS_4 ⟨_, Try.underlying27⟩ (by kernel_rfl) ?_; simp only [Act.put, List.setIfInBounds_toArray, List.set_cons_succ, List.set_cons_zero]) | (go_at_call 11; (with_reducible refine (HA3.out _ ma HB4 hca1_4).mono ?_); rintro e w6 ⟨⟨mb, rfl, hcw6⟩, hbw6⟩) | (refine wpList_store_all rfl 27 _ _ rfl w6.heap.size 27 [] coZ.toList [] (coA b mb).toList rfl rfl (Blk.new _ _ _) rfl (by kernel_rfl) (by simp [Value.oneCell']) ?_; intro w7 gbw7 Uw7))
    have hsw7 : Below w6.heap.size w6 w7 := (wa1 _ _).trans (Uw7.b _ (Nat.le_refl _))
    have HH5 := below_then hbw6 hsw7
    have HB5 := below_then HB4 HH5
    have gbc_5 := gbc_4.then_ HH5
    have gbWS_5 := gbWS_4.then_ HH5
    have hca1_5 := hca1_4.then_ HH5
    have gbq_5 := gbq.then_ HH5
    have hcq_5 := hcq.then_ HH5
    clear gbc_4 gbWS_4 hca1_4 gbq hcq HB4 HH5
    have hcb := hcw6.then_ hsw7
    obtain ⟨bw7, ebw7⟩ : ∃ b, w6.heap.size = b := ⟨_, rfl⟩
    rw [ebw7] at gbw7 ⊢
    clear ebw7 Uw7 hsw7 hcw6
    go_upto_region 10 with (first | (refine wpList_row_w (by rfl) 27 _ rfl bc rfl 27 _ gbc_5 ⟨_, Try.underlying27⟩ (by kernel_rfl) ?_; simp only [Act.put, List.setIfInBounds_toArray, List.set_cons_succ, List.set_cons_zero]) | (go_at_call 11; (with_reducible refine (HA4.out _ HB5).mono ?_); rintro e w8 ⟨⟨md, rfl, hcw8⟩, hbw8⟩) | (refine wpList_store_all rfl 27 _ _ rfl w8.heap.size 27 [] coZ.toList [] (coA c md).toList rfl rfl (Blk.new _ _ _) rfl (by kernel_rfl) (by simp [Value.oneCell']) ?_; intro w9 gbw9 Uw9))
    have hsw9 : Below w8.heap.size w8 w9 := (wa1 _ _).trans (Uw9.b _ (Nat.le_refl _))
    have HH6 := below_then hbw8 hsw9
    have HB6 := below_then HB5 HH6
    have gbc_6 := gbc_5.then_ HH6
    have gbWS_6 := gbWS_5.then_ HH6
    have hca1_6 := hca1_5.then_ HH6
    have gbq_6 := gbq_5.then_ HH6
    have hcq_6 := hcq_5.then_ HH6
    have gbw7_6 := gbw7.then_ HH6
    have hcb_6 := hcb.then_ HH6
    clear gbc_5 gbWS_5 hca1_5 gbq_5 hcq_5 gbw7 hcb HB5 HH6
    have hcd := hcw8.then_ hsw9
    obtain ⟨bw9, ebw9⟩ : ∃ b, w8.heap.size = b := ⟨_, rfl⟩
    rw [ebw9] at gbw9 ⊢
    clear ebw9 Uw9 hsw9 hcw8
    go_wp2_with (first | (refine wpList_row_w (by rfl) 27 _ rfl bq rfl 27 _ gbq_6 ⟨_, Try.underlying27⟩ (by kernel_rfl) ?_; simp only [Act.put, List.setIfInBounds_toArray, List.set_cons_succ, List.set_cons_zero]) | (refine wpList_row_w (by rfl) 27 _ rfl bw7 rfl 27 _ gbw7_6 ⟨_, Try.underlying27⟩ (by kernel_rfl) ?_; simp only [Act.put, List.setIfInBounds_toArray, List.set_cons_succ, List.set_cons_zero]) | (go_at_call 12; (with_reducible refine (HQ1.out _ mq mb hcq_6 hcb_6).mono ?_); rintro e x1 ⟨rfl, hbx1⟩; have gx9 := gbw9.then_ hbx1; have gxc := gbc_6.then_ hbx1; have HBx := below_then HB6 hbx1; have hxd := hcd.then_ hbx1) | (refine wpList_row_w (by rfl) 27 _ rfl bw9 rfl 27 _ gx9 ⟨_, Try.underlying27⟩ (by kernel_rfl) ?_; simp only [Act.put, List.setIfInBounds_toArray, List.set_cons_succ, List.set_cons_zero]) | (refine wpList_row_w (by rfl) 27 _ rfl bc rfl 27 _ gxc ⟨_, Try.underlying27⟩ (by kernel_rfl) ?_; simp only [Act.put, List.setIfInBounds_toArray, List.set_cons_succ, List.set_cons_zero]) | (go_at_call 12; (with_reducible refine (HQ2.out _ md HBx hxd).mono ?_); rintro e x2 ⟨rfl, hbx2⟩))
    go_ret
    exact ⟨rfl, below_then HBx hbx2⟩
  · obtain ⟨E, eE⟩ : ∃ E, c.allE (pats L1) = E := ⟨_, rfl⟩
    have hF := seq_no hl60 hE
    rw [eE] at hE hF
    have ea : c.allC (pats L1) = Con.zero := by unfold Con.allC; rw [eE, if_neg hE]
    have eF' : c.allE (pats (L1 ++ L2)) = E := by unfold pats; rw [List.map_append]; exact hF
    have eb' : c.allC (pats (L1 ++ L2)) = Con.zero := by unfold Con.allC; rw [eF', if_neg hE]
    have HA1 := Lib.hid (fun W (hb : Below w.heap.size w W) => all_to c Con.zero m L1 A1 k1 L1.length E W (hC.then_ hb) (hP1.then_ hb) rfl eE ea)
    have HA2 := Lib.hid (fun W A3 cap (hb : Below w.heap.size w W) (hs : Seg W W.heap.size 19 eP A3 (L1 ++ L2)) => all_off_to c Con.zero m (L1 ++ L2) A3 cap (L1.length + L2.length) E W (hC.then_ hb) (pats_app hP1 hP2 hb (by omega) hs) List.length_append eF' eb')
    have tE : (E != 0) = true := by rw [bne_iff_ne]; exact hE
    have tF : (E == E) = true := beq_self_eq_true E
    clear hl60 hE ea eE hF eF' eb' hC hP1 hP2 h60 hn hk1 hk2
    go_enter Try.func3, Try.ntmps3
    go_upto_region 1 with (fail)
    refine name_wp ?_
    intro X0 hX
    have gbc : Blk X0 w.heap.size 27 (coA c m) := by rw [hX]; exact blk_at (by simp)
    have HB0 : Below w.heap.size w X0 := by rw [hX]; (repeat (first | with_reducible assumption | with_reducible exact Below.refl _ _ | with_reducible refine below_drewN ?_ _ | with_reducible refine Below.drew ?_ | with_reducible refine below_alloc ?_ _ | with_reducible refine Below.setCell ?_ (by first | omega | (simp; done) | (simp; omega)) _ | with_reducible refine below_then ?_ (by with_reducible assumption) | (refine below_then (a := World.drew _) ?_ (by with_reducible assumption))))
    clear hX
    obtain ⟨bc, ebc⟩ : ∃ b, w.heap.size = b := ⟨_, rfl⟩
    have lbc : w.heap.size ≤ bc := by omega
    rw [ebc] at gbc ⊢
    clear ebc
    go_upto_region 2 with ((go_at_call 9; (with_reducible refine (HH.out _).mono ?_); rintro e w1 ⟨rfl, hbw1⟩))
    have HH1 := hbw1
    have HB1 := below_then HB0 HH1
    have gbc_1 := gbc.then_ HH1
    clear gbc HB0 HH1
    go_upto_region 4 with (first | (refine wpList_row_w (by rfl) 27 _ rfl bc rfl 27 _ gbc_1 ⟨_, Try.underlying27⟩ (by kernel_rfl) ?_; simp only [Act.put, List.setIfInBounds_toArray, List.set_cons_succ, List.set_cons_zero]) | (go_at_call 10; (with_reducible refine (HS.out _ HB1).mono ?_); rintro e w2 ⟨rfl, hbw2⟩; have gw2 := gbc_1.then_ hbw2) | (refine wpList_row_w (by rfl) 27 _ rfl bc rfl 27 _ gw2 ⟨_, Try.underlying27⟩ (by kernel_rfl) ?_; simp only [Act.put, List.setIfInBounds_toArray, List.set_cons_succ, List.set_cons_zero]) | (go_at_call 10; (with_reducible refine (HT.out _ (below_then HB1 hbw2)).mono ?_); rintro e w3 ⟨rfl, hbw3⟩))
    have HH2 := below_then hbw2 hbw3
    have HB2 := below_then HB1 HH2
    have gbc_2 := gbc_1.then_ HH2
    clear gbc_1 HB1 HH2
    try clear gw2
    go_upto_region 5 with (first | (refine wpList_row_w (by rfl) 27 _ rfl bc rfl 27 _ gbc_2 ⟨_, Try.underlying27⟩ (by kernel_rfl) ?_; simp only [Act.put, List.setIfInBounds_toArray, List.set_cons_succ, List.set_cons_zero]) | (go_at_call 11; (with_reducible refine (HA1.out _ HB2).mono ?_); rintro e w4 ⟨⟨ma, rfl, hcw4⟩, hbw4⟩) | (refine wpList_store_all rfl 27 _ _ rfl w4.heap.size 27 [] coZ.toList [] (coA Con.zero ma).toList rfl rfl (Blk.new _ _ _) rfl (by kernel_rfl) (by simp [Value.oneCell']) ?_; intro WS gbWS UWS))
    have hsWS : Below w4.heap.size w4 WS := (wa1 _ _).trans (UWS.b _ (Nat.le_refl _))
    have HH3 := below_then hbw4 hsWS
    have HB3 := below_then HB2 HH3
    have gbc_3 := gbc_2.then_ HH3
    clear gbc_2 HB2 HH3
    have hca1 := hcw4.then_ hsWS
    obtain ⟨bWS, ebWS⟩ : ∃ b, w4.heap.size = b := ⟨_, rfl⟩
    rw [ebWS] at gbWS ⊢
    clear ebWS UWS hsWS hcw4
    have HA2' := Lib.hid (fun W A3 cap (hb : Below WS.heap.size WS W) hs => HA2.out W A3 cap (below_then HB3 hb) hs)
    replace HCW := Lib.hid (HCW.out.then_ HB3)
    replace HP1 := Lib.hid (HP1.out.then_ HB3)
    replace HP2 := Lib.hid (HP2.out.then_ HB3)
    go_upto_region 5 with (fail)
    go_cut [10, 11] from 42 to 51 (fun v10 v11 W => ∃ q m, v10 = .pointer (some ⟨q, 0, none⟩) ∧ v11 = .int .i64 E ∧ Blk W q 27 (coA Con.zero m) ∧ Cont W Con.zero m ∧ Below WS.heap.size WS W)
    case first =>
      refine wp_region_hb (fun w' => Hid (Below WS.heap.size WS w')) [0, 1, 2, 3, 4, 5, 6, 7, 8, 9, 10, 11] [12] (by kernel_rfl) (by kernel_rfl) (by repeat (first | with_reducible refine panOk_then ?_ | with_reducible refine panOk_block ?_ | exact panOk_body)) (Lib.hid (Below.drew (Below.refl _ _))) (fun hdir hsel hpan hHeld => ?_)
      refine wpHB_take (i := 0) (oi := ⟨some 43, _, _, _, _, _⟩) hdir hsel hpan rfl (by kernel_rfl) (by kernel_rfl) (by kernel_rfl) (yieldsIf_row (by rfl) 27 _ rfl bc rfl 27 _ (fun w hw => (gbc_3.then_ hw.out)) ⟨_, Try.underlying27⟩ (by kernel_rfl)) (by assumption) ?_
      try simp only [Act.put, List.setIfInBounds_toArray, List.set_cons_zero, List.set_cons_succ]
      refine wpHB_take (i := 2) (oi := ⟨some 45, _, _, _, _, _⟩) hdir hsel hpan rfl (by kernel_rfl) (by kernel_rfl) (by kernel_rfl) (Or.inl ⟨by rfl, fun _ _ => by rfl⟩) (by assumption) ?_
      try simp only [Act.put, List.setIfInBounds_toArray, List.set_cons_zero, List.set_cons_succ]
      refine wpHB_take (i := 4) (oi := ⟨some 47, _, _, _, _, _⟩) hdir hsel hpan rfl (by kernel_rfl) (by kernel_rfl) (by kernel_rfl) (Or.inl ⟨by rfl, fun _ _ => by rfl⟩) (by assumption) ?_
      try simp only [Act.put, List.setIfInBounds_toArray, List.set_cons_zero, List.set_cons_succ]
      refine wpHB_ready (rs := [1, 10]) (by kernel_rfl) (by simp) ?_
      refine AllHB.cons (by kernel_rfl) (o := ⟨some 44, _, _, _, _, _⟩) rfl (fun K hK => ?_) ?_
      · go_simp
        refine name_k ?_
        intro Vb hVb
        obtain ⟨hO, hbb⟩ : Own Vb WS.heap.size 49 19 eP _ [] ∧ _ := (by first | exact own_new hVb hHeld.out.size | exact own_new (W := WS.drew) hVb hHeld.out.size)
        try (replace gp := gp.then_ hbb)
        clear hVb
        refine hK.out _ _ (Lib.hid (below_then hHeld.out hbb)) (fun hHeld2 => ?_)
        clear hK K hHeld
        have hHeld := hHeld2
        clear hHeld2
        try simp only [Act.put, List.setIfInBounds_toArray, List.set_cons_zero, List.set_cons_succ]
        refine wpHB_ready (rs := [3, 10]) (by kernel_rfl) (by simp) ?_
        refine AllHB.cons (by kernel_rfl) (o := ⟨some 46, _, _, _, _, _⟩) rfl (fun K hK => ?_) ?_
        · rw [if_pos (by rfl)]
          refine wp_app_list _ (.tmp 44) (.tmp 45) _ rfl WS.heap.size 49 ri _ 19 176 Try.underlying28 hi hz0 hz1 hz2 rfl (by omega) (by omega) eP eP_len one_pat _ [] rfl hO A1 L1 k1 _ rfl rfl (by (try simp only [List.length_nil]); omega) _ (HP1.out.then_ hHeld.out).s hn1 hHeld.out.size ?_
          intro va Va hOa hba hga
          try (replace gp := gp.grownBy hO (by decide) hga)
          clear hO hga
          have hO := hOa
          clear hOa
          rw [List.nil_append] at hO
          refine hK.out _ _ (Lib.hid (hHeld.out.trans hba)) (fun hHeld2 => ?_)
          clear hK K hHeld
          have hHeld := hHeld2
          clear hHeld2
          try simp only [Act.put, List.setIfInBounds_toArray, List.set_cons_zero, List.set_cons_succ]
          refine wpHB_ready (rs := [5, 10]) (by kernel_rfl) (by simp) ?_
          refine AllHB.cons (by kernel_rfl) (o := ⟨some 48, _, _, _, _, _⟩) rfl (fun K hK => ?_) ?_
          · rw [if_pos (by rfl)]
            refine wp_app_list _ (.tmp 46) (.tmp 47) _ rfl WS.heap.size 49 ri _ 19 176 Try.underlying28 hi hz0 hz1 hz2 rfl (by omega) (by omega) eP eP_len one_pat _ L1 rfl hO A2 L2 k2 _ rfl rfl (by (try simp only [List.length_nil]); omega) _ (HP2.out.then_ hHeld.out).s hn2 hHeld.out.size ?_
            intro va Va hOa hba hga
            try (replace gp := gp.grownBy hO (by decide) hga)
            clear hO hga
            have hO := hOa
            clear hOa
            obtain ⟨A3, k3, rfl, hk3, hs3⟩ := hO.seg eP_len
            clear hO
            refine hK.out _ _ (Lib.hid (hHeld.out.trans hba)) (fun hHeld2 => ?_)
            clear hK K hHeld
            have hHeld := hHeld2
            clear hHeld2
            try simp only [Act.put, List.setIfInBounds_toArray, List.set_cons_zero, List.set_cons_succ]
            refine wpHB_ready (rs := [6, 10]) (by kernel_rfl) (by simp) ?_
            refine AllHB.cons (by kernel_rfl) (o := ⟨some 49, _, _, _, _, _⟩) rfl (fun K hK => ?_) ?_
            · go_simp
              (go_at_call 11; (with_reducible refine (HA2'.out _ _ _ hHeld.out hs3).mono ?_); rintro e wa ⟨⟨m2, rfl, hca, hof⟩, hba⟩)
              try (have ho := off_before hof HCW.out lla gp.lt)
              try (replace gp := gp.then_ hba)
              clear hof hs3
              refine hK.out _ _ (Lib.hid (below_then hHeld.out hba)) (fun hHeld2 => ?_)
              clear hK K hHeld
              have hHeld := hHeld2
              clear hHeld2
              try simp only [Act.put, List.setIfInBounds_toArray, List.set_cons_zero, List.set_cons_succ]
              refine wpHB_take (i := 7) (oi := ⟨some 42, _, _, _, _, _⟩) hdir hsel hpan rfl (by kernel_rfl) (by kernel_rfl) (by kernel_rfl) (Or.inl ⟨by rfl, fun _ _ => by rfl⟩) (by assumption) ?_
              try simp only [Act.put, List.setIfInBounds_toArray, List.set_cons_zero, List.set_cons_succ]
              refine wpHB_take (i := 8) (oi := ⟨some 50, _, _, _, _, _⟩) hdir hsel hpan rfl (by kernel_rfl) (by kernel_rfl) (by kernel_rfl) (Or.inl ⟨by rfl, fun _ _ => by rfl⟩) (by assumption) ?_
              try simp only [Act.put, List.setIfInBounds_toArray, List.set_cons_zero, List.set_cons_succ]
              refine wpHB_take (i := 9) (oi := ⟨some 51, _, _, _, _, _⟩) hdir hsel hpan rfl (by kernel_rfl) (by kernel_rfl) (by kernel_rfl) (Or.inl ⟨by rfl, fun _ _ => by rfl⟩) (by assumption) ?_
              try simp only [Act.put, List.setIfInBounds_toArray, List.set_cons_zero, List.set_cons_succ]
              refine wpHB_ready (rs := [10]) (by kernel_rfl) (by simp) ?_
              refine AllHB.cons (by kernel_rfl) (o := ⟨some 10, _, _, _, _, _⟩) rfl (fun K hK => ?_) AllHB.nil
              go_simp
              have lla := hHeld.out.size
              refine name_k ?_
              intro Vp hVp
              obtain ⟨gp, hbp⟩ : _ ∧ _ := (by first | exact con_new hVp | exact con_new (W := WS.drew) hVp)
              try (have ho := hca.off.mono fun b hb => Nat.ne_of_lt hb)
              try (replace hca := hca.then_ hbp)
              try (replace hO := hO.below hbp)
              clear hVp
              try (replace hs3 := (hs3.below hbp).more hbp.size)
              refine hK.out _ _ (Lib.hid (below_then hHeld.out hbp)) (fun hHeld2 => ?_)
              clear hK K hHeld
              have hHeld := hHeld2
              clear hHeld2
              try simp only [Act.put, List.setIfInBounds_toArray, List.set_cons_zero, List.set_cons_succ]
              refine wpHB_ready (rs := [11]) (by kernel_rfl) (by simp) ?_
              refine AllHB.cons (by kernel_rfl) (o := ⟨none, _, _, _, _, _⟩) rfl (fun K hK => ?_) AllHB.nil
              rw [if_pos (by rfl)]
              refine wp_store_all 27 _ _ rfl _ 27 [] coZ.toList [] (coA Con.zero m2).toList rfl rfl gp rfl (by kernel_rfl) (by simp [Value.oneCell']) ?_
              intro w8 g8 U8
              refine hK.out _ _ (Lib.hid (hHeld.out.trans (U8.b _ lla))) (fun hHeld2 => ?_)
              clear hK K hHeld
              have hHeld := hHeld2
              clear hHeld2
              try simp only [Act.put]
              refine wpHB_tail (by kernel_rfl) (by kernel_rfl) ?_
              clear hdir hsel hpan
              simp only [opsAt, List.getElem?_toArray, List.getElem?_cons_succ, List.getElem?_cons_zero, Option.toList_some, List.cons_append, List.nil_append]
              go_wp2
              go_meet
              case rel => exact ⟨_, m2, rfl, rfl, g8, hca.upd U8 ho, hHeld.out⟩
            refine AllHB.cons (by kernel_rfl) (o := ⟨some 10, _, _, _, _, _⟩) rfl (fun K hK => ?_) ?_
            · go_simp
              have lla := hHeld.out.size
              refine name_k ?_
              intro Vp hVp
              obtain ⟨gp, hbp⟩ : _ ∧ _ := (by first | exact con_new hVp | exact con_new (W := WS.drew) hVp)
              try (have ho := hca.off.mono fun b hb => Nat.ne_of_lt hb)
              try (replace hca := hca.then_ hbp)
              try (replace hO := hO.below hbp)
              clear hVp
              try (replace hs3 := (hs3.below hbp).more hbp.size)
              refine hK.out _ _ (Lib.hid (below_then hHeld.out hbp)) (fun hHeld2 => ?_)
              clear hK K hHeld
              have hHeld := hHeld2
              clear hHeld2
              try simp only [Act.put, List.setIfInBounds_toArray, List.set_cons_zero, List.set_cons_succ]
              refine wpHB_ready (rs := [6]) (by kernel_rfl) (by simp) ?_
              refine AllHB.cons (by kernel_rfl) (o := ⟨some 49, _, _, _, _, _⟩) rfl (fun K hK => ?_) AllHB.nil
              go_simp
              (go_at_call 11; (with_reducible refine (HA2'.out _ _ _ hHeld.out hs3).mono ?_); rintro e wa ⟨⟨m2, rfl, hca, hof⟩, hba⟩)
              try (have ho := off_before hof HCW.out lla gp.lt)
              try (replace gp := gp.then_ hba)
              clear hof hs3
              refine hK.out _ _ (Lib.hid (below_then hHeld.out hba)) (fun hHeld2 => ?_)
              clear hK K hHeld
              have hHeld := hHeld2
              clear hHeld2
              try simp only [Act.put, List.setIfInBounds_toArray, List.set_cons_zero, List.set_cons_succ]
              refine wpHB_take (i := 7) (oi := ⟨some 42, _, _, _, _, _⟩) hdir hsel hpan rfl (by kernel_rfl) (by kernel_rfl) (by kernel_rfl) (Or.inl ⟨by rfl, fun _ _ => by rfl⟩) (by assumption) ?_
              try simp only [Act.put, List.setIfInBounds_toArray, List.set_cons_zero, List.set_cons_succ]
              refine wpHB_take (i := 8) (oi := ⟨some 50, _, _, _, _, _⟩) hdir hsel hpan rfl (by kernel_rfl) (by kernel_rfl) (by kernel_rfl) (Or.inl ⟨by rfl, fun _ _ => by rfl⟩) (by assumption) ?_
              try simp only [Act.put, List.setIfInBounds_toArray, List.set_cons_zero, List.set_cons_succ]
              refine wpHB_take (i := 9) (oi := ⟨some 51, _, _, _, _, _⟩) hdir hsel hpan rfl (by kernel_rfl) (by kernel_rfl) (by kernel_rfl) (Or.inl ⟨by rfl, fun _ _ => by rfl⟩) (by assumption) ?_
              try simp only [Act.put, List.setIfInBounds_toArray, List.set_cons_zero, List.set_cons_succ]
              refine wpHB_ready (rs := [11]) (by kernel_rfl) (by simp) ?_
              refine AllHB.cons (by kernel_rfl) (o := ⟨none, _, _, _, _, _⟩) rfl (fun K hK => ?_) AllHB.nil
              rw [if_pos (by rfl)]
              refine wp_store_all 27 _ _ rfl _ 27 [] coZ.toList [] (coA Con.zero m2).toList rfl rfl gp rfl (by kernel_rfl) (by simp [Value.oneCell']) ?_
              intro w8 g8 U8
              refine hK.out _ _ (Lib.hid (hHeld.out.trans (U8.b _ lla))) (fun hHeld2 => ?_)
              clear hK K hHeld
              have hHeld := hHeld2
              clear hHeld2
              try simp only [Act.put]
              refine wpHB_tail (by kernel_rfl) (by kernel_rfl) ?_
              clear hdir hsel hpan
              simp only [opsAt, List.getElem?_toArray, List.getElem?_cons_succ, List.getElem?_cons_zero, Option.toList_some, List.cons_append, List.nil_append]
              go_wp2
              go_meet
              case rel => exact ⟨_, m2, rfl, rfl, g8, hca.upd U8 ho, hHeld.out⟩
            exact AllHB.nil
          refine AllHB.cons (by kernel_rfl) (o := ⟨some 10, _, _, _, _, _⟩) rfl (fun K hK => ?_) ?_
          · go_simp
            have lla := hHeld.out.size
            refine name_k ?_
            intro Vp hVp
            obtain ⟨gp, hbp⟩ : _ ∧ _ := (by first | exact con_new hVp | exact con_new (W := WS.drew) hVp)
            try (have ho := hca.off.mono fun b hb => Nat.ne_of_lt hb)
            try (replace hca := hca.then_ hbp)
            try (replace hO := hO.below hbp)
            clear hVp
            try (replace hs3 := (hs3.below hbp).more hbp.size)
            refine hK.out _ _ (Lib.hid (below_then hHeld.out hbp)) (fun hHeld2 => ?_)
            clear hK K hHeld
            have hHeld := hHeld2
            clear hHeld2
            try simp only [Act.put, List.setIfInBounds_toArray, List.set_cons_zero, List.set_cons_succ]
            refine wpHB_ready (rs := [5]) (by kernel_rfl) (by simp) ?_
            refine AllHB.cons (by kernel_rfl) (o := ⟨some 48, _, _, _, _, _⟩) rfl (fun K hK => ?_) AllHB.nil
            rw [if_pos (by rfl)]
            refine wp_app_list _ (.tmp 46) (.tmp 47) _ rfl WS.heap.size 49 ri _ 19 176 Try.underlying28 hi hz0 hz1 hz2 rfl (by omega) (by omega) eP eP_len one_pat _ L1 rfl hO A2 L2 k2 _ rfl rfl (by (try simp only [List.length_nil]); omega) _ (HP2.out.then_ hHeld.out).s hn2 hHeld.out.size ?_
            intro va Va hOa hba hga
            try (replace gp := gp.grownBy hO (by decide) hga)
            clear hO hga
            have hO := hOa
            clear hOa
            obtain ⟨A3, k3, rfl, hk3, hs3⟩ := hO.seg eP_len
            clear hO
            refine hK.out _ _ (Lib.hid (hHeld.out.trans hba)) (fun hHeld2 => ?_)
            clear hK K hHeld
            have hHeld := hHeld2
            clear hHeld2
            try simp only [Act.put, List.setIfInBounds_toArray, List.set_cons_zero, List.set_cons_succ]
            refine wpHB_ready (rs := [6]) (by kernel_rfl) (by simp) ?_
            refine AllHB.cons (by kernel_rfl) (o := ⟨some 49, _, _, _, _, _⟩) rfl (fun K hK => ?_) AllHB.nil
            go_simp
            (go_at_call 11; (with_reducible refine (HA2'.out _ _ _ hHeld.out hs3).mono ?_); rintro e wa ⟨⟨m2, rfl, hca, hof⟩, hba⟩)
            try (have ho := off_before hof HCW.out lla gp.lt)
            try (replace gp := gp.then_ hba)
            clear hof hs3
            refine hK.out _ _ (Lib.hid (below_then hHeld.out hba)) (fun hHeld2 => ?_)
            clear hK K hHeld
            have hHeld := hHeld2
            clear hHeld2
            try simp only [Act.put, List.setIfInBounds_toArray, List.set_cons_zero, List.set_cons_succ]
            refine wpHB_take (i := 7) (oi := ⟨some 42, _, _, _, _, _⟩) hdir hsel hpan rfl (by kernel_rfl) (by kernel_rfl) (by kernel_rfl) (Or.inl ⟨by rfl, fun _ _ => by rfl⟩) (by assumption) ?_
            try simp only [Act.put, List.setIfInBounds_toArray, List.set_cons_zero, List.set_cons_succ]
            refine wpHB_take (i := 8) (oi := ⟨some 50, _, _, _, _, _⟩) hdir hsel hpan rfl (by kernel_rfl) (by kernel_rfl) (by kernel_rfl) (Or.inl ⟨by rfl, fun _ _ => by rfl⟩) (by assumption) ?_
            try simp only [Act.put, List.setIfInBounds_toArray, List.set_cons_zero, List.set_cons_succ]
            refine wpHB_take (i := 9) (oi := ⟨some 51, _, _, _, _, _⟩) hdir hsel hpan rfl (by kernel_rfl) (by kernel_rfl) (by kernel_rfl) (Or.inl ⟨by rfl, fun _ _ => by rfl⟩) (by assumption) ?_
            try simp only [Act.put, List.setIfInBounds_toArray, List.set_cons_zero, List.set_cons_succ]
            refine wpHB_ready (rs := [11]) (by kernel_rfl) (by simp) ?_
            refine AllHB.cons (by kernel_rfl) (o := ⟨none, _, _, _, _, _⟩) rfl (fun K hK => ?_) AllHB.nil
            rw [if_pos (by rfl)]
            refine wp_store_all 27 _ _ rfl _ 27 [] coZ.toList [] (coA Con.zero m2).toList rfl rfl gp rfl (by kernel_rfl) (by simp [Value.oneCell']) ?_
            intro w8 g8 U8
            refine hK.out _ _ (Lib.hid (hHeld.out.trans (U8.b _ lla))) (fun hHeld2 => ?_)
            clear hK K hHeld
            have hHeld := hHeld2
            clear hHeld2
            try simp only [Act.put]
            refine wpHB_tail (by kernel_rfl) (by kernel_rfl) ?_
            clear hdir hsel hpan
            simp only [opsAt, List.getElem?_toArray, List.getElem?_cons_succ, List.getElem?_cons_zero, Option.toList_some, List.cons_append, List.nil_append]
            go_wp2
            go_meet
            case rel => exact ⟨_, m2, rfl, rfl, g8, hca.upd U8 ho, hHeld.out⟩
          exact AllHB.nil
        refine AllHB.cons (by kernel_rfl) (o := ⟨some 10, _, _, _, _, _⟩) rfl (fun K hK => ?_) ?_
        · go_simp
          have lla := hHeld.out.size
          refine name_k ?_
          intro Vp hVp
          obtain ⟨gp, hbp⟩ : _ ∧ _ := (by first | exact con_new hVp | exact con_new (W := WS.drew) hVp)
          try (have ho := hca.off.mono fun b hb => Nat.ne_of_lt hb)
          try (replace hca := hca.then_ hbp)
          try (replace hO := hO.below hbp)
          clear hVp
          try (replace hs3 := (hs3.below hbp).more hbp.size)
          refine hK.out _ _ (Lib.hid (below_then hHeld.out hbp)) (fun hHeld2 => ?_)
          clear hK K hHeld
          have hHeld := hHeld2
          clear hHeld2
          try simp only [Act.put, List.setIfInBounds_toArray, List.set_cons_zero, List.set_cons_succ]
          refine wpHB_ready (rs := [3]) (by kernel_rfl) (by simp) ?_
          refine AllHB.cons (by kernel_rfl) (o := ⟨some 46, _, _, _, _, _⟩) rfl (fun K hK => ?_) AllHB.nil
          rw [if_pos (by rfl)]
          refine wp_app_list _ (.tmp 44) (.tmp 45) _ rfl WS.heap.size 49 ri _ 19 176 Try.underlying28 hi hz0 hz1 hz2 rfl (by omega) (by omega) eP eP_len one_pat _ [] rfl hO A1 L1 k1 _ rfl rfl (by (try simp only [List.length_nil]); omega) _ (HP1.out.then_ hHeld.out).s hn1 hHeld.out.size ?_
          intro va Va hOa hba hga
          try (replace gp := gp.grownBy hO (by decide) hga)
          clear hO hga
          have hO := hOa
          clear hOa
          rw [List.nil_append] at hO
          refine hK.out _ _ (Lib.hid (hHeld.out.trans hba)) (fun hHeld2 => ?_)
          clear hK K hHeld
          have hHeld := hHeld2
          clear hHeld2
          try simp only [Act.put, List.setIfInBounds_toArray, List.set_cons_zero, List.set_cons_succ]
          refine wpHB_ready (rs := [5]) (by kernel_rfl) (by simp) ?_
          refine AllHB.cons (by kernel_rfl) (o := ⟨some 48, _, _, _, _, _⟩) rfl (fun K hK => ?_) AllHB.nil
          rw [if_pos (by rfl)]
          refine wp_app_list _ (.tmp 46) (.tmp 47) _ rfl WS.heap.size 49 ri _ 19 176 Try.underlying28 hi hz0 hz1 hz2 rfl (by omega) (by omega) eP eP_len one_pat _ L1 rfl hO A2 L2 k2 _ rfl rfl (by (try simp only [List.length_nil]); omega) _ (HP2.out.then_ hHeld.out).s hn2 hHeld.out.size ?_
          intro va Va hOa hba hga
          try (replace gp := gp.grownBy hO (by decide) hga)
          clear hO hga
          have hO := hOa
          clear hOa
          obtain ⟨A3, k3, rfl, hk3, hs3⟩ := hO.seg eP_len
          clear hO
          refine hK.out _ _ (Lib.hid (hHeld.out.trans hba)) (fun hHeld2 => ?_)
          clear hK K hHeld
          have hHeld := hHeld2
          clear hHeld2
          try simp only [Act.put, List.setIfInBounds_toArray, List.set_cons_zero, List.set_cons_succ]
          refine wpHB_ready (rs := [6]) (by kernel_rfl) (by simp) ?_
          refine AllHB.cons (by kernel_rfl) (o := ⟨some 49, _, _, _, _, _⟩) rfl (fun K hK => ?_) AllHB.nil
          go_simp
          (go_at_call 11; (with_reducible refine (HA2'.out _ _ _ hHeld.out hs3).mono ?_); rintro e wa ⟨⟨m2, rfl, hca, hof⟩, hba⟩)
          try (have ho := off_before hof HCW.out lla gp.lt)
          try (replace gp := gp.then_ hba)
          clear hof hs3
          refine hK.out _ _ (Lib.hid (below_then hHeld.out hba)) (fun hHeld2 => ?_)
          clear hK K hHeld
          have hHeld := hHeld2
          clear hHeld2
          try simp only [Act.put, List.setIfInBounds_toArray, List.set_cons_zero, List.set_cons_succ]
          refine wpHB_take (i := 7) (oi := ⟨some 42, _, _, _, _, _⟩) hdir hsel hpan rfl (by kernel_rfl) (by kernel_rfl) (by kernel_rfl) (Or.inl ⟨by rfl, fun _ _ => by rfl⟩) (by assumption) ?_
          try simp only [Act.put, List.setIfInBounds_toArray, List.set_cons_zero, List.set_cons_succ]
          refine wpHB_take (i := 8) (oi := ⟨some 50, _, _, _, _, _⟩) hdir hsel hpan rfl (by kernel_rfl) (by kernel_rfl) (by kernel_rfl) (Or.inl ⟨by rfl, fun _ _ => by rfl⟩) (by assumption) ?_
          try simp only [Act.put, List.setIfInBounds_toArray, List.set_cons_zero, List.set_cons_succ]
          refine wpHB_take (i := 9) (oi := ⟨some 51, _, _, _, _, _⟩) hdir hsel hpan rfl (by kernel_rfl) (by kernel_rfl) (by kernel_rfl) (Or.inl ⟨by rfl, fun _ _ => by rfl⟩) (by assumption) ?_
          try simp only [Act.put, List.setIfInBounds_toArray, List.set_cons_zero, List.set_cons_succ]
          refine wpHB_ready (rs := [11]) (by kernel_rfl) (by simp) ?_
          refine AllHB.cons (by kernel_rfl) (o := ⟨none, _, _, _, _, _⟩) rfl (fun K hK => ?_) AllHB.nil
          rw [if_pos (by rfl)]
          refine wp_store_all 27 _ _ rfl _ 27 [] coZ.toList [] (coA Con.zero m2).toList rfl rfl gp rfl (by kernel_rfl) (by simp [Value.oneCell']) ?_
          intro w8 g8 U8
          refine hK.out _ _ (Lib.hid (hHeld.out.trans (U8.b _ lla))) (fun hHeld2 => ?_)
          clear hK K hHeld
          have hHeld := hHeld2
          clear hHeld2
          try simp only [Act.put]
          refine wpHB_tail (by kernel_rfl) (by kernel_rfl) ?_
          clear hdir hsel hpan
          simp only [opsAt, List.getElem?_toArray, List.getElem?_cons_succ, List.getElem?_cons_zero, Option.toList_some, List.cons_append, List.nil_append]
          go_wp2
          go_meet
          case rel => exact ⟨_, m2, rfl, rfl, g8, hca.upd U8 ho, hHeld.out⟩
        exact AllHB.nil
      refine AllHB.cons (by kernel_rfl) (o := ⟨some 10, _, _, _, _, _⟩) rfl (fun K hK => ?_) ?_
      · go_simp
        have lla := hHeld.out.size
        refine name_k ?_
        intro Vp hVp
        obtain ⟨gp, hbp⟩ : _ ∧ _ := (by first | exact con_new hVp | exact con_new (W := WS.drew) hVp)
        try (have ho := hca.off.mono fun b hb => Nat.ne_of_lt hb)
        try (replace hca := hca.then_ hbp)
        try (replace hO := hO.below hbp)
        clear hVp
        try (replace hs3 := (hs3.below hbp).more hbp.size)
        refine hK.out _ _ (Lib.hid (below_then hHeld.out hbp)) (fun hHeld2 => ?_)
        clear hK K hHeld
        have hHeld := hHeld2
        clear hHeld2
        try simp only [Act.put, List.setIfInBounds_toArray, List.set_cons_zero, List.set_cons_succ]
        refine wpHB_ready (rs := [1]) (by kernel_rfl) (by simp) ?_
        refine AllHB.cons (by kernel_rfl) (o := ⟨some 44, _, _, _, _, _⟩) rfl (fun K hK => ?_) AllHB.nil
        go_simp
        refine name_k ?_
        intro Vb hVb
        obtain ⟨hO, hbb⟩ : Own Vb WS.heap.size 49 19 eP _ [] ∧ _ := (by first | exact own_new hVb hHeld.out.size | exact own_new (W := WS.drew) hVb hHeld.out.size)
        try (replace gp := gp.then_ hbb)
        clear hVb
        refine hK.out _ _ (Lib.hid (below_then hHeld.out hbb)) (fun hHeld2 => ?_)
        clear hK K hHeld
        have hHeld := hHeld2
        clear hHeld2
        try simp only [Act.put, List.setIfInBounds_toArray, List.set_cons_zero, List.set_cons_succ]
        refine wpHB_ready (rs := [3]) (by kernel_rfl) (by simp) ?_
        refine AllHB.cons (by kernel_rfl) (o := ⟨some 46, _, _, _, _, _⟩) rfl (fun K hK => ?_) AllHB.nil
        rw [if_pos (by rfl)]
        refine wp_app_list _ (.tmp 44) (.tmp 45) _ rfl WS.heap.size 49 ri _ 19 176 Try.underlying28 hi hz0 hz1 hz2 rfl (by omega) (by omega) eP eP_len one_pat _ [] rfl hO A1 L1 k1 _ rfl rfl (by (try simp only [List.length_nil]); omega) _ (HP1.out.then_ hHeld.out).s hn1 hHeld.out.size ?_
        intro va Va hOa hba hga
        try (replace gp := gp.grownBy hO (by decide) hga)
        clear hO hga
        have hO := hOa
        clear hOa
        rw [List.nil_append] at hO
        refine hK.out _ _ (Lib.hid (hHeld.out.trans hba)) (fun hHeld2 => ?_)
        clear hK K hHeld
        have hHeld := hHeld2
        clear hHeld2
        try simp only [Act.put, List.setIfInBounds_toArray, List.set_cons_zero, List.set_cons_succ]
        refine wpHB_ready (rs := [5]) (by kernel_rfl) (by simp) ?_
        refine AllHB.cons (by kernel_rfl) (o := ⟨some 48, _, _, _, _, _⟩) rfl (fun K hK => ?_) AllHB.nil
        rw [if_pos (by rfl)]
        refine wp_app_list _ (.tmp 46) (.tmp 47) _ rfl WS.heap.size 49 ri _ 19 176 Try.underlying28 hi hz0 hz1 hz2 rfl (by omega) (by omega) eP eP_len one_pat _ L1 rfl hO A2 L2 k2 _ rfl rfl (by (try simp only [List.length_nil]); omega) _ (HP2.out.then_ hHeld.out).s hn2 hHeld.out.size ?_
        intro va Va hOa hba hga
        try (replace gp := gp.grownBy hO (by decide) hga)
        clear hO hga
        have hO := hOa
        clear hOa
        obtain ⟨A3, k3, rfl, hk3, hs3⟩ := hO.seg eP_len
        clear hO
        refine hK.out _ _ (Lib.hid (hHeld.out.trans hba)) (fun hHeld2 => ?_)
        clear hK K hHeld
        have hHeld := hHeld2
        clear hHeld2
        try simp only [Act.put, List.setIfInBounds_toArray, List.set_cons_zero, List.set_cons_succ]
        refine wpHB_ready (rs := [6]) (by kernel_rfl) (by simp) ?_
        refine AllHB.cons (by kernel_rfl) (o := ⟨some 49, _, _, _, _, _⟩) rfl (fun K hK => ?_) AllHB.nil
        go_simp
        (go_at_call 11; (with_reducible refine (HA2'.out _ _ _ hHeld.out hs3).mono ?_); rintro e wa ⟨⟨m2, rfl, hca, hof⟩, hba⟩)
        try (have ho := off_before hof HCW.out lla gp.lt)
        try (replace gp := gp.then_ hba)
        clear hof hs3
        refine hK.out _ _ (Lib.hid (below_then hHeld.out hba)) (fun hHeld2 => ?_)
        clear hK K hHeld
        have hHeld := hHeld2
        clear hHeld2
        try simp only [Act.put, List.setIfInBounds_toArray, List.set_cons_zero, List.set_cons_succ]
        refine wpHB_take (i := 7) (oi := ⟨some 42, _, _, _, _, _⟩) hdir hsel hpan rfl (by kernel_rfl) (by kernel_rfl) (by kernel_rfl) (Or.inl ⟨by rfl, fun _ _ => by rfl⟩) (by assumption) ?_
        try simp only [Act.put, List.setIfInBounds_toArray, List.set_cons_zero, List.set_cons_succ]
        refine wpHB_take (i := 8) (oi := ⟨some 50, _, _, _, _, _⟩) hdir hsel hpan rfl (by kernel_rfl) (by kernel_rfl) (by kernel_rfl) (Or.inl ⟨by rfl, fun _ _ => by rfl⟩) (by assumption) ?_
        try simp only [Act.put, List.setIfInBounds_toArray, List.set_cons_zero, List.set_cons_succ]
        refine wpHB_take (i := 9) (oi := ⟨some 51, _, _, _, _, _⟩) hdir hsel hpan rfl (by kernel_rfl) (by kernel_rfl) (by kernel_rfl) (Or.inl ⟨by rfl, fun _ _ => by rfl⟩) (by assumption) ?_
        try simp only [Act.put, List.setIfInBounds_toArray, List.set_cons_zero, List.set_cons_succ]
        refine wpHB_ready (rs := [11]) (by kernel_rfl) (by simp) ?_
        refine AllHB.cons (by kernel_rfl) (o := ⟨none, _, _, _, _, _⟩) rfl (fun K hK => ?_) AllHB.nil
        rw [if_pos (by rfl)]
        refine wp_store_all 27 _ _ rfl _ 27 [] coZ.toList [] (coA Con.zero m2).toList rfl rfl gp rfl (by kernel_rfl) (by simp [Value.oneCell']) ?_
        intro w8 g8 U8
        refine hK.out _ _ (Lib.hid (hHeld.out.trans (U8.b _ lla))) (fun hHeld2 => ?_)
        clear hK K hHeld
        have hHeld := hHeld2
        clear hHeld2
        try simp only [Act.put]
        refine wpHB_tail (by kernel_rfl) (by kernel_rfl) ?_
        clear hdir hsel hpan
        simp only [opsAt, List.getElem?_toArray, List.getElem?_cons_succ, List.getElem?_cons_zero, Option.toList_some, List.cons_append, List.nil_append]
        go_wp2
        go_meet
        case rel => exact ⟨_, m2, rfl, rfl, g8, hca.upd U8 ho, hHeld.out⟩
      exact AllHB.nil
    obtain ⟨bq, mq, rfl, rfl, gbq, hcq, hbq⟩ := hcut
    obtain ⟨w5c, rfl⟩ : ∃ W, W = wc := ⟨_, rfl⟩
    have HH4 := hbq
    have HB4 := below_then HB3 HH4
    have gbc_4 := gbc_3.then_ HH4
    have gbWS_4 := gbWS.then_ HH4
    have hca1_4 := hca1.then_ HH4
    clear gbc_3 gbWS hca1 HB3 HH4
    clear HA2 HA2' HCW HP1 HP2
    have q4 := gbq.cell 4
    simp only [coA] at q4
    go_wp2_with (fail)
    go_ret
    exact ⟨rfl, HB4⟩
end Go.Proofs.Ytcplneglfbdooaa
