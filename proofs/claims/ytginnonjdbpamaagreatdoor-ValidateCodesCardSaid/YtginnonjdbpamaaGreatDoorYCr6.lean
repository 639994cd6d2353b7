/- The walk of the reference's Decode. -/
import Derived.Test.YtginnonjdbpamaaGreatDoorYCr5
import Derived.Test.YtginnonjdbpamaaGreatDoorMc28
import Derived.Test.YtginnonjdbpamaaGreatDoorMc9
import Derived.Test.YtginnonjdbpamaaGreatDoorMc1
set_option maxHeartbeats 12800000
set_option maxRecDepth 100000
namespace Go.Proofs.YtginnonjdbpamaaGreatDoor
open Go.RowKit Go.Sort
theorem xIw (t : List UInt8) (w : World) (ht : t.length ≤ 4000) :
  Calls Tryz.prog 20 #[.string (tBy t)] w (RetS w (decS t) (decE t)) := by
 obtain ⟨S, hS⟩ : ∃ S, decS t = S := ⟨_, rfl⟩
 obtain ⟨E, hE⟩ : ∃ E, decE t = E := ⟨_, rfl⟩
 obtain ⟨D, hD⟩ : ∃ D, decR t = D := ⟨_, rfl⟩
 obtain ⟨L, hL⟩ : ∃ L, spl 59 t = L := ⟨_, rfl⟩
 have HSE : Hid (S = D.getD zSta ∧ E = if D.isSome then 0 else 20) := by unfold Hid; rw [← hS, ← hE, ← hD, dec_same]; exact ⟨rfl, rfl⟩
 have HS : Hid (∀ W, Calls Tryz.prog 42 #[.string (tBy t), .int .u8 59] W fun e w' => ∃ A c, e = .returned (.slice A L.length c) ∧ Own w' W.heap.size 9 1 eT (.slice A L.length c) L ∧ Below W.heap.size W w') := fun W => by
  subst hL
  exact xDz 59 t W (by omega)
 have hN4 : Hid (L.length ≠ 4 → D = none) := fun h => by
  rw [← hD]
  unfold decR
  rw [hL]
  split
  ·exact absurd rfl h
  ·rfl
 have hD4 : Hid (∀ a h u m, L = [a, h, u, m] → D = (xBt (spl 44 m).dropLast).bind fun ms => if (⟨numR a, (spl 44 h).dropLast.map numR, u.map (· == 49), ms⟩ : Sta).text = t then some ⟨numR a, (spl 44 h).dropLast.map numR, u.map (· == 49), ms⟩ else none) := fun a h u m e => by
  rw [← hD]
  unfold decR
  rw [hL, e]
 have hLL := xFd 59 t
 rw [hL] at hLL
 have hl2 := qzL hLL.2
 rw [hS, hE]
 clear hS hE hD hL hLL
 go_enter Tryz.func20, Tryz.ntmps20
 go_upto_region 1 with (fail)
 refine xAf ?_
 intro X hX
 have gz : Blk X w.heap.size 43 #[.int .i64 0, .slice none 0 0, .slice none 0 0, .slice none 0 0] := by rw [hX]; exact Blk.new _ _ _
 have HB : Below w.heap.size w X := by rw [hX]; exact wa1 _ _
 obtain ⟨bz, ebz⟩ : ∃ b, w.heap.size = b := ⟨_, rfl⟩
 have lbz : w.heap.size ≤ bz := by omega
 rw [ebz] at gz ⊢
 clear hX ebz
 go_upto_region 2 with (go_at_call 42; (with_reducible refine (HS.out _).mono ?_); rintro e w1 ⟨A, c, rfl, hO, hb1⟩)
 have gz1 := gz.then_ hb1
 have hB1 := xAa HB hb1
 by_cases h4 : L.length ≠ 4
 ·have t1 : ((L.length : Int) != 4) = true := by rw [bne_iff_ne]; omega
  have hn : Hid (S = zSta ∧ E = 20) := by have h1 := HSE.out; rw [hN4.out h4] at h1; exact h1
  clear h4 hN4 hD4 gz HB hO
  go_wp2_with (refine xAg rfl 43 _ _ rfl bz 43 [] [.int .i64 0, .slice none 0 0, .slice none 0 0, .slice none 0 0] [] [.int .i64 0, .slice none 0 0, .slice none 0 0, .slice none 0 0] rfl rfl gz1 rfl (by kernel_rfl) (by simp [Value.oneCell']) ?_; intro w6 g6 u6)
  refine bodyPost_ret (xBg rfl rfl g6 ⟨_, Tryz.underlying43⟩ (by kernel_rfl)) rfl ?_
  rw [hn.out.1, hn.out.2]
  exact RetS.zero (hB1.trans (u6.b _ lbz))
 have h4 : L.length = 4 := Decidable.byContradiction h4
 have t1 : ((L.length : Int) != 4) = false := by rw [bne_eq_false_iff_eq]; omega
 obtain ⟨x0, x1, x2, x3, rfl⟩ := four h4
 have HDD := qzL (hD4.out x0 x1 x2 x3 rfl)
 have q0 := hl2.out x0 (by simp)
 have q1 := hl2.out x1 (by simp)
 have q2 := hl2.out x2 (by simp)
 have q3 := hl2.out x3 (by simp)
 obtain ⟨g, cap, eqA⟩ := xGw hO (by simp)
 obtain ⟨rfl, rfl⟩ : A = some ⟨g, 0, none⟩ ∧ c = cap := by injection eqA with a1 _ a3; exact ⟨a1, a3⟩
 have e0 : w1.cell? ⟨g, 0, none⟩ = some (.string (tBy x0)) := xF0 hO rfl rfl
 have hi0 : ∀ W : World, (Instr.indexAt 100 (.slice (some ⟨g, 0, none⟩) 4 c) (.int .i64 0)).run Tryz.prog W = .ok (.pointer (some ⟨g, 0, none⟩)) W := xEg g 4 c 0 (by omega)
 have hi1 : ∀ W : World, (Instr.indexAt 100 (.slice (some ⟨g, 0, none⟩) 4 c) (.int .i64 1)).run Tryz.prog W = .ok (.pointer (some ⟨g, 1, none⟩)) W := xEg g 4 c 1 (by omega)
 have hi2 : ∀ W : World, (Instr.indexAt 100 (.slice (some ⟨g, 0, none⟩) 4 c) (.int .i64 2)).run Tryz.prog W = .ok (.pointer (some ⟨g, 2, none⟩)) W := xEg g 4 c 2 (by omega)
 have hi3 : ∀ W : World, (Instr.indexAt 100 (.slice (some ⟨g, 0, none⟩) 4 c) (.int .i64 3)).run Tryz.prog W = .ok (.pointer (some ⟨g, 3, none⟩)) W := xEg g 4 c 3 (by omega)
 have HI1 := qzL hi1
 have HI2 := qzL hi2
 have HI3 := qzL hi3
 have HN0 := qzL (fun W => xBv x0 W (by omega))
 have lX := HB.size
 have hOp : Own w1 w.heap.size 9 1 eT (.slice (some ⟨g, 0, none⟩) 4 c) [x0, x1, x2, x3] := hO.lower lX
 have HOP := qzL hOp
 have HGZ := qzL gz1
 have HBB := qzL hB1
 clear h4 hN4 hD4 eqA hO hOp gz gz1 HB hB1 hb1 HS hi1 hi2 hi3
 go_upto_region 5 with (go_at_call 43; (with_reducible refine (HN0.out _).mono ?_); rintro e w5 ⟨rfl, hw5⟩; subst w5)
 refine xAf ?_
 intro Y hY
 have gY : Blk Y w1.heap.size 43 #[.int .i64 (numR x0), .slice none 0 0, .slice none 0 0, .slice none 0 0] := by rw [hY]; exact Blk.new _ _ _
 have hbY : Below w1.heap.size w1 Y := by rw [hY]; exact wa1 _ _
 clear hY
 have l1 := HBB.out.size
 have HZY := qzL (HGZ.out.then_ hbY)
 have HPY := qzL (HOP.out.below hbY)
 have HBY := qzL (xAa HBB.out hbY)
 have lz1 := HGZ.out.lt
 obtain ⟨bs, ebs⟩ : ∃ b, w1.heap.size = b := ⟨_, rfl⟩
 rw [ebs] at gY l1 lz1 ⊢
 have HSY := qzL gY
 have d1 : Y.cell? ⟨g, 1, none⟩ = some (.string (tBy x1)) := xF0 HPY.out rfl rfl
 have hi1 := HI1.out
 clear gY hbY HGZ HBB HOP HN0 e0 hi0 ebs t1
 have HSQ : Hid (∀ W, Calls Tryz.prog 42 #[.string (tBy x1), .int .u8 44] W fun e w' => ∃ A c, e = .returned (.slice A (spl 44 x1).length c) ∧ Own w' W.heap.size 9 1 eT (.slice A (spl 44 x1).length c) (spl 44 x1) ∧ Below W.heap.size W w') := fun W => xDz 44 x1 W (by omega)
 have hql := xFd 44 x1
 have hqp := spl_pos 44 x1
 obtain ⟨hs, hhs⟩ : ∃ l, spl 44 x1 = l := ⟨_, rfl⟩
 rw [hhs] at HSQ hql hqp HDD
 obtain ⟨hq1, hq2⟩ := hql
 have HQ2 := qzL hq2
 clear hhs hq2
 go_upto_region 6 with (go_at_call 42; (with_reducible refine (HSQ.out _).mono ?_); rintro e w2 ⟨Aq, cq, rfl, hO, hb2⟩)
 obtain ⟨gq, cap, eqA⟩ := xGw hO hqp
 obtain ⟨rfl, rfl⟩ : Aq = some ⟨gq, 0, none⟩ ∧ cq = cap := by injection eqA with a1 _ a3; exact ⟨a1, a3⟩
 obtain ⟨N, eN⟩ : ∃ N, w2.heap.size = N := ⟨_, rfl⟩
 have hD0 : Hid (De w w2 N bs bz (.slice (some ⟨g, 0, none⟩) 4 c) (.slice (some ⟨gq, 0, none⟩) hs.length cq) [x0, x1, x2, x3] hs (numR x0) (.slice none 0 0) (.slice none 0 0) (.slice none 0 0) [] [] []) := by
  have h1 := HSY.out.then_ hb2
  have h2 := HZY.out.then_ hb2
  have lY := HBY.out.size
  have hY2 := hb2.size
  refine ⟨h1, h2, HPY.out.below hb2, hO.lower lY, Own.nil _ _ _ _ _, Own.nil _ _ _ _ _, Own.nil _ _ _ _ _, xAa HBY.out hb2, ?_⟩
  have := h1.lt
  have := h2.lt
  omega
 obtain ⟨nh, hnh⟩ : ∃ n, hs.length - 1 = n := ⟨_, rfl⟩
 have el : IntKind.i64.wrap ((hs.length : Int) - 1) = (nh : Int) := by rw [wrap_small _ (by omega) (by omega)]; omega
 have lnh : nh < hs.length := by omega
 have hdl : Hid (hs.dropLast = hs.take nh) := by unfold Hid; rw [List.dropLast_eq_take, hnh]
 have lnh2 : nh ≤ 5000 := by omega
 have hq3 : hs.length ≤ 5001 := by omega
 clear hnh eqA hO hb2 HSY HZY HPY HBY HSQ eN hqp hq1 d1 hi1 lz1 l1
 go_upto_region 7 with (fail)
 obtain ⟨ri, hi, hz0, hz1, hz2⟩ := info_parts (show (Tryz.prog.info? 3).map (fun i => (i.zero, i.size, i.bytes)) = some (some (.int .i64 0), 1, 8) by kernel_rfl)
 go_loopw [7] (fun y WR => ∃ (i : Nat) (vh : Value) (hol : List Int), y = .int .i64 i ∧ i ≤ nh ∧ Hid (hol = (hs.take i).map numR) ∧ Hid (De w WR N bs bz (.slice (some ⟨g, 0, none⟩) 4 c) (.slice (some ⟨gq, 0, none⟩) hs.length cq) [x0, x1, x2, x3] hs (numR x0) vh (.slice none 0 0) (.slice none 0 0) hol [] [])) (fun y _ => 20000 - (intOf y).toNat)
 case atStart => exact ⟨0, _, [], rfl, by omega, rfl, hD0⟩
 case round =>
  clear hD0
  obtain ⟨i, vh, hol, rfl, hi', hH, hDe⟩ := hrel
  have lH : hol.length = i := by rw [hH.out, List.length_map, List.length_take]; omega
  have lH2 : hol.length ≤ 5000 := by omega
  clear lH
  by_cases hlt : i < nh
  case pos =>
   have tl : decide ((i : Int) < (nh : Int)) = true := qzO (by omega)
   obtain ⟨x, hx⟩ : ∃ x, hs[i]? = some x := ⟨_, qzJ (by omega)⟩
   have hH2 : Hid (hol ++ [numR x] = (hs.take (i + 1)).map numR) := by unfold Hid; rw [hH.out, List.take_add_one, hx, List.map_append]; rfl
   have lx := HQ2.out x (qzK hx)
   have hix := xEg gq hs.length cq i (by omega)
   have d0 : wr.cell? ⟨gq, i, none⟩ = some (.string (tBy x)) := xF0 hDe.out.q rfl hx
   obtain ⟨A0, cap0, rfl, _, _, _, _, _, _⟩ := hDe.out.oh.segz xAz
   have k1 : wr.cell? ⟨bs, 1, none⟩ = some (.slice A0 hol.length cap0) := hDe.out.s.cell 1
   have HNX : Hid (∀ W, Calls Tryz.prog 43 #[.string (tBy x)] W fun e w' => e = .returned (.int .i64 (numR x)) ∧ Below W.heap.size W w') := fun W => (xBv x W (by omega)).mono fun e w' ⟨a, b⟩ => ⟨a, b ▸ Below.refl _ _⟩
   clear hx hH
   go_upto_region 9 with (fail)
   refine xBo (fun w' => Hid (Below wr.heap.size wr w')) [0, 1, 2, 3, 4, 5, 6, 7] [8, 9, 10] (by kernel_rfl) (by kernel_rfl) pO (qzL (Below.drew (Below.refl _ _))) (fun hdir hsel hpan hHeld => ?_)
   refine xAd (i := 0) (oi := ⟨some 35, _, _, _, _, _⟩) (v := .pointer (some ⟨bs, 1, none⟩)) hdir hsel hpan rfl (by kernel_rfl) (by kernel_rfl) (by kernel_rfl) (Or.inl ⟨by rfl, fun w hw => by go_simp⟩) (by assumption) ?_
   try simp only [Act.put, qzG, qzI, qzH]
   refine xAd (i := 1) (oi := ⟨some 36, _, _, _, _, _⟩) (v := .slice A0 hol.length cap0) hdir hsel hpan rfl (by kernel_rfl) (by kernel_rfl) (by kernel_rfl) (Or.inl ⟨by rfl, fun w hw => by have hc := cellB hw.out k1; go_simp⟩) (by assumption) ?_
   try simp only [Act.put, qzG, qzI, qzH]
   refine xAd (i := 2) (oi := ⟨some 37, _, _, _, _, _⟩) hdir hsel hpan rfl (by kernel_rfl) (by kernel_rfl) (by kernel_rfl) (Or.inl ⟨by rfl, fun _ _ => by rfl⟩) (by assumption) ?_
   try simp only [Act.put, qzG, qzI, qzH]
   refine xAd (i := 3) (oi := ⟨some 38, _, _, _, _, _⟩) hdir hsel hpan rfl (by kernel_rfl) (by kernel_rfl) (by kernel_rfl) (Or.inl ⟨by rfl, fun _ _ => by rfl⟩) (by assumption) ?_
   try simp only [Act.put, qzG, qzI, qzH]
   refine xAd (i := 4) (oi := ⟨some 39, _, _, _, _, _⟩) (v := .pointer (some ⟨gq, i, none⟩)) hdir hsel hpan rfl (by kernel_rfl) (by kernel_rfl) (by kernel_rfl) (Or.inl ⟨by rfl, fun w hw => by have hc := hix w; go_simp⟩) (by assumption) ?_
   try simp only [Act.put, qzG, qzI, qzH]
   refine xAd (i := 5) (oi := ⟨some 40, _, _, _, _, _⟩) (v := .string (tBy x)) hdir hsel hpan rfl (by kernel_rfl) (by kernel_rfl) (by kernel_rfl) (Or.inl ⟨by rfl, fun w hw => by have hc := cellB hw.out d0; go_simp⟩) (by assumption) ?_
   try simp only [Act.put, qzG, qzI, qzH]
   refine xAr (rs := [6]) (by kernel_rfl) (by simp) ?_
   refine AllHB.cons (by kernel_rfl) (o := ⟨some 41, _, _, _, _, _⟩) rfl (fun K hK => ?_) AllHB.nil
   go_simp
   (go_at_call 43; (with_reducible refine (HNX.out _).mono ?_); rintro e wa ⟨rfl, hba⟩)
   refine hK.out _ _ (qzL (xAa hHeld.out hba)) (fun hHeld2 => ?_)
   clear hK K hHeld
   have hHeld := hHeld2
   clear hHeld2
   try simp only [Act.put, qzG, qzI, qzH]
   refine xAr (rs := [7]) (by kernel_rfl) (by simp) ?_
   refine AllHB.cons (by kernel_rfl) (o := ⟨some 42, _, _, _, _, _⟩) rfl (fun K hK => ?_) AllHB.nil
   go_simp
   refine nameK ?_
   intro Vp hVp
   obtain ⟨gB, hbp⟩ : _ ∧ _ := (by first | exact xGu hVp | exact xGu (W := wr.drew) hVp)
   clear hVp
   refine hK.out _ _ (qzL (xAa hHeld.out hbp)) (fun hHeld2 => ?_)
   clear hK K hHeld
   have hHeld := hHeld2
   clear hHeld2
   try simp only [Act.put, qzG, qzI, qzH]
   refine xBf (by kernel_rfl) (by kernel_rfl) ?_
   clear hdir hsel hpan
   simp only [xAm, qzA, qzB, qzC, qzD, qzE, qzF]
   have hDZ := qzL (hDe.out.then_ hHeld.out)
   have HO := qzL hDZ.out.oh
   have lNZ : N ≤ Vp.heap.size := hDZ.out.l.2.1
   clear hHeld k1 d0 hix HNX hDe
   go_wp2_with (at_builtin; go_loud (refine xA8 _ rfl (.tmp 36) (.tmp 42) _ rfl N 3 ri _ 1 8 Tryz.underlying22 hi hz0 hz1 hz2 rfl (by omega) (by omega) eI xAz xCu _ hol rfl HO.out (by omega) _ 1 (numR x) rfl gB lNZ ?_); intro v' w4 hO4 hb4 hg4; obtain ⟨A', cap', rfl, _, _, _, _, _, _⟩ := hO4.segz xAz; have hD4 := qzL (hDZ.out.putH hO4 hg4 hb4); have s4 := (hDZ.out.grow hDZ.out.oh (by first | exact .inl rfl | exact .inr (.inl rfl) | exact .inr (.inr rfl)) hg4 hb4).1; have fs : w4.frozen? ⟨bs, 1, none⟩ = false := s4.frozen 1; have ks4 := s4.cell 1; clear s4 hO4 hb4 hg4)
   go_roundw
   case rel => exact ⟨i + 1, _, hol ++ [numR x], by simp, by omega, hH2, by simpa using hD4⟩
   case measure => simp [intOf]; omega
  obtain rfl : i = nh := by omega
  have tl : decide ((i : Int) < (i : Int)) = false := qzN (by omega)
  have hH3 : Hid (hol = hs.dropLast.map numR) := by unfold Hid; rw [hH.out, hdl.out]
  clear hH hdl
  obtain ⟨A0, cap0, rfl, _, _, _, _, _, _⟩ := hDe.out.oh.segz xAz
  clear ri hi hz0 hz1 hz2
  go_upto_region 11 with (fail)
  clear el tl hlt
  obtain ⟨s2, hs2⟩ : ∃ s, tBy x2 = s := ⟨_, rfl⟩
  have HIX : Hid (∀ k (h : k < s2.size), x2[k]? = some (s2[k])) := by subst hs2; exact tBy_ix x2
  have hsz : s2.size = x2.length := by rw [← hs2, xBe]
  have HSZ := qzL hsz
  have lsz : s2.size ≤ 5000 := by omega
  have HS2 := qzL hs2
  clear hsz hs2
  obtain ⟨ri, hi, hz0, hz1, hz2⟩ := info_parts (show (Tryz.prog.info? 4).map (fun i => (i.zero, i.size, i.bytes)) = some (some (.bool false), 1, 1) by kernel_rfl)
  go_loopw [8] (fun y WR => ∃ (i : Nat) (vu : Value) (us : List Bool), y = .int .i64 i ∧ i ≤ s2.size ∧ Hid (us = (x2.take i).map (· == 49)) ∧ Hid (De w WR N bs bz (.slice (some ⟨g, 0, none⟩) 4 c) (.slice (some ⟨gq, 0, none⟩) hs.length cq) [x0, x1, x2, x3] hs (numR x0) (.slice A0 hol.length cap0) vu (.slice none 0 0) hol us [])) (fun y _ => 20000 - (intOf y).toNat)
  case atStart => exact ⟨0, _, [], rfl, by omega, rfl, hDe⟩
  case round =>
   clear hDe
   obtain ⟨i, vu, us, rfl, hi', hH, hDe⟩ := hrel
   have lU : us.length = i := by rw [hH.out, List.length_map, List.length_take]; have := HSZ.out; omega
   have lU2 : us.length ≤ 5000 := by omega
   clear lU
   have k2 : wr.cell? ⟨g, 2, none⟩ = some (.string s2) := by rw [← HS2.out]; exact xF0 hDe.out.p rfl rfl
   have hi2 := HI2.out
   by_cases hlt : i < s2.size
   case pos =>
    have tl : decide ((i : Int) < (s2.size : Int)) = true := qzO (by omega)
    obtain ⟨ch, hc⟩ : ∃ c, s2[i] = c := ⟨_, rfl⟩
    have hx := HIX.out i hlt
    rw [hc] at hx
    obtain ⟨bb, hbb⟩ : ∃ b, (ch == 49) = b := ⟨_, rfl⟩
    have hH2 : Hid (us ++ [bb] = (x2.take (i + 1)).map (· == 49)) := by unfold Hid; rw [hH.out, List.take_add_one, hx, List.map_append, ← hbb]; rfl
    have t2 : ((ch.toNat : Int) == 49) = bb := by
     rw [← hbb, Bool.eq_iff_iff, beq_iff_eq, beq_iff_eq]
     exact ⟨fun e => UInt8.toNat_inj.1 (by show ch.toNat = 49; omega), fun e => by rw [e]; rfl⟩
    obtain ⟨A1, cap1, rfl, _, _, _, _, _, _⟩ := hDe.out.ou.segz xBd
    have k1 : wr.cell? ⟨bs, 2, none⟩ = some (.slice A1 us.length cap1) := hDe.out.s.cell 2
    clear hx hH hbb
    go_upto_region 13 with (fail)
    refine xBo (fun w' => Hid (Below wr.heap.size wr w')) [0, 1, 2, 3, 4, 5, 6, 7, 8] [9, 10, 11] (by kernel_rfl) (by kernel_rfl) pO (qzL (Below.drew (Below.refl _ _))) (fun hdir hsel hpan hHeld => ?_)
    refine xAd (i := 0) (oi := ⟨some 53, _, _, _, _, _⟩) (v := .pointer (some ⟨bs, 2, none⟩)) hdir hsel hpan rfl (by kernel_rfl) (by kernel_rfl) (by kernel_rfl) (Or.inl ⟨by rfl, fun w hw => by go_simp⟩) (by assumption) ?_
    try simp only [Act.put, qzG, qzI, qzH]
    refine xAd (i := 1) (oi := ⟨some 54, _, _, _, _, _⟩) (v := .slice A1 us.length cap1) hdir hsel hpan rfl (by kernel_rfl) (by kernel_rfl) (by kernel_rfl) (Or.inl ⟨by rfl, fun w hw => by have hc := cellB hw.out k1; go_simp⟩) (by assumption) ?_
    try simp only [Act.put, qzG, qzI, qzH]
    refine xAd (i := 2) (oi := ⟨some 55, _, _, _, _, _⟩) hdir hsel hpan rfl (by kernel_rfl) (by kernel_rfl) (by kernel_rfl) (Or.inl ⟨by rfl, fun _ _ => by rfl⟩) (by assumption) ?_
    try simp only [Act.put, qzG, qzI, qzH]
    refine xAd (i := 3) (oi := ⟨some 56, _, _, _, _, _⟩) (v := .pointer (some ⟨g, 2, none⟩)) hdir hsel hpan rfl (by kernel_rfl) (by kernel_rfl) (by kernel_rfl) (Or.inl ⟨by rfl, fun w hw => by have hc := hi2 w; go_simp⟩) (by assumption) ?_
    try simp only [Act.put, qzG, qzI, qzH]
    refine xAd (i := 4) (oi := ⟨some 57, _, _, _, _, _⟩) (v := .string s2) hdir hsel hpan rfl (by kernel_rfl) (by kernel_rfl) (by kernel_rfl) (Or.inl ⟨by rfl, fun w hw => by have hc := cellB hw.out k2; go_simp⟩) (by assumption) ?_
    try simp only [Act.put, qzG, qzI, qzH]
    refine xAd (i := 5) (oi := ⟨some 58, _, _, _, _, _⟩) hdir hsel hpan rfl (by kernel_rfl) (by kernel_rfl) (by kernel_rfl) (Or.inl ⟨by rfl, fun _ _ => by rfl⟩) (by assumption) ?_
    try simp only [Act.put, qzG, qzI, qzH]
    refine xAd (i := 6) (oi := ⟨some 59, _, _, _, _, _⟩) (v := .int .u8 ch.toNat) hdir hsel hpan rfl (by kernel_rfl) (by kernel_rfl) (by kernel_rfl) (Or.inl ⟨by rfl, fun w hw => by go_simp⟩) (by assumption) ?_
    try simp only [Act.put, qzG, qzI, qzH]
    refine xAd (i := 7) (oi := ⟨some 60, _, _, _, _, _⟩) (v := .bool bb) hdir hsel hpan rfl (by kernel_rfl) (by kernel_rfl) (by kernel_rfl) (Or.inl ⟨by rfl, fun w hw => by go_simp⟩) (by assumption) ?_
    try simp only [Act.put, qzG, qzI, qzH]
    refine xAr (rs := [8]) (by kernel_rfl) (by simp) ?_
    refine AllHB.cons (by kernel_rfl) (o := ⟨some 61, _, _, _, _, _⟩) rfl (fun K hK => ?_) AllHB.nil
    go_simp
    refine nameK ?_
    intro Vp hVp
    obtain ⟨gB, hbp⟩ : _ ∧ _ := (by first | exact xGu hVp | exact xGu (W := wr.drew) hVp)
    clear hVp
    refine hK.out _ _ (qzL (xAa hHeld.out hbp)) (fun hHeld2 => ?_)
    clear hK K hHeld
    have hHeld := hHeld2
    clear hHeld2
    try simp only [Act.put, qzG, qzI, qzH]
    refine xBf (by kernel_rfl) (by kernel_rfl) ?_
    clear hdir hsel hpan
    simp only [xAm, qzA, qzB, qzC, qzD, qzE, qzF]
    have hDZ := qzL (hDe.out.then_ hHeld.out)
    have HO := qzL hDZ.out.ou
    have lNZ : N ≤ Vp.heap.size := hDZ.out.l.2.1
    clear hHeld k1 k2 hDe hc hi2
    go_wp2_with (at_builtin; go_loud (refine xA8 _ rfl (.tmp 54) (.tmp 61) _ rfl N 4 ri _ 1 1 Tryz.underlying40 hi hz0 hz1 hz2 rfl (by omega) (by omega) eB xBd xGy _ us rfl HO.out (by omega) _ 1 bb rfl gB lNZ ?_); intro v' w4 hO4 hb4 hg4; obtain ⟨A', cap', rfl, _, _, _, _, _, _⟩ := hO4.segz xBd; have hD4 := qzL (hDZ.out.putU hO4 hg4 hb4); have s4 := (hDZ.out.grow hDZ.out.ou (by first | exact .inl rfl | exact .inr (.inl rfl) | exact .inr (.inr rfl)) hg4 hb4).1; have fs : w4.frozen? ⟨bs, 2, none⟩ = false := s4.frozen 2; have ks4 := s4.cell 2; clear s4 hO4 hb4 hg4)
    go_roundw
    case rel => exact ⟨i + 1, _, us ++ [bb], by simp, by omega, hH2, by simpa using hD4⟩
    case measure => simp [intOf]; omega
   obtain rfl : i = s2.size := by omega
   have tl : decide ((s2.size : Int) < (s2.size : Int)) = false := qzN (by omega)
   have hU3 : Hid (us = x2.map (· == 49)) := by unfold Hid; rw [hH.out, List.take_of_length_le (by have := HSZ.out; omega)]
   clear hH
   obtain ⟨A1, cap1, rfl, _, _, _, _, _, _⟩ := hDe.out.ou.segz xBd
   clear ri hi hz0 hz1 hz2
   have HSQ : Hid (∀ W, Calls Tryz.prog 42 #[.string (tBy x3), .int .u8 44] W fun e w' => ∃ A c, e = .returned (.slice A (spl 44 x3).length c) ∧ Own w' W.heap.size 9 1 eT (.slice A (spl 44 x3).length c) (spl 44 x3) ∧ Below W.heap.size W w') := fun W => xDz 44 x3 W (by omega)
   have hql := xFd 44 x3
   have hqp := spl_pos 44 x3
   obtain ⟨ks, hks⟩ : ∃ l, spl 44 x3 = l := ⟨_, rfl⟩
   rw [hks] at HSQ hql hqp HDD
   obtain ⟨hq1', hq2⟩ := hql
   have HQK := qzL hq2
   have hi3 := HI3.out
   have e3 : wr.cell? ⟨g, 3, none⟩ = some (.string (tBy x3)) := xF0 hDe.out.p rfl rfl
   clear hks hq2
   go_upto_region 15 with (go_at_call 42; (with_reducible refine (HSQ.out _).mono ?_); rintro e w2 ⟨Ak, ck, rfl, hO, hb2⟩)
   obtain ⟨gk, cap, eqA⟩ := xGw hO hqp
   obtain ⟨rfl, rfl⟩ : Ak = some ⟨gk, 0, none⟩ ∧ ck = cap := by injection eqA with a1 _ a3; exact ⟨a1, a3⟩
   have hD0 := qzL ((hDe.out.then_ hb2).again (hO.lower hDe.out.b.size))
   obtain ⟨nk, hnk⟩ : ∃ n, ks.length - 1 = n := ⟨_, rfl⟩
   have el : IntKind.i64.wrap ((ks.length : Int) - 1) = (nk : Int) := by rw [wrap_small _ (by omega) (by omega)]; omega
   have lnk : nk < ks.length := by omega
   have hdl : Hid (ks.dropLast = ks.take nk) := by unfold Hid; rw [List.dropLast_eq_take, hnk]
   have lnk2 : nk ≤ 5000 := by omega
   clear hnk eqA hO hb2 HSQ hqp hq1' e3 hi2 hi3 k2 hDe tl hlt
   go_upto_region 16 with (fail)
   obtain ⟨ri, hi, hz0, hz1, hz2⟩ := info_parts (show (Tryz.prog.info? 46).map (fun i => (i.zero, i.size, i.bytes)) = some (some (.agg #[.int .i64 0, .int .i64 0, .int .i64 0, .int .i64 0, .bool false]), 5, 40) by kernel_rfl)
   go_loopw [10] (fun y WR => ∃ (i : Nat) (vm : Value) (ms : List Mk), y = .int .i64 i ∧ i ≤ nk ∧ Hid (xBt (ks.take i) = some ms) ∧ Hid (De w WR N bs bz (.slice (some ⟨g, 0, none⟩) 4 c) (.slice (some ⟨gk, 0, none⟩) ks.length ck) [x0, x1, x2, x3] ks (numR x0) (.slice A0 hol.length cap0) (.slice A1 us.length cap1) vm hol us ms)) (fun y _ => 20000 - (intOf y).toNat)
   case atStart => exact ⟨0, _, [], rfl, by omega, rfl, hD0⟩
   case round =>
    clear hD0
    obtain ⟨i, vm, ms, rfl, hi', hH, hDe⟩ := hrel
    have lM : ms.length = i := by rw [xGa hH.out, List.length_take]; omega
    have lM2 : ms.length ≤ 5000 := by omega
    clear lM
    by_cases hlt : i < nk
    case pos =>
     have tl : decide ((i : Int) < (nk : Int)) = true := qzO (by omega)
     obtain ⟨x, hx⟩ : ∃ x, ks[i]? = some x := ⟨_, qzJ (by omega)⟩
     have lx := HQK.out x (qzK hx)
     have hix := xEg gk ks.length ck i (by omega)
     have d0 : wr.cell? ⟨gk, i, none⟩ = some (.string (tBy x)) := xF0 hDe.out.q rfl hx
     obtain ⟨mr, hmr⟩ : ∃ m, xDe x = m := ⟨_, rfl⟩
     have HMK := qzL (fun W => rmark_any x W (by omega))
     rw [hmr] at HMK
     have hH2 : Hid (xBt (ks.take (i + 1)) = mr.map fun m => ms ++ [m]) := by unfold Hid; rw [List.take_add_one, hx, qzD, xFm, hH.out, Option.bind_some, hmr]
     clear hx hH hmr
     cases mr with
     | none =>
      go_upto_region 19 with (go_at_call 44; (with_reducible refine (HMK.out _).mono ?_); rintro e w5 ⟨rfl, hb5⟩)
      refine xAf ?_
      intro V hV
      have hbV : Below wr.heap.size wr V := by rw [hV]; exact xAa hb5 (wa1 _ _)
      have hDV := hDe.out.then_ hbV
      have gzV := hDV.z
      have hn : Hid (S = zSta ∧ E = 20) := by
       have h1 := HSE.out
       have h0 : xBt ks.dropLast = none := by
        rw [hdl.out, show nk = (i + 1) + (nk - (i + 1)) by omega, List.take_add]
        exact xDd _ _ hH2.out
       rw [HDD.out, h0] at h1
       exact h1
      have hBV := qzL hDV.b
      clear hDV hV hb5 hbV hDe
      go_wp2_with (refine xAg rfl 43 _ _ rfl bz 43 [] [.int .i64 0, .slice none 0 0, .slice none 0 0, .slice none 0 0] [] [.int .i64 0, .slice none 0 0, .slice none 0 0, .slice none 0 0] rfl rfl gzV rfl (by kernel_rfl) (by simp [Value.oneCell']) ?_; intro w6 g6 u6)
      refine bodyPost_ret (xBg rfl rfl g6 ⟨_, Tryz.underlying43⟩ (by kernel_rfl)) rfl ?_
      rw [hn.out.1, hn.out.2]
      exact RetS.zero (hBV.out.trans (u6.b _ lbz))
     | some mk =>
      go_upto_region 19 with (go_at_call 44; (with_reducible refine (HMK.out _).mono ?_); rintro e w5 ⟨rfl, hb5⟩)
      refine xAf ?_
      intro V hV
      have hbV : Below wr.heap.size wr V := by rw [hV]; exact xAa hb5 (wa1 _ _)
      have hDZ := qzL (hDe.out.then_ hbV)
      have gV : Blk V w5.heap.size 46 (mA mk) := by rw [hV]; exact Blk.new _ _ _
      obtain ⟨bm, ebm⟩ : ∃ b, w5.heap.size = b := ⟨_, rfl⟩
      rw [ebm] at gV ⊢
      obtain ⟨A2, cap2, rfl, _, _, _, _, _, _⟩ := hDZ.out.om.segz xA6
      have k1 : V.cell? ⟨bs, 3, none⟩ = some (.slice A2 ms.length cap2) := hDZ.out.s.cell 3
      have HO := qzL hDZ.out.om
      have lNZ : N ≤ V.heap.size := hDZ.out.l.2.1
      clear hV hb5 hbV hDe d0 hix HMK ebm
      go_wp2_with (first | (refine xAi (by rfl) 46 _ rfl bm rfl 46 _ gV ⟨_, Tryz.underlying46⟩ (by kernel_rfl) ?_; simp only [Act.put, qzG, qzH, qzI]) | (at_builtin; go_loud (refine xA8 _ rfl (.tmp 87) (.tmp 89) _ rfl N 46 ri _ 5 40 Tryz.underlying41 hi hz0 hz1 hz2 rfl (by omega) (by omega) eM xA6 xGx _ ms rfl (HO.out.alloc _) (by omega) V.heap.size 1 mk rfl (Blk.new _ _ _) (by simp; omega) ?_); intro v' w4 hO4 hb4 hg4; obtain ⟨A', cap', rfl, _, _, _, _, _, _⟩ := hO4.segz xA6; have hE4 := hDZ.out.then_ (wa1 V (.cells (mA mk) 46)); have hD4 := qzL (hE4.putM hO4 hg4 hb4); have s4 := (hE4.grow hE4.om (by first | exact .inl rfl | exact .inr (.inl rfl) | exact .inr (.inr rfl)) hg4 hb4).1; have fs : w4.frozen? ⟨bs, 3, none⟩ = false := s4.frozen 3; have ks4 := s4.cell 3; clear hE4 s4 hO4 hb4 hg4))
      go_roundw
      case rel => exact ⟨i + 1, _, ms ++ [mk], by simp, by omega, hH2, by simpa using hD4⟩
      case measure => simp [intOf]; omega
    obtain rfl : i = nk := by omega
    have tl : decide ((i : Int) < (i : Int)) = false := qzN (by omega)
    have hM3 : Hid (xBt ks.dropLast = some ms) := by unfold Hid; rw [hdl.out]; exact hH.out
    clear hH hdl
    obtain ⟨A2, cap2, rfl, _, _, _, _, _, _⟩ := hDe.out.om.segz xA6
    have hD5 : Hid (D = if (⟨numR x0, hol, us, ms⟩ : Sta).text = t then some ⟨numR x0, hol, us, ms⟩ else none) := by
     unfold Hid
     rw [HDD.out, hM3.out, Option.bind_some, hH3.out, hU3.out]
    have hST : ∀ W, De w W N bs bz (.slice (some ⟨g, 0, none⟩) 4 c) (.slice (some ⟨gk, 0, none⟩) ks.length ck) [x0, x1, x2, x3] ks (numR x0) (.slice A0 hol.length cap0) (.slice A1 us.length cap1) (.slice A2 ms.length cap2) hol us ms → Stm W ⟨numR x0, hol, us, ms⟩ ⟨A0, cap0, A1, cap1, A2, cap2⟩ ∧ SOff (w.heap.size ≤ ·) ⟨A0, cap0, A1, cap1, A2, cap2⟩ ∧ STy W ⟨A0, cap0, A1, cap1, A2, cap2⟩ := fun W h => by
     obtain ⟨_, _, e1, i1, _, j1, _, m1, y1⟩ := h.oh.segz xAz
     obtain ⟨_, _, e2, i2, _, j2, _, m2, y2⟩ := h.ou.segz xBd
     obtain ⟨_, _, e3, i3, _, j3, _, m3, y3⟩ := h.om.segz xA6
     injection e1 with e1 _ f1
     injection e2 with e2 _ f2
     injection e3 with e3 _ f3
     subst e1 f1 e2 f2 e3 f3
     have lN := h.l
     exact ⟨⟨j1, j2, j3, by show hol.length ≤ 1000000; omega, by show us.length ≤ 1000000; omega, by show ms.length ≤ 1000000; omega, i1, i2, i3⟩, ⟨fun a h => Nat.le_trans lN.1 (m1 a h), fun a h => Nat.le_trans lN.1 (m2 a h), fun a h => Nat.le_trans lN.1 (m3 a h)⟩, ⟨y1, y2, y3⟩⟩
    have HST := qzL hST
    have hI : (⟨numR x0, hol, us, ms⟩ : Sta).I64 := ⟨xEo _, fun x hx => by
     have hx : x ∈ hol := hx
     rw [hH3.out] at hx
     obtain ⟨y, _, rfl⟩ := List.mem_map.1 hx
     exact xEo _, xG2 hM3.out⟩
    have HEN := qzL (xFg ⟨numR x0, hol, us, ms⟩ ⟨A0, cap0, A1, cap1, A2, cap2⟩ wr (hST wr hDe.out).1 hI lH2 lU2 lM2)
    obtain ⟨tx, htx⟩ : ∃ x, (⟨numR x0, hol, us, ms⟩ : Sta).text = x := ⟨_, rfl⟩
    rw [htx] at HEN hD5
    have gs := hDe.out.s
    clear hST hI htx
    obtain ⟨B, hB⟩ : ∃ B, decide (tx = t) = B := ⟨_, rfl⟩
    have tq : ((tBy tx).toList == (tBy t).toList) = B := by
     rw [ByteArray.toList_eq, ByteArray.toList_eq, xDw, xDw, ← hB, Bool.eq_iff_iff, beq_iff_eq, decide_eq_true_eq]
    have tq' : ((tBy tx).toList != (tBy t).toList) = !B := by rw [bne, tq]
    have HB5 := qzL hB
    clear hB
    go_upto_region 22 with (fail)
    go_upto_if 95 with (first | (refine xAi (by rfl) 43 _ rfl bs rfl 43 _ gs ⟨_, Tryz.underlying43⟩ (by kernel_rfl) ?_; simp only [Act.put, qzG, qzH, qzI]) | (go_at_call 22; (with_reducible refine HEN.out.mono ?_); rintro e w5 ⟨rfl, hb5⟩))
    have hDV := hDe.out.then_ hb5
    have gzV := hDV.z
    have gsV := hDV.s
    have HDV := qzL hDV
    clear hDe hDV hb5 gs HEN
    cases B with
    | false =>
     have hn : Hid (S = zSta ∧ E = 20) := by
      have h1 := HSE.out
      rw [hD5.out, if_neg (of_decide_eq_false HB5.out)] at h1
      exact h1
     clear gsV
     go_wp2_with (refine xAg rfl 43 _ _ rfl bz 43 [] [.int .i64 0, .slice none 0 0, .slice none 0 0, .slice none 0 0] [] [.int .i64 0, .slice none 0 0, .slice none 0 0, .slice none 0 0] rfl rfl gzV rfl (by kernel_rfl) (by simp [Value.oneCell']) ?_; intro w6 g6 u6)
     refine bodyPost_ret (xBg rfl rfl g6 ⟨_, Tryz.underlying43⟩ (by kernel_rfl)) rfl ?_
     rw [hn.out.1, hn.out.2]
     exact RetS.zero (HDV.out.b.trans (u6.b _ lbz))
    | true =>
     have hn : Hid (S = ⟨numR x0, hol, us, ms⟩ ∧ E = 0) := by
      have h1 := HSE.out
      rw [hD5.out, if_pos (of_decide_eq_true HB5.out)] at h1
      exact h1
     go_wp2_with (first | (refine xAi (by rfl) 43 _ rfl bs rfl 43 _ gsV ⟨_, Tryz.underlying43⟩ (by kernel_rfl) ?_; simp only [Act.put, qzG, qzH, qzI]) | (refine xAg rfl 43 _ _ rfl bz 43 [] [.int .i64 0, .slice none 0 0, .slice none 0 0, .slice none 0 0] [] [.int .i64 (numR x0), .slice A0 hol.length cap0, .slice A1 us.length cap1, .slice A2 ms.length cap2] rfl rfl gzV rfl (by kernel_rfl) (by simp [Value.oneCell']) ?_; intro w6 g6 u6))
     refine bodyPost_ret (xBg rfl rfl g6 ⟨_, Tryz.underlying43⟩ (by kernel_rfl)) rfl ?_
     rw [hn.out.1, hn.out.2]
     have lN := HDV.out.l
     have key : ∀ a : Addr, a.block ≥ N → a.block ≠ bz := fun a h => by omega
     obtain ⟨s1, s2', s3⟩ := HST.out _ HDV.out
     have o1 := HDV.out.oh.upd u6 (fun x hx e => by have := (World.ownsRow.lt HDV.out.oh x hx).1; omega)
     have o2 := HDV.out.ou.upd u6 (fun x hx e => by have := (World.ownsRow.lt HDV.out.ou x hx).1; omega)
     have o3 := HDV.out.om.upd u6 (fun x hx e => by have := (World.ownsRow.lt HDV.out.om x hx).1; omega)
     obtain ⟨_, _, e1, i1, _, j1, _, m1, y1⟩ := o1.segz xAz
     obtain ⟨_, _, e2, i2, _, j2, _, m2, y2⟩ := o2.segz xBd
     obtain ⟨_, _, e3, i3, _, j3, _, m3, y3⟩ := o3.segz xA6
     injection e1 with e1 _ f1
     injection e2 with e2 _ f2
     injection e3 with e3 _ f3
     subst e1 f1 e2 f2 e3 f3
     exact ⟨⟨⟨A0, cap0, A1, cap1, A2, cap2⟩, rfl, ⟨j1, j2, j3, s1.nh, s1.nu, s1.nm, i1, i2, i3⟩, s2', ⟨y1, y2, y3⟩⟩, HDV.out.b.trans (u6.b _ lbz)⟩
end Go.Proofs.YtginnonjdbpamaaGreatDoor
