/- The walk of MergeSymmetric. -/
import Derived.Test.YtcplneglfbdooaaZLc5a
namespace Go.Proofs.Ytcplneglfbdooaa
open Go.RowKit

set_option maxRecDepth 100000 in
set_option maxHeartbeats 6400000 in
theorem symmetric_any (c : Con) (m : Cm) (L1 L2 : List Pk) (A1 A2 : Option Addr) (k1 k2 : Nat) (w : World) (hc : ContW w c m) (hl1 : PatsW w A1 L1 k1) (hl2 : PatsW w A2 L2 k2) :
    Calls Try.prog 4 #[.agg (coA c m), .slice A1 L1.length k1, .slice A2 L2.length k2] w fun e w' => e = .returned (.bool true) ∧ Below w.heap.size w w' := by
  have HH := Lib.hid (fun W => head_any W)
  cases hs1 : smallA c (pats L1) with
  | false =>
    have HS := Lib.hid (fun W (hb : Below w.heap.size w W) => small_at c m L1 A1 k1 false hc hl1 hs1 W hb)
    clear hc hl1 hs1 hl2
    go_enter Try.func4, Try.ntmps4
    go_upto_region 1 with (fail)
    refine name_wp ?_
    intro X0 hX
    have gbc : Blk X0 w.heap.size 27 (coA c m) := by rw [hX]; exact blk_at (by simp)
    have HB0 : Below w.heap.size w X0 := by rw [hX]; (repeat (first | with_reducible assumption | with_reducible exact Below.refl _ _ | with_reducible refine below_drewN ?_ _ | with_reducible refine Below.drew ?_ | with_reducible refine below_alloc ?_ _ | with_reducible refine Below.setCell ?_ (by first | omega | (simp; done) | (simp; omega)) _ | with_reducible refine below_then ?_ (by with_reducible assumption) | (refine below_then (a := World.drew _) ?_ (by with_reducible assumption))))
    clear hX
    obtain ⟨bc, ebc⟩ : ∃ b, w.heap.size = b := ⟨_, rfl⟩
    have lbc : w.heap.size ≤ bc := by omega
    rw [ebc] at gbc ⊢
    clear ebc
    go_upto_region 2 with ((go_at_call 9; (with_reducible refine (HH.out _).mono ?_); rintro e w1 ⟨rfl, hbw1⟩))
    have HH1 := hbw1
    have HB1 := below_then HB0 HH1
    have gbc_1 := gbc.then_ HH1
    clear gbc HB0 HH1
    go_wp2_with (first | (refine wpList_row_w (by rfl) 27 _ rfl bc rfl 27 _ gbc_1 ⟨_, Try.underlying27⟩ (by kernel_rfl) ?_; simp only [Act.put, List.setIfInBounds_toArray, List.set_cons_succ, List.set_cons_zero]) | (go_at_call 10; (with_reducible refine (HS.out _ HB1).mono ?_); rintro e w2 ⟨rfl, hbw2⟩))
    go_ret
    exact ⟨rfl, below_then HB1 hbw2⟩
  | true =>
  have HS := Lib.hid (fun W (hb : Below w.heap.size w W) => small_at c m L1 A1 k1 true hc hl1 hs1 W hb)
  cases hs2 : smallA c (pats L2) with
  | false =>
    have HT := Lib.hid (fun W (hb : Below w.heap.size w W) => small_at c m L2 A2 k2 false hc hl2 hs2 W hb)
    clear hc hl1 hs1 hl2 hs2
    go_enter Try.func4, Try.ntmps4
    go_upto_region 1 with (fail)
    refine name_wp ?_
    intro X0 hX
    have gbc : Blk X0 w.heap.size 27 (coA c m) := by rw [hX]; exact blk_at (by simp)
    have HB0 : Below w.heap.size w X0 := by rw [hX]; (repeat (first | with_reducible assumption | with_reducible exact Below.refl _ _ | with_reducible refine below_drewN ?_ _ | with_reducible refine Below.drew ?_ | with_reducible refine below_alloc ?_ _ | with_reducible refine Below.setCell ?_ (by first | omega | (simp; done) | (simp; omega)) _ | with_reducible refine below_then ?_ (by with_reducible assumption) | (refine below_then (a := World.drew _) ?_ (by with_reducible assumption))))
    clear hX
    obtain ⟨bc, ebc⟩ : ∃ b, w.heap.size = b := ⟨_, rfl⟩
    have lbc : w.heap.size ≤ bc := by omega
    rw [ebc] at gbc ⊢
    clear ebc
    go_upto_region 2 with ((go_at_call 9; (with_reducible refine (HH.out _).mono ?_); rintro e w1 ⟨rfl, hbw1⟩))
    have HH1 := hbw1
    have HB1 := below_then HB0 HH1
    have gbc_1 := gbc.then_ HH1
    clear gbc HB0 HH1
    go_wp2_with (first | (refine wpList_row_w (by rfl) 27 _ rfl bc rfl 27 _ gbc_1 ⟨_, Try.underlying27⟩ (by kernel_rfl) ?_; simp only [Act.put, List.setIfInBounds_toArray, List.set_cons_succ, List.set_cons_zero]) | (go_at_call 10; (with_reducible refine (HS.out _ HB1).mono ?_); rintro e w2 ⟨rfl, hbw2⟩; have gw2 := gbc_1.then_ hbw2) | (refine wpList_row_w (by rfl) 27 _ rfl bc rfl 27 _ gw2 ⟨_, Try.underlying27⟩ (by kernel_rfl) ?_; simp only [Act.put, List.setIfInBounds_toArray, List.set_cons_succ, List.set_cons_zero]) | (go_at_call 10; (with_reducible refine (HT.out _ (below_then HB1 hbw2)).mono ?_); rintro e w3 ⟨rfl, hbw3⟩))
    go_ret
    exact ⟨rfl, below_then (below_then HB1 hbw2) hbw3⟩
  | true =>
  have HT := Lib.hid (fun W (hb : Below w.heap.size w W) => small_at c m L2 A2 k2 true hc hl2 hs2 W hb)
  obtain ⟨hC, hn⟩ := smallA_con hc hs1
  obtain ⟨hP1, h71, hk1⟩ := smallA_pats hl1 hs1
  obtain ⟨hP2, h72, hk2⟩ := smallA_pats hl2 hs2
  have hwr : IntKind.i64.wrap ((L1.length : Int) + (L2.length : Int)) = (L1.length : Int) + (L2.length : Int) := by rw [IntKind.wrap_i64]; omega
  clear hc hl1 hs1 hl2 hs2
  by_cases h60 : 12 < L1.length + L2.length
  · have t1 : decide ((12 : Int) < (L1.length : Int) + (L2.length : Int)) = true := decide_eq_true (by omega)
    clear h60 h71 h72 hk1 hk2 hn hC hP1 hP2
    go_enter Try.func4, Try.ntmps4
    go_upto_region 1 with (fail)
    refine name_wp ?_
    intro X0 hX
    have gbc : Blk X0 w.heap.size 27 (coA c m) := by rw [hX]; exact blk_at (by simp)
    have HB0 : Below w.heap.size w X0 := by rw [hX]; (repeat (first | with_reducible assumption | with_reducible exact Below.refl _ _ | with_reducible refine below_drewN ?_ _ | with_reducible refine Below.drew ?_ | with_reducible refine below_alloc ?_ _ | with_reducible refine Below.setCell ?_ (by first | omega | (simp; done) | (simp; omega)) _ | with_reducible refine below_then ?_ (by with_reducible assumption) | (refine below_then (a := World.drew _) ?_ (by with_reducible assumption))))
    clear hX
    obtain ⟨bc, ebc⟩ : ∃ b, w.heap.size = b := ⟨_, rfl⟩
    have lbc : w.heap.size ≤ bc := by omega
    rw [ebc] at gbc ⊢
    clear ebc
    go_upto_region 2 with ((go_at_call 9; (with_reducible refine (HH.out _).mono ?_); rintro e w1 ⟨rfl, hbw1⟩))
    have HH1 := hbw1
    have HB1 := below_then HB0 HH1
    have gbc_1 := gbc.then_ HH1
    clear gbc HB0 HH1
    go_wp2_with (first | (refine wpList_row_w (by rfl) 27 _ rfl bc rfl 27 _ gbc_1 ⟨_, Try.underlying27⟩ (by kernel_rfl) ?_; simp only [Act.put, List.setIfInBounds_toArray, List.set_cons_succ, List.set_cons_zero]) | (go_at_call 10; (with_reducible refine (HS.out _ HB1).mono ?_); rintro e w2 ⟨rfl, hbw2⟩; have gw2 := gbc_1.then_ hbw2) | (refine wpList_row_w (by rfl) 27 _ rfl bc rfl 27 _ gw2 ⟨_, Try.underlying27⟩ (by kernel_rfl) ?_; simp only [Act.put, List.setIfInBounds_toArray, List.set_cons_succ, List.set_cons_zero]) | (go_at_call 10; (with_reducible refine (HT.out _ (below_then HB1 hbw2)).mono ?_); rintro e w3 ⟨rfl, hbw3⟩))
    go_ret
    exact ⟨rfl, below_then (below_then HB1 hbw2) hbw3⟩
  have t1 : decide ((12 : Int) < (L1.length : Int) + (L2.length : Int)) = false := decide_eq_false (by omega)
  have h12 : (pats L1).length + (pats L2).length ≤ 12 := by rw [List.length_map, List.length_map]; omega
  obtain ⟨s1, s2, s3⟩ := symmetric_law (c := c) (L := pats L1) (R := pats L2) h12 hn
  obtain ⟨⟨E, i, j⟩, eM⟩ : ∃ M, c.mrE (pats L1) (pats L2) = M := ⟨_, rfl⟩
  obtain ⟨⟨E', i', j'⟩, eM'⟩ : ∃ M, c.mrE (pats L2) (pats L1) = M := ⟨_, rfl⟩
  rw [eM, eM'] at s1 s2 s3
  simp only at s1 s2 s3
  by_cases hE : E = 0
  · have hE' := s1.1 hE
    obtain ⟨p1, p2, p3, p4, p5, p6, p7, p8⟩ := s3 hE
    subst hE
    subst hE'
    cases p1
    cases p2
    obtain ⟨a1, ea1⟩ : ∃ a, addsN (pats L1) = a := ⟨_, rfl⟩
    obtain ⟨a2, ea2⟩ : ∃ a, addsN (pats L2) = a := ⟨_, rfl⟩
    have la1 : a1 ≤ 12 := by rw [← ea1]; exact Nat.le_trans (List.length_filter_le _ _) (by omega)
    have la2 : a2 ≤ 12 := by rw [← ea2]; exact Nat.le_trans (List.length_filter_le _ _) (by omega)
    obtain ⟨N, eN⟩ : ∃ N, c.cl.length = N := ⟨_, rfl⟩
    obtain ⟨Ca, eCa⟩ : ∃ C, (c.al (c.mrL (pats L1) (pats L2))).2 = C := ⟨_, rfl⟩
    obtain ⟨Cb, eCb⟩ : ∃ C, (c.al (c.mrL (pats L2) (pats L1))).2 = C := ⟨_, rfl⟩
    rw [ea1, ea2, eN, eCa] at p5
    rw [ea1, ea2, eN, eCb] at p6
    rw [ea1, ea2, eN, eCa, eCb] at p7
    rw [eCa, eCb, p7] at p8
    have eAa : c.allC (c.mrL (pats L1) (pats L2)) = Ca := by unfold Con.allC; rw [if_pos p3, eCa]
    have eAb : c.allC (c.mrL (pats L2) (pats L1)) = Cb := by unfold Con.allC; rw [if_pos p4, eCb]
    have okb : Cb.ok = true := by rw [← eCb]; exact (allE_ok p4).2.2.2
    have HM1 := Lib.hid (fun W (hb : Below w.heap.size w W) => mrg_to c m L1 L2 A1 A2 L1.length L2.length k1 k2 W 0 0 0 (c.mrL (pats L1) (pats L2)) (hC.then_ hb) (hP1.then_ hb) (hP2.then_ hb) rfl rfl hk1 (by rw [eM]; rfl) (by decide) (if_pos rfl))
    have HM2 := Lib.hid (fun W (hb : Below w.heap.size w W) => mrg_to c m L2 L1 A2 A1 L2.length L1.length k2 k1 W 0 0 0 (c.mrL (pats L2) (pats L1)) (hC.then_ hb) (hP2.then_ hb) (hP1.then_ hb) rfl rfl hk2 (by rw [eM']; rfl) (by decide) (if_pos rfl))
    have HA1 := Lib.hid (fun W Ax kx (M : List Pk) (hM : pats M = c.mrL (pats L1) (pats L2)) (hP : Pats W Ax M) (hb : Below w.heap.size w W) => all_to c Ca m M Ax kx M.length 0 W (hC.then_ hb) hP rfl (by rw [hM]; exact p3) (by rw [hM]; exact eAa))
    have HA2 := Lib.hid (fun W Ax kx (M : List Pk) (hM : pats M = c.mrL (pats L2) (pats L1)) (hP : Pats W Ax M) (hb : Below w.heap.size w W) => all_to c Cb m M Ax kx M.length 0 W (hC.then_ hb) hP rfl (by rw [hM]; exact p4) (by rw [hM]; exact eAb))
    have HQ1 := Lib.hid (fun W Ax kx (M : List Pk) (hM : pats M = c.mrL (pats L1) (pats L2)) (hP : Pats W Ax M) (hb : Below w.heap.size w W) => same_to (M.take L1.length) L1 Ax A1 kx k1 L1.length L1.length true W (pats_take hP _) (hP1.then_ hb) (by rw [List.length_take]; have := congrArg List.length hM; rw [mrL_len, List.length_map, List.length_map, List.length_map] at this; omega) rfl (decide_eq_true (by rw [pats_takes, hM]; have := mrL_take c (pats L1) (pats L2); rwa [List.length_map] at this)))
    have HD1 := Lib.hid (fun W (hb : Below w.heap.size w W) => adds_at (k := k1) hP1 ea1 W hb)
    have HD2 := Lib.hid (fun W (hb : Below w.heap.size w W) => adds_at (k := k2) hP2 ea2 W hb)
    have HEX := Lib.hid (fun W mb (h : Cont W Cb mb) => exch_to Cb Ca mb N a2 a1 W h (by omega) (ok_conds okb) p8.symm)
    have HQ2 := Lib.hid (fun W m1 m2 (h1 : Cont W Ca m1) (h2 : Cont W Ca m2) => scon_to Ca Ca m1 m2 true W h1 h2 (by simp))
    have hw1 : IntKind.i64.wrap ((N : Int) + (a1 : Int)) = (N : Int) + (a1 : Int) := by rw [IntKind.wrap_i64]; omega
    have hw2 : IntKind.i64.wrap ((N : Int) + (a1 : Int) + (a2 : Int)) = (N : Int) + (a1 : Int) + (a2 : Int) := by rw [IntKind.wrap_i64]; omega
    have q1 : ((Ca.cl.length : Int) != (N : Int) + (a1 : Int) + (a2 : Int)) = false := by rw [bne_eq_false_iff_eq]; omega
    have q2 : ((Cb.cl.length : Int) != (Ca.cl.length : Int)) = false := by rw [bne_eq_false_iff_eq]; omega
    have he2 := fun W => eqP2 0 0 0 0 W
    have hz2 : ∀ W : World, (zeroValue 36).run Try.prog W = .ok (.agg #[.int .i64 0, .int .i64 0]) W := fun W => by kernel_rfl
    simp only [and_self, decide_true] at he2
    have HN := Lib.hid eN
    clear p3 p4 p5 p6 p7 p8 eAa eAb okb eCa eCb ea1 ea2 s1 s2 s3 eM eM' h12 hC hP1 hP2 hn hk1 hk2 la1 la2 eN
    go_enter Try.func4, Try.ntmps4
    go_upto_region 1 with (fail)
    refine name_wp ?_
    intro X0 hX
    have gbc : Blk X0 w.heap.size 27 (coA c m) := by rw [hX]; exact blk_at (by simp)
    have HB0 : Below w.heap.size w X0 := by rw [hX]; (repeat (first | with_reducible assumption | with_reducible exact Below.refl _ _ | with_reducible refine below_drewN ?_ _ | with_reducible refine Below.drew ?_ | with_reducible refine below_alloc ?_ _ | with_reducible refine Below.setCell ?_ (by first | omega | (simp; done) | (simp; omega)) _ | with_reducible refine below_then ?_ (by with_reducible assumption) | (refine below_then (a := World.drew _) ?_ (by with_reducible assumption))))
    clear hX
    obtain ⟨bc, ebc⟩ : ∃ b, w.heap.size = b := ⟨_, rfl⟩
    have lbc : w.heap.size ≤ bc := by omega
    rw [ebc] at gbc ⊢
    clear ebc
    go_upto_region 2 with ((go_at_call 9; (with_reducible refine (HH.out _).mono ?_); rintro e w1 ⟨rfl, hbw1⟩))
    have HH1 := hbw1
    have HB1 := below_then HB0 HH1
    have gbc_1 := gbc.then_ HH1
    clear gbc HB0 HH1
    go_upto_region 4 with (first | (refine wpList_row_w (by rfl) 27 _ rfl bc rfl 27 _ gbc_1 ⟨_, Try.underlying27⟩ (by kernel_rfl) ?_; simp only [Act.put, List.setIfInBounds_toArray, List.set_cons_succ, List.set_cons_zero]) | (go_at_call 10; (with_reducible refine (HS.out _ HB1).mono ?_); rintro e w2 ⟨rfl, hbw2⟩; have gw2 := gbc_1.then_ hbw2) | (refine wpList_row_w (by rfl) 27 _ rfl bc rfl 27 _ gw2 ⟨_, Try.underlying27⟩ (by kernel_rfl) ?_; simp only [Act.put, List.setIfInBounds_toArray, List.set_cons_succ, List.set_cons_zero]) | (go_at_call 10; (with_reducible refine (HT.out _ (below_then HB1 hbw2)).mono ?_); rintro e w3 ⟨rfl, hbw3⟩))
    have HH2 := below_then hbw2 hbw3
    have HB2 := below_then HB1 HH2
    have gbc_2 := gbc_1.then_ HH2
    clear gbc_1 HB1 HH2
    try clear gw2
    go_upto_region 5 with (first | (refine wpList_row_w (by rfl) 27 _ rfl bc rfl 27 _ gbc_2 ⟨_, Try.underlying27⟩ (by kernel_rfl) ?_; simp only [Act.put, List.setIfInBounds_toArray, List.set_cons_succ, List.set_cons_zero]) | (go_at_call 13; (with_reducible refine (HM1.out _ HB2).mono ?_); rintro e w4 ⟨⟨Ax, kx, Mx, rfl, ex, hx0, lx⟩, hbw4⟩) | (refine wpList_store_all rfl 36 _ _ rfl w4.heap.size 36 [] (pairA 0 0).toList [] (pairA 0 0).toList rfl rfl (Blk.new _ _ _) rfl (by kernel_rfl) (by simp [Value.oneCell']) ?_; intro w5 gbw5 Uw5))
    have hsw5 : Below w4.heap.size w4 w5 := (wa1 _ _).trans (Uw5.b _ (Nat.le_refl _))
    have HH3 := below_then hbw4 hsw5
    have HB3 := below_then HB2 HH3
    have gbc_3 := gbc_2.then_ HH3
    clear gbc_2 HB2 HH3
    have hx := hx0.then_ hsw5
    replace ex := Lib.hid ex
    obtain ⟨bw5, ebw5⟩ : ∃ b, w4.heap.size = b := ⟨_, rfl⟩
    rw [ebw5] at gbw5 ⊢
    clear ebw5 Uw5 hsw5 hx0
    go_upto_region 6 with (first | (refine wpList_row_w (by rfl) 27 _ rfl bc rfl 27 _ gbc_3 ⟨_, Try.underlying27⟩ (by kernel_rfl) ?_; simp only [Act.put, List.setIfInBounds_toArray, List.set_cons_succ, List.set_cons_zero]) | (go_at_call 13; (with_reducible refine (HM2.out _ HB3).mono ?_); rintro e w6 ⟨⟨Ay, ky, My, rfl, ey, hy0, ly⟩, hbw6⟩) | (refine wpList_store_all rfl 36 _ _ rfl w6.heap.size 36 [] (pairA 0 0).toList [] (pairA 0 0).toList rfl rfl (Blk.new _ _ _) rfl (by kernel_rfl) (by simp [Value.oneCell']) ?_; intro w7 gbw7 Uw7))
    have hsw7 : Below w6.heap.size w6 w7 := (wa1 _ _).trans (Uw7.b _ (Nat.le_refl _))
    have HH4 := below_then hbw6 hsw7
    have HB4 := below_then HB3 HH4
    have gbc_4 := gbc_3.then_ HH4
    have gbw5_4 := gbw5.then_ HH4
    have hx_4 := hx.then_ HH4
    clear gbc_3 gbw5 hx HB3 HH4
    have hy := hy0.then_ hsw7
    replace ey := Lib.hid ey
    obtain ⟨bw7, ebw7⟩ : ∃ b, w6.heap.size = b := ⟨_, rfl⟩
    rw [ebw7] at gbw7 ⊢
    clear ebw7 Uw7 hsw7 hy0
    have hxl : Mx.length = L1.length + L2.length := by have := congrArg List.length ex.out; rw [mrL_len, List.length_map, List.length_map, List.length_map] at this; exact this
    have hx1 : ((Mx.length : Int) != (L1.length : Int) + (L2.length : Int)) = false := by rw [bne_eq_false_iff_eq]; omega
    have hsx := fun W => take_at (t := 28) (A := Ax) (len := Mx.length) (size := 19) (i := L1.length) (cap := kx) (by omega) (by kernel_rfl) (fun W => by kernel_rfl) W
    clear hxl
    go_upto_region 10 with (first | (refine wpList_arr (by rfl) 36 _ rfl bw5 rfl 36 (pairA 0 0) gbw5_4 Try.underlying36 (by kernel_rfl) ?_; simp only [Act.put, List.setIfInBounds_toArray, List.set_cons_succ, List.set_cons_zero]) | (refine wpList_arr (by rfl) 36 _ rfl bw7 rfl 36 (pairA 0 0) gbw7 Try.underlying36 (by kernel_rfl) ?_; simp only [Act.put, List.setIfInBounds_toArray, List.set_cons_succ, List.set_cons_zero]) | (go_at_call 14; (with_reducible refine (HQ1.out _ _ _ Mx ex.out hx_4 HB4).mono ?_); rintro e w8 ⟨rfl, hbw8⟩))
    have HH5 := hbw8
    have HB5 := below_then HB4 HH5
    have gbc_5 := gbc_4.then_ HH5
    have gbw5_5 := gbw5_4.then_ HH5
    have hx_5 := hx_4.then_ HH5
    have gbw7_5 := gbw7.then_ HH5
    have hy_5 := hy.then_ HH5
    clear gbc_4 gbw5_4 hx_4 gbw7 hy HB4 HH5
    clear hsx hx1 he2
    go_upto_region 11 with (first | (refine wpList_row_w (by rfl) 27 _ rfl bc rfl 27 _ gbc_5 ⟨_, Try.underlying27⟩ (by kernel_rfl) ?_; simp only [Act.put, List.setIfInBounds_toArray, List.set_cons_succ, List.set_cons_zero]) | (go_at_call 11; (with_reducible refine (HA1.out _ _ _ Mx ex.out hx_5 HB5).mono ?_); rintro e y1 ⟨⟨ma, rfl, hcy1⟩, hby1⟩) | (refine wpList_store_all rfl 27 _ _ rfl y1.heap.size 27 [] coZ.toList [] (coA Ca ma).toList rfl rfl (Blk.new _ _ _) rfl (by kernel_rfl) (by simp [Value.oneCell']) ?_; intro y2 gby2 Uy2))
    have hsy2 : Below y1.heap.size y1 y2 := (wa1 _ _).trans (Uy2.b _ (Nat.le_refl _))
    have HH6 := below_then hby1 hsy2
    have HB6 := below_then HB5 HH6
    have gbc_6 := gbc_5.then_ HH6
    have gbw5_6 := gbw5_5.then_ HH6
    have hx_6 := hx_5.then_ HH6
    have gbw7_6 := gbw7_5.then_ HH6
    have hy_6 := hy_5.then_ HH6
    clear gbc_5 gbw5_5 hx_5 gbw7_5 hy_5 HB5 HH6
    have hca := hcy1.then_ hsy2
    obtain ⟨by2, eby2⟩ : ∃ b, y1.heap.size = b := ⟨_, rfl⟩
    rw [eby2] at gby2 ⊢
    clear eby2 Uy2 hsy2 hcy1
    go_upto_region 12 with (first | (refine wpList_row_w (by rfl) 27 _ rfl bc rfl 27 _ gbc_6 ⟨_, Try.underlying27⟩ (by kernel_rfl) ?_; simp only [Act.put, List.setIfInBounds_toArray, List.set_cons_succ, List.set_cons_zero]) | (go_at_call 11; (with_reducible refine (HA2.out _ _ _ My ey.out hy_6 HB6).mono ?_); rintro e y3 ⟨⟨mb, rfl, hcy3⟩, hby3⟩) | (refine wpList_store_all rfl 27 _ _ rfl y3.heap.size 27 [] coZ.toList [] (coA Cb mb).toList rfl rfl (Blk.new _ _ _) rfl (by kernel_rfl) (by simp [Value.oneCell']) ?_; intro y4 gby4 Uy4))
    have hsy4 : Below y3.heap.size y3 y4 := (wa1 _ _).trans (Uy4.b _ (Nat.le_refl _))
    have HH7 := below_then hby3 hsy4
    have HB7 := below_then HB6 HH7
    have gbc_7 := gbc_6.then_ HH7
    have gbw5_7 := gbw5_6.then_ HH7
    have hx_7 := hx_6.then_ HH7
    have gbw7_7 := gbw7_6.then_ HH7
    have hy_7 := hy_6.then_ HH7
    have gby2_7 := gby2.then_ HH7
    have hca_7 := hca.then_ HH7
    clear gbc_6 gbw5_6 hx_6 gbw7_6 hy_6 gby2 hca HB6 HH7
    have hcb := hcy3.then_ hsy4
    obtain ⟨by4, eby4⟩ : ∃ b, y3.heap.size = b := ⟨_, rfl⟩
    rw [eby4] at gby4 ⊢
    clear eby4 Uy4 hsy4 hcy3
    have r4 : y4.cell? ⟨bc, 4, none⟩ = some (.slice m.k N m.kc) := by rw [← HN.out]; exact gbc_7.cell 4
    go_upto_region 13 with (fail)
    clear r4
    go_upto_region 15 with (first | (go_at_call 15; (with_reducible refine (HD1.out _ HB7).mono ?_); rintro e y5 ⟨rfl, hby5⟩) | (go_at_call 15; (with_reducible refine (HD2.out _ (below_then HB7 hby5)).mono ?_); rintro e WS ⟨rfl, hby6⟩))
    have HH8 := below_then hby5 hby6
    have HB8 := below_then HB7 HH8
    have gbc_8 := gbc_7.then_ HH8
    have gbw5_8 := gbw5_7.then_ HH8
    have hx_8 := hx_7.then_ HH8
    have gbw7_8 := gbw7_7.then_ HH8
    have hy_8 := hy_7.then_ HH8
    have gby2_8 := gby2_7.then_ HH8
    have hca_8 := hca_7.then_ HH8
    have gby4_8 := gby4.then_ HH8
    have hcb_8 := hcb.then_ HH8
    clear gbc_7 gbw5_7 hx_7 gbw7_7 hy_7 gby2_7 hca_7 gby4 hcb HB7 HH8
    have ra : WS.cell? ⟨by2, 4, none⟩ = some (.slice ma.k Ca.cl.length ma.kc) := gby2_8.cell 4
    have rb : WS.cell? ⟨by4, 4, none⟩ = some (.slice mb.k Cb.cl.length mb.kc) := gby4_8.cell 4
    go_upto_region 17 with (fail)
    clear ra rb q1 q2 hw1 hw2
    have HAS := Lib.hid hca_8
    have HBS := Lib.hid hcb_8
    have GAS := Lib.hid gby2_8
    have GBS := Lib.hid gby4_8
    have HBW := Lib.hid HB8
    refine wp_region_hb (fun w' => Hid (Below WS.heap.size WS w')) [0, 1, 2, 3, 4, 5, 6, 7, 8, 9] [10] (by kernel_rfl) (by kernel_rfl) (by repeat (first | with_reducible refine panOk_then ?_ | with_reducible refine panOk_block ?_ | exact panOk_body)) (Lib.hid (Below.drew (Below.refl _ _))) (fun hdir hsel hpan hHeld => ?_)
    refine wpHB_take (i := 0) (oi := ⟨some 161, _, _, _, _, _⟩) hdir hsel hpan rfl (by kernel_rfl) (by kernel_rfl) (by kernel_rfl) (Or.inl ⟨by rfl, fun _ _ => by rfl⟩) (by assumption) ?_
    try simp only [Act.put, List.setIfInBounds_toArray, List.set_cons_zero, List.set_cons_succ]
    refine wpHB_take (i := 1) (oi := ⟨some 162, _, _, _, _, _⟩) hdir hsel hpan rfl (by kernel_rfl) (by kernel_rfl) (by kernel_rfl) (Or.inl ⟨by rfl, fun _ _ => by rfl⟩) (by assumption) ?_
    try simp only [Act.put, List.setIfInBounds_toArray, List.set_cons_zero, List.set_cons_succ]
    refine wpHB_take (i := 2) (oi := ⟨some 163, _, _, _, _, _⟩) hdir hsel hpan rfl (by kernel_rfl) (by kernel_rfl) (by kernel_rfl) (yieldsIf_row (by rfl) 27 _ rfl by2 rfl 27 _ (fun w hw => (GAS.out.then_ hw.out)) ⟨_, Try.underlying27⟩ (by kernel_rfl)) (by assumption) ?_
    try simp only [Act.put, List.setIfInBounds_toArray, List.set_cons_zero, List.set_cons_succ]
    refine wpHB_take (i := 3) (oi := ⟨some 164, _, _, _, _, _⟩) hdir hsel hpan rfl (by kernel_rfl) (by kernel_rfl) (by kernel_rfl) (yieldsIf_row (by rfl) 27 _ rfl by4 rfl 27 _ (fun w hw => (GBS.out.then_ hw.out)) ⟨_, Try.underlying27⟩ (by kernel_rfl)) (by assumption) ?_
    try simp only [Act.put, List.setIfInBounds_toArray, List.set_cons_zero, List.set_cons_succ]
    refine wpHB_take (i := 4) (oi := ⟨some 165, _, _, _, _, _⟩) hdir hsel hpan rfl (by kernel_rfl) (by kernel_rfl) (by kernel_rfl) (Or.inl ⟨by rfl, fun _ _ => by rfl⟩) (by assumption) ?_
    try simp only [Act.put, List.setIfInBounds_toArray, List.set_cons_zero, List.set_cons_succ]
    refine wpHB_take (i := 5) (oi := ⟨some 166, _, _, _, _, _⟩) hdir hsel hpan rfl (by kernel_rfl) (by kernel_rfl) (by kernel_rfl) (Or.inl ⟨by rfl, fun _ _ => by rfl⟩) (by assumption) ?_
    try simp only [Act.put, List.setIfInBounds_toArray, List.set_cons_zero, List.set_cons_succ]
    refine wpHB_take (i := 6) (oi := ⟨some 167, _, _, _, _, _⟩) hdir hsel hpan rfl (by kernel_rfl) (by kernel_rfl) (by kernel_rfl) (Or.inl ⟨by rfl, fun _ _ => by rfl⟩) (by assumption) ?_
    try simp only [Act.put, List.setIfInBounds_toArray, List.set_cons_zero, List.set_cons_succ]
    refine wpHB_ready (rs := [7]) (by kernel_rfl) (by simp) ?_
    refine AllHB.cons (by kernel_rfl) (o := ⟨some 168, _, _, _, _, _⟩) rfl (fun K hK => ?_) AllHB.nil
    rw [if_pos (by rfl)]
    go_simp
    (go_at_call 16; (with_reducible refine (HEX.out _ mb (HBS.out.then_ hHeld.out)).mono ?_); rintro e wa ⟨⟨mx, rfl, hmx⟩, hba⟩)
    refine hK.out _ _ (Lib.hid (below_then hHeld.out hba)) (fun hHeld2 => ?_)
    clear hK K hHeld
    have hHeld := hHeld2
    clear hHeld2
    try simp only [Act.put, List.setIfInBounds_toArray, List.set_cons_zero, List.set_cons_succ]
    refine wpHB_ready (rs := [8]) (by kernel_rfl) (by simp) ?_
    refine AllHB.cons (by kernel_rfl) (o := ⟨some 169, _, _, _, _, _⟩) rfl (fun K hK => ?_) AllHB.nil
    rw [if_pos (by rfl)]
    go_simp
    (go_at_call 12; (with_reducible refine (HQ2.out _ ma mx (HAS.out.then_ hHeld.out) hmx).mono ?_); rintro e wb ⟨rfl, hbb⟩)
    refine hK.out _ _ (Lib.hid (below_then hHeld.out hbb)) (fun hHeld2 => ?_)
    clear hK K hHeld
    have hHeld := hHeld2
    clear hHeld2
    try simp only [Act.put, List.setIfInBounds_toArray, List.set_cons_zero, List.set_cons_succ]
    refine wpHB_take (i := 9) (oi := ⟨some 170, _, _, _, _, _⟩) (v := .bool true) hdir hsel hpan rfl (by kernel_rfl) (by kernel_rfl) (by kernel_rfl) (Or.inl ⟨by rfl, fun w hw => by rfl⟩) (by assumption) ?_
    try simp only [Act.put, List.setIfInBounds_toArray, List.set_cons_zero, List.set_cons_succ]
    refine wpHB_tail (by kernel_rfl) (by kernel_rfl) ?_
    clear hdir hsel hpan
    simp only [opsAt, List.getElem?_toArray, List.getElem?_cons_succ, List.getElem?_cons_zero, Option.toList_some, List.cons_append, List.nil_append]
    go_wp2
    go_ret
    exact ⟨rfl, below_then HBW.out hHeld.out⟩
  · have hE' : E' ≠ 0 := fun h => hE (s1.2 h)
    have HM1 := Lib.hid (fun W (hb : Below w.heap.size w W) => mrg_to c m L1 L2 A1 A2 L1.length L2.length k1 k2 W E i j [] (hC.then_ hb) (hP1.then_ hb) (hP2.then_ hb) rfl rfl hk1 (by rw [eM]; rfl) (by omega) (if_neg hE))
    have HM2 := Lib.hid (fun W (hb : Below w.heap.size w W) => mrg_to c m L2 L1 A2 A1 L2.length L1.length k2 k1 W E' i' j' [] (hC.then_ hb) (hP2.then_ hb) (hP1.then_ hb) rfl rfl hk2 (by rw [eM']; rfl) (by omega) (if_neg hE'))
    have u1 : (E != 0) = true := by rw [bne_iff_ne]; exact hE
    have u2 : (E' != 0) = true := by rw [bne_iff_ne]; exact hE'
    by_cases h16 : E = 16
    · have h16' := s2.1 h16
      have u3 : (E == 16) = true := by rw [beq_iff_eq]; exact h16
      have u4 : (E' == 16) = true := by rw [beq_iff_eq]; exact h16'
      clear hE hE' h16 h16' s1 s2 s3 eM eM' h12 hC hP1 hP2 hn hk1 hk2
      go_enter Try.func4, Try.ntmps4
      go_upto_region 1 with (fail)
      refine name_wp ?_
      intro X0 hX
      have gbc : Blk X0 w.heap.size 27 (coA c m) := by rw [hX]; exact blk_at (by simp)
      have HB0 : Below w.heap.size w X0 := by rw [hX]; (repeat (first | with_reducible assumption | with_reducible exact Below.refl _ _ | with_reducible refine below_drewN ?_ _ | with_reducible refine Below.drew ?_ | with_reducible refine below_alloc ?_ _ | with_reducible refine Below.setCell ?_ (by first | omega | (simp; done) | (simp; omega)) _ | with_reducible refine below_then ?_ (by with_reducible assumption) | (refine below_then (a := World.drew _) ?_ (by with_reducible assumption))))
      clear hX
      obtain ⟨bc, ebc⟩ : ∃ b, w.heap.size = b := ⟨_, rfl⟩
      have lbc : w.heap.size ≤ bc := by omega
      rw [ebc] at gbc ⊢
      clear ebc
      go_upto_region 2 with ((go_at_call 9; (with_reducible refine (HH.out _).mono ?_); rintro e w1 ⟨rfl, hbw1⟩))
      have HH1 := hbw1
      have HB1 := below_then HB0 HH1
      have gbc_1 := gbc.then_ HH1
      clear gbc HB0 HH1
      go_upto_region 4 with (first | (refine wpList_row_w (by rfl) 27 _ rfl bc rfl 27 _ gbc_1 ⟨_, Try.underlying27⟩ (by kernel_rfl) ?_; simp only [Act.put, List.setIfInBounds_toArray, List.set_cons_succ, List.set_cons_zero]) | (go_at_call 10; (with_reducible refine (HS.out _ HB1).mono ?_); rintro e w2 ⟨rfl, hbw2⟩; have gw2 := gbc_1.then_ hbw2) | (refine wpList_row_w (by rfl) 27 _ rfl bc rfl 27 _ gw2 ⟨_, Try.underlying27⟩ (by kernel_rfl) ?_; simp only [Act.put, List.setIfInBounds_toArray, List.set_cons_succ, List.set_cons_zero]) | (go_at_call 10; (with_reducible refine (HT.out _ (below_then HB1 hbw2)).mono ?_); rintro e w3 ⟨rfl, hbw3⟩))
      have HH2 := below_then hbw2 hbw3
      have HB2 := below_then HB1 HH2
      have gbc_2 := gbc_1.then_ HH2
      clear gbc_1 HB1 HH2
      try clear gw2
      go_upto_region 5 with (first | (refine wpList_row_w (by rfl) 27 _ rfl bc rfl 27 _ gbc_2 ⟨_, Try.underlying27⟩ (by kernel_rfl) ?_; simp only [Act.put, List.setIfInBounds_toArray, List.set_cons_succ, List.set_cons_zero]) | (go_at_call 13; (with_reducible refine (HM1.out _ HB2).mono ?_); rintro e w4 ⟨⟨Ax, kx, Mx, rfl, ex, hx0, lx⟩, hbw4⟩) | (refine wpList_store_all rfl 36 _ _ rfl w4.heap.size 36 [] (pairA 0 0).toList [] (pairA i j).toList rfl rfl (Blk.new _ _ _) rfl (by kernel_rfl) (by simp [Value.oneCell']) ?_; intro w5 gbw5 Uw5))
      have hsw5 : Below w4.heap.size w4 w5 := (wa1 _ _).trans (Uw5.b _ (Nat.le_refl _))
      have HH3 := below_then hbw4 hsw5
      have HB3 := below_then HB2 HH3
      have gbc_3 := gbc_2.then_ HH3
      clear gbc_2 HB2 HH3
      have hx := hx0.then_ hsw5
      replace ex := Lib.hid ex
      obtain ⟨bw5, ebw5⟩ : ∃ b, w4.heap.size = b := ⟨_, rfl⟩
      rw [ebw5] at gbw5 ⊢
      clear ebw5 Uw5 hsw5 hx0
      go_upto_region 6 with (first | (refine wpList_row_w (by rfl) 27 _ rfl bc rfl 27 _ gbc_3 ⟨_, Try.underlying27⟩ (by kernel_rfl) ?_; simp only [Act.put, List.setIfInBounds_toArray, List.set_cons_succ, List.set_cons_zero]) | (go_at_call 13; (with_reducible refine (HM2.out _ HB3).mono ?_); rintro e w6 ⟨⟨Ay, ky, My, rfl, ey, hy0, ly⟩, hbw6⟩) | (refine wpList_store_all rfl 36 _ _ rfl w6.heap.size 36 [] (pairA 0 0).toList [] (pairA i' j').toList rfl rfl (Blk.new _ _ _) rfl (by kernel_rfl) (by simp [Value.oneCell']) ?_; intro w7 gbw7 Uw7))
      have hsw7 : Below w6.heap.size w6 w7 := (wa1 _ _).trans (Uw7.b _ (Nat.le_refl _))
      have HH4 := below_then hbw6 hsw7
      have HB4 := below_then HB3 HH4
      have gbc_4 := gbc_3.then_ HH4
      have gbw5_4 := gbw5.then_ HH4
      have hx_4 := hx.then_ HH4
      clear gbc_3 gbw5 hx HB3 HH4
      have hy := hy0.then_ hsw7
      replace ey := Lib.hid ey
      obtain ⟨bw7, ebw7⟩ : ∃ b, w6.heap.size = b := ⟨_, rfl⟩
      rw [ebw7] at gbw7 ⊢
      clear ebw7 Uw7 hsw7 hy0
      obtain rfl : Mx = [] := List.map_eq_nil_iff.1 ex.out
      obtain rfl : My = [] := List.map_eq_nil_iff.1 ey.out
      clear ex ey
      go_wp2_with (fail)
      go_ret
      exact ⟨rfl, HB4⟩
    · have u3 : (E == 16) = false := by rw [beq_eq_false_iff_ne]; exact h16
      have u4 : (E' == 16) = false := by rw [beq_eq_false_iff_ne]; exact fun h => h16 (s2.2 h)
      clear hE hE' h16 s1 s2 s3 eM eM' h12 hC hP1 hP2 hn hk1 hk2
      go_enter Try.func4, Try.ntmps4
      go_upto_region 1 with (fail)
      refine name_wp ?_
      intro X0 hX
      have gbc : Blk X0 w.heap.size 27 (coA c m) := by rw [hX]; exact blk_at (by simp)
      have HB0 : Below w.heap.size w X0 := by rw [hX]; (repeat (first | with_reducible assumption | with_reducible exact Below.refl _ _ | with_reducible refine below_drewN ?_ _ | with_reducible refine Below.drew ?_ | with_reducible refine below_alloc ?_ _ | with_reducible refine Below.setCell ?_ (by first | omega | (simp; done) | (simp; omega)) _ | with_reducible refine below_then ?_ (by with_reducible assumption) | (refine below_then (a := World.drew _) ?_ (by with_reducible assumption))))
      clear hX
      obtain ⟨bc, ebc⟩ : ∃ b, w.heap.size = b := ⟨_, rfl⟩
      have lbc : w.heap.size ≤ bc := by omega
      rw [ebc] at gbc ⊢
      clear ebc
      go_upto_region 2 with ((go_at_call 9; (with_reducible refine (HH.out _).mono ?_); rintro e w1 ⟨rfl, hbw1⟩))
      have HH1 := hbw1
      have HB1 := below_then HB0 HH1
      have gbc_1 := gbc.then_ HH1
      clear gbc HB0 HH1
      go_upto_region 4 with (first | (refine wpList_row_w (by rfl) 27 _ rfl bc rfl 27 _ gbc_1 ⟨_, Try.underlying27⟩ (by kernel_rfl) ?_; simp only [Act.put, List.setIfInBounds_toArray, List.set_cons_succ, List.set_cons_zero]) | (go_at_call 10; (with_reducible refine (HS.out _ HB1).mono ?_); rintro e w2 ⟨rfl, hbw2⟩; have gw2 := gbc_1.then_ hbw2) | (refine wpList_row_w (by rfl) 27 _ rfl bc rfl 27 _ gw2 ⟨_, Try.underlying27⟩ (by kernel_rfl) ?_; simp only [Act.put, List.setIfInBounds_toArray, List.set_cons_succ, List.set_cons_zero]) | (go_at_call 10; (with_reducible refine (HT.out _ (below_then HB1 hbw2)).mono ?_); rintro e w3 ⟨rfl, hbw3⟩))
      have HH2 := below_then hbw2 hbw3
      have HB2 := below_then HB1 HH2
      have gbc_2 := gbc_1.then_ HH2
      clear gbc_1 HB1 HH2
      try clear gw2
      go_upto_region 5 with (first | (refine wpList_row_w (by rfl) 27 _ rfl bc rfl 27 _ gbc_2 ⟨_, Try.underlying27⟩ (by kernel_rfl) ?_; simp only [Act.put, List.setIfInBounds_toArray, List.set_cons_succ, List.set_cons_zero]) | (go_at_call 13; (with_reducible refine (HM1.out _ HB2).mono ?_); rintro e w4 ⟨⟨Ax, kx, Mx, rfl, ex, hx0, lx⟩, hbw4⟩) | (refine wpList_store_all rfl 36 _ _ rfl w4.heap.size 36 [] (pairA 0 0).toList [] (pairA i j).toList rfl rfl (Blk.new _ _ _) rfl (by kernel_rfl) (by simp [Value.oneCell']) ?_; intro w5 gbw5 Uw5))
      have hsw5 : Below w4.heap.size w4 w5 := (wa1 _ _).trans (Uw5.b _ (Nat.le_refl _))
      have HH3 := below_then hbw4 hsw5
      have HB3 := below_then HB2 HH3
      have gbc_3 := gbc_2.then_ HH3
      clear gbc_2 HB2 HH3
      have hx := hx0.then_ hsw5
      replace ex := Lib.hid ex
      obtain ⟨bw5, ebw5⟩ : ∃ b, w4.heap.size = b := ⟨_, rfl⟩
      rw [ebw5] at gbw5 ⊢
      clear ebw5 Uw5 hsw5 hx0
      go_upto_region 6 with (first | (refine wpList_row_w (by rfl) 27 _ rfl bc rfl 27 _ gbc_3 ⟨_, Try.underlying27⟩ (by kernel_rfl) ?_; simp only [Act.put, List.setIfInBounds_toArray, List.set_cons_succ, List.set_cons_zero]) | (go_at_call 13; (with_reducible refine (HM2.out _ HB3).mono ?_); rintro e w6 ⟨⟨Ay, ky, My, rfl, ey, hy0, ly⟩, hbw6⟩) | (refine wpList_store_all rfl 36 _ _ rfl w6.heap.size 36 [] (pairA 0 0).toList [] (pairA i' j').toList rfl rfl (Blk.new _ _ _) rfl (by kernel_rfl) (by simp [Value.oneCell']) ?_; intro w7 gbw7 Uw7))
      have hsw7 : Below w6.heap.size w6 w7 := (wa1 _ _).trans (Uw7.b _ (Nat.le_refl _))
      have HH4 := below_then hbw6 hsw7
      have HB4 := below_then HB3 HH4
      have gbc_4 := gbc_3.then_ HH4
      have gbw5_4 := gbw5.then_ HH4
      have hx_4 := hx.then_ HH4
      clear gbc_3 gbw5 hx HB3 HH4
      have hy := hy0.then_ hsw7
      replace ey := Lib.hid ey
      obtain ⟨bw7, ebw7⟩ : ∃ b, w6.heap.size = b := ⟨_, rfl⟩
      rw [ebw7] at gbw7 ⊢
      clear ebw7 Uw7 hsw7 hy0
      obtain rfl : Mx = [] := List.map_eq_nil_iff.1 ex.out
      obtain rfl : My = [] := List.map_eq_nil_iff.1 ey.out
      clear ex ey
      go_wp2_with (fail)
      go_ret
      exact ⟨rfl, HB4⟩
end Go.Proofs.Ytcplneglfbdooaa
