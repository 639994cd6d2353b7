/- The walk of PatchAgain. -/
import Derived.Test.YtplommmegkdhdaaGreatDoorMb27
namespace Go.Proofs.YtplommmegkdhdaaGreatDoor
open Go.RowKit

set_option maxRecDepth 100000 in
set_option maxHeartbeats 6400000 in
theorem again_any (c : Con) (m : Cm) (x : Pk) (w : World) (hL : Lw w) (hc : ContW w c m) (hx : fitP w x) :
    Calls Tryz.prog 5 #[.agg (coA c m), .agg (pL x.p x.m)] w fun e w' => e = .returned (.bool true) ∧ Below w.heap.size w w' := by
  have HH := Lib.hid (fun W (hb : Below w.heap.size w W) => head_any W (hL.below hb))
  cases hs1 : c.small 40 with
  | false =>
    have HS1 := Lib.hid (fun W (hb : Below w.heap.size w W) => smallc_at c m false hc hs1 W hb)
    clear hc hx hs1 hL
    go_enter Tryz.func5, Tryz.ntmps5
    go_upto_region 1 with (fail)
    refine name_wp ?_
    intro X0 hX
    have gbc : Blk X0 w.heap.size 27 (coA c m) := by rw [hX]; exact (blk_at (by simp)).alloc _
    have gbp : Blk X0 (w.heap.size + 1) 34 (pL x.p x.m) := by rw [hX]; exact blk_at (by simp)
    have HB0 : Below w.heap.size w X0 := by rw [hX]; (repeat (first | with_reducible assumption | with_reducible exact Below.refl _ _ | with_reducible refine below_drewN ?_ _ | with_reducible refine Below.drew ?_ | with_reducible refine below_alloc ?_ _ | with_reducible refine Below.setCell ?_ (by first | omega | (simp; done) | (simp; omega)) _ | with_reducible refine below_then ?_ (by with_reducible assumption) | (refine below_then (a := World.drew _) ?_ (by with_reducible assumption))))
    clear hX
    obtain ⟨bp, ebp⟩ : ∃ b, w.heap.size + 1 = b := ⟨_, rfl⟩
    obtain ⟨bc, ebc⟩ : ∃ b, w.heap.size = b := ⟨_, rfl⟩
    have lbc : w.heap.size ≤ bc := by omega
    have lbp : w.heap.size ≤ bp := by omega
    have nbcbp : bc ≠ bp := by omega
    rw [ebp] at gbp ⊢
    rw [ebc] at gbc ⊢
    clear ebc ebp
    go_upto_region 2 with ((go_at_call 9; (with_reducible refine (HH.out _ HB0).mono ?_); rintro e w1 ⟨rfl, hbw1⟩))
    have HH1 := hbw1
    have HB1 := below_then HB0 HH1
    have gbc_1 := gbc.then_ HH1
    have gbp_1 := gbp.then_ HH1
    clear gbc gbp HB0 HH1
    go_wp2_with (first | (refine wpList_row_w (by rfl) 27 _ rfl bc rfl 27 _ gbc_1 ⟨_, Tryz.underlying27⟩ (by kernel_rfl) ?_; simp only [Act.put, List.setIfInBounds_toArray, List.set_cons_succ, List.set_cons_zero]) | (go_at_call 10; (with_reducible refine (HS1.out _ HB1).mono ?_); rintro e w2 ⟨rfl, hbw2⟩))
    go_ret
    exact ⟨rfl, below_then HB1 hbw2⟩
  | true =>
  have HS1 := Lib.hid (fun W (hb : Below w.heap.size w W) => smallc_at c m true hc hs1 W hb)
  obtain ⟨hC, hn⟩ := small_cont hc hs1
  cases hs2 : x.p.small with
  | false =>
    have HS2 := Lib.hid (fun W => smallp_at x.p x.m false hs2 W)
    clear hc hx hs1 hs2 hL hC hn
    go_enter Tryz.func5, Tryz.ntmps5
    go_upto_region 1 with (fail)
    refine name_wp ?_
    intro X0 hX
    have gbc : Blk X0 w.heap.size 27 (coA c m) := by rw [hX]; exact (blk_at (by simp)).alloc _
    have gbp : Blk X0 (w.heap.size + 1) 34 (pL x.p x.m) := by rw [hX]; exact blk_at (by simp)
    have HB0 : Below w.heap.size w X0 := by rw [hX]; (repeat (first | with_reducible assumption | with_reducible exact Below.refl _ _ | with_reducible refine below_drewN ?_ _ | with_reducible refine Below.drew ?_ | with_reducible refine below_alloc ?_ _ | with_reducible refine Below.setCell ?_ (by first | omega | (simp; done) | (simp; omega)) _ | with_reducible refine below_then ?_ (by with_reducible assumption) | (refine below_then (a := World.drew _) ?_ (by with_reducible assumption))))
    clear hX
    obtain ⟨bp, ebp⟩ : ∃ b, w.heap.size + 1 = b := ⟨_, rfl⟩
    obtain ⟨bc, ebc⟩ : ∃ b, w.heap.size = b := ⟨_, rfl⟩
    have lbc : w.heap.size ≤ bc := by omega
    have lbp : w.heap.size ≤ bp := by omega
    have nbcbp : bc ≠ bp := by omega
    rw [ebp] at gbp ⊢
    rw [ebc] at gbc ⊢
    clear ebc ebp
    go_upto_region 2 with ((go_at_call 9; (with_reducible refine (HH.out _ HB0).mono ?_); rintro e w1 ⟨rfl, hbw1⟩))
    have HH1 := hbw1
    have HB1 := below_then HB0 HH1
    have gbc_1 := gbc.then_ HH1
    have gbp_1 := gbp.then_ HH1
    clear gbc gbp HB0 HH1
    go_wp2_with (first | (refine wpList_row_w (by rfl) 27 _ rfl bc rfl 27 _ gbc_1 ⟨_, Tryz.underlying27⟩ (by kernel_rfl) ?_; simp only [Act.put, List.setIfInBounds_toArray, List.set_cons_succ, List.set_cons_zero]) | (go_at_call 10; (with_reducible refine (HS1.out _ HB1).mono ?_); rintro e w2 ⟨rfl, hbw2⟩; have gp2 := gbp_1.then_ hbw2) | (refine wpList_row_w (by rfl) 34 _ rfl bp rfl 34 _ gp2 ⟨_, Tryz.underlying34⟩ (by kernel_rfl) ?_; simp only [Act.put, List.setIfInBounds_toArray, List.set_cons_succ, List.set_cons_zero]) | (go_at_call 11; (with_reducible refine (HS2.out _).mono ?_); rintro e w3 ⟨rfl, hbw3⟩))
    go_ret
    exact ⟨rfl, below_then (below_then HB1 hbw2) hbw3⟩
  | true =>
  have HS2 := Lib.hid (fun W => smallp_at x.p x.m true hs2 W)
  obtain ⟨hP, _, _⟩ := small_patM hx hs2
  clear hc hx hs1 hs2 hL
  by_cases hk : x.p.kind = 1
  · have tk : (x.p.kind == 1) = true := by rw [beq_iff_eq]; exact hk
    clear hk hC hP hn
    go_enter Tryz.func5, Tryz.ntmps5
    go_upto_region 1 with (fail)
    refine name_wp ?_
    intro X0 hX
    have gbc : Blk X0 w.heap.size 27 (coA c m) := by rw [hX]; exact (blk_at (by simp)).alloc _
    have gbp : Blk X0 (w.heap.size + 1) 34 (pL x.p x.m) := by rw [hX]; exact blk_at (by simp)
    have HB0 : Below w.heap.size w X0 := by rw [hX]; (repeat (first | with_reducible assumption | with_reducible exact Below.refl _ _ | with_reducible refine below_drewN ?_ _ | with_reducible refine Below.drew ?_ | with_reducible refine below_alloc ?_ _ | with_reducible refine Below.setCell ?_ (by first | omega | (simp; done) | (simp; omega)) _ | with_reducible refine below_then ?_ (by with_reducible assumption) | (refine below_then (a := World.drew _) ?_ (by with_reducible assumption))))
    clear hX
    obtain ⟨bp, ebp⟩ : ∃ b, w.heap.size + 1 = b := ⟨_, rfl⟩
    obtain ⟨bc, ebc⟩ : ∃ b, w.heap.size = b := ⟨_, rfl⟩
    have lbc : w.heap.size ≤ bc := by omega
    have lbp : w.heap.size ≤ bp := by omega
    have nbcbp : bc ≠ bp := by omega
    rw [ebp] at gbp ⊢
    rw [ebc] at gbc ⊢
    clear ebc ebp
    go_upto_region 2 with ((go_at_call 9; (with_reducible refine (HH.out _ HB0).mono ?_); rintro e w1 ⟨rfl, hbw1⟩))
    have HH1 := hbw1
    have HB1 := below_then HB0 HH1
    have gbc_1 := gbc.then_ HH1
    have gbp_1 := gbp.then_ HH1
    clear gbc gbp HB0 HH1
    go_wp2_with (first | (refine wpList_row_w (by rfl) 27 _ rfl bc rfl 27 _ gbc_1 ⟨_, Tryz.underlying27⟩ (by kernel_rfl) ?_; simp only [Act.put, List.setIfInBounds_toArray, List.set_cons_succ, List.set_cons_zero]) | (go_at_call 10; (with_reducible refine (HS1.out _ HB1).mono ?_); rintro e w2 ⟨rfl, hbw2⟩; have gp2 := gbp_1.then_ hbw2) | (refine wpList_row_w (by rfl) 34 _ rfl bp rfl 34 _ gp2 ⟨_, Tryz.underlying34⟩ (by kernel_rfl) ?_; simp only [Act.put, List.setIfInBounds_toArray, List.set_cons_succ, List.set_cons_zero]) | (go_at_call 11; (with_reducible refine (HS2.out _).mono ?_); rintro e w3 ⟨rfl, hbw3⟩; have k0 : w3.cell? ⟨bp, 0, none⟩ = some (.int .i64 x.p.kind) := (gp2.then_ hbw3).cell 0))
    go_ret
    exact ⟨rfl, below_then (below_then HB1 hbw2) hbw3⟩
  have tk : (x.p.kind == 1) = false := by rw [beq_eq_false_iff_ne]; exact hk
  obtain ⟨C, eC⟩ : ∃ C, c.apC x.p = C := ⟨_, rfl⟩
  by_cases hE : c.apE x.p = 0
  · have hag := again_law hk hE
    rw [← apC_yes hE, eC] at hag
    have HA1 := Lib.hid (fun W (hb : Below w.heap.size w W) => apply_to c C m x.p x.m 0 W (hC.then_ hb) (hP.then_ hb) hE eC)
    have HA2 := Lib.hid (fun W (mc : Cm) (h : Cont W C mc) (hb : Below w.heap.size w W) => apply_to C C mc x.p x.m 0 W h (hP.then_ hb) hag.1 (by rw [apC_yes hag.1, hag.2]))
    have HQ := Lib.hid (fun W (ma mb : Cm) (h1 : Cont W C ma) (h2 : Cont W C mb) => scon_to C C ma mb true W h1 h2 (by simp))
    clear hk hE eC hag hC hP hn
    go_enter Tryz.func5, Tryz.ntmps5
    go_upto_region 1 with (fail)
    refine name_wp ?_
    intro X0 hX
    have gbc : Blk X0 w.heap.size 27 (coA c m) := by rw [hX]; exact (blk_at (by simp)).alloc _
    have gbp : Blk X0 (w.heap.size + 1) 34 (pL x.p x.m) := by rw [hX]; exact blk_at (by simp)
    have HB0 : Below w.heap.size w X0 := by rw [hX]; (repeat (first | with_reducible assumption | with_reducible exact Below.refl _ _ | with_reducible refine below_drewN ?_ _ | with_reducible refine Below.drew ?_ | with_reducible refine below_alloc ?_ _ | with_reducible refine Below.setCell ?_ (by first | omega | (simp; done) | (simp; omega)) _ | with_reducible refine below_then ?_ (by with_reducible assumption) | (refine below_then (a := World.drew _) ?_ (by with_reducible assumption))))
    clear hX
    obtain ⟨bp, ebp⟩ : ∃ b, w.heap.size + 1 = b := ⟨_, rfl⟩
    obtain ⟨bc, ebc⟩ : ∃ b, w.heap.size = b := ⟨_, rfl⟩
    have lbc : w.heap.size ≤ bc := by omega
    have lbp : w.heap.size ≤ bp := by omega
    have nbcbp : bc ≠ bp := by omega
    rw [ebp] at gbp ⊢
    rw [ebc] at gbc ⊢
    clear ebc ebp
    go_upto_region 2 with ((go_at_call 9; (with_reducible refine (HH.out _ HB0).mono ?_); rintro e w1 ⟨rfl, hbw1⟩))
    have HH1 := hbw1
    have HB1 := below_then HB0 HH1
    have gbc_1 := gbc.then_ HH1
    have gbp_1 := gbp.then_ HH1
    clear gbc gbp HB0 HH1
    go_upto_region 4 with (first | (refine wpList_row_w (by rfl) 27 _ rfl bc rfl 27 _ gbc_1 ⟨_, Tryz.underlying27⟩ (by kernel_rfl) ?_; simp only [Act.put, List.setIfInBounds_toArray, List.set_cons_succ, List.set_cons_zero]) | (go_at_call 10; (with_reducible refine (HS1.out _ HB1).mono ?_); rintro e w2 ⟨rfl, hbw2⟩; have gp2 := gbp_1.then_ hbw2) | (refine wpList_row_w (by rfl) 34 _ rfl bp rfl 34 _ gp2 ⟨_, Tryz.underlying34⟩ (by kernel_rfl) ?_; simp only [Act.put, List.setIfInBounds_toArray, List.set_cons_succ, List.set_cons_zero]) | (go_at_call 11; (with_reducible refine (HS2.out _).mono ?_); rintro e w3 ⟨rfl, hbw3⟩; have k0 : w3.cell? ⟨bp, 0, none⟩ = some (.int .i64 x.p.kind) := (gp2.then_ hbw3).cell 0))
    have HH2 := below_then hbw2 hbw3
    have HB2 := below_then HB1 HH2
    have gbc_2 := gbc_1.then_ HH2
    have gbp_2 := gbp_1.then_ HH2
    clear gbc_1 gbp_1 HB1 HH2
    clear gp2 k0
    go_upto_region 5 with (first | (refine wpList_row_w (by rfl) 27 _ rfl bc rfl 27 _ gbc_2 ⟨_, Tryz.underlying27⟩ (by kernel_rfl) ?_; simp only [Act.put, List.setIfInBounds_toArray, List.set_cons_succ, List.set_cons_zero]) | (refine wpList_row_w (by rfl) 34 _ rfl bp rfl 34 _ gbp_2 ⟨_, Tryz.underlying34⟩ (by kernel_rfl) ?_; simp only [Act.put, List.setIfInBounds_toArray, List.set_cons_succ, List.set_cons_zero]) | (go_at_call 12; (with_reducible refine (HA1.out _ HB2).mono ?_); rintro e w4 ⟨⟨ma, rfl, hca0⟩, hbw4⟩) | (refine wpList_store_all rfl 27 _ _ rfl w4.heap.size 27 [] coZ.toList [] (coA C ma).toList rfl rfl (Blk.new _ _ _) rfl (by kernel_rfl) (by simp [Value.oneCell']) ?_; intro u4 gbu4 Uu4))
    have hsu4 : Below w4.heap.size w4 u4 := (wa1 _ _).trans (Uu4.b _ (Nat.le_refl _))
    have HH3 := below_then hbw4 hsu4
    have HB3 := below_then HB2 HH3
    have gbc_3 := gbc_2.then_ HH3
    have gbp_3 := gbp_2.then_ HH3
    clear gbc_2 gbp_2 HB2 HH3
    have hca := hca0.then_ hsu4
    obtain ⟨bu4, ebu4⟩ : ∃ b, w4.heap.size = b := ⟨_, rfl⟩
    rw [ebu4] at gbu4 ⊢
    clear ebu4 Uu4 hsu4 hbw4 hca0
    go_upto_region 8 with (first | (refine wpList_row_w (by rfl) 27 _ rfl bu4 rfl 27 _ gbu4 ⟨_, Tryz.underlying27⟩ (by kernel_rfl) ?_; simp only [Act.put, List.setIfInBounds_toArray, List.set_cons_succ, List.set_cons_zero]) | (refine wpList_row_w (by rfl) 34 _ rfl bp rfl 34 _ gbp_3 ⟨_, Tryz.underlying34⟩ (by kernel_rfl) ?_; simp only [Act.put, List.setIfInBounds_toArray, List.set_cons_succ, List.set_cons_zero]) | (go_at_call 12; (with_reducible refine (HA2.out _ ma hca HB3).mono ?_); rintro e w5 ⟨⟨mb, rfl, hcb0⟩, hbw5⟩) | (refine wpList_store_all rfl 27 _ _ rfl w5.heap.size 27 [] coZ.toList [] (coA C mb).toList rfl rfl (Blk.new _ _ _) rfl (by kernel_rfl) (by simp [Value.oneCell']) ?_; intro u5 gbu5 Uu5))
    have hsu5 : Below w5.heap.size w5 u5 := (wa1 _ _).trans (Uu5.b _ (Nat.le_refl _))
    have HH4 := below_then hbw5 hsu5
    have HB4 := below_then HB3 HH4
    have gbc_4 := gbc_3.then_ HH4
    have gbp_4 := gbp_3.then_ HH4
    have gbu4_4 := gbu4.then_ HH4
    have hca_4 := hca.then_ HH4
    clear gbc_3 gbp_3 gbu4 hca HB3 HH4
    have hcb := hcb0.then_ hsu5
    obtain ⟨bu5, ebu5⟩ : ∃ b, w5.heap.size = b := ⟨_, rfl⟩
    rw [ebu5] at gbu5 ⊢
    clear ebu5 Uu5 hsu5 hbw5 hcb0
    go_wp2_with (first | (refine wpList_row_w (by rfl) 27 _ rfl bu4 rfl 27 _ gbu4_4 ⟨_, Tryz.underlying27⟩ (by kernel_rfl) ?_; simp only [Act.put, List.setIfInBounds_toArray, List.set_cons_succ, List.set_cons_zero]) | (refine wpList_row_w (by rfl) 27 _ rfl bu5 rfl 27 _ gbu5 ⟨_, Tryz.underlying27⟩ (by kernel_rfl) ?_; simp only [Act.put, List.setIfInBounds_toArray, List.set_cons_succ, List.set_cons_zero]) | (go_at_call 15; (with_reducible refine (HQ.out _ ma mb hca_4 hcb).mono ?_); rintro e w6 ⟨rfl, hbw6⟩))
    go_ret
    exact ⟨rfl, below_then HB4 hbw6⟩
  · obtain ⟨E, eE⟩ : ∃ E, c.apE x.p = E := ⟨_, rfl⟩
    have HA1 := Lib.hid (fun W (hb : Below w.heap.size w W) => apply_to c C m x.p x.m E W (hC.then_ hb) (hP.then_ hb) eE eC)
    rw [eE] at hE
    have tE : (E != 0) = true := by rw [bne_iff_ne]; exact hE
    clear hk hE eE eC hC hP hn
    go_enter Tryz.func5, Tryz.ntmps5
    go_upto_region 1 with (fail)
    refine name_wp ?_
    intro X0 hX
    have gbc : Blk X0 w.heap.size 27 (coA c m) := by rw [hX]; exact (blk_at (by simp)).alloc _
    have gbp : Blk X0 (w.heap.size + 1) 34 (pL x.p x.m) := by rw [hX]; exact blk_at (by simp)
    have HB0 : Below w.heap.size w X0 := by rw [hX]; (repeat (first | with_reducible assumption | with_reducible exact Below.refl _ _ | with_reducible refine below_drewN ?_ _ | with_reducible refine Below.drew ?_ | with_reducible refine below_alloc ?_ _ | with_reducible refine Below.setCell ?_ (by first | omega | (simp; done) | (simp; omega)) _ | with_reducible refine below_then ?_ (by with_reducible assumption) | (refine below_then (a := World.drew _) ?_ (by with_reducible assumption))))
    clear hX
    obtain ⟨bp, ebp⟩ : ∃ b, w.heap.size + 1 = b := ⟨_, rfl⟩
    obtain ⟨bc, ebc⟩ : ∃ b, w.heap.size = b := ⟨_, rfl⟩
    have lbc : w.heap.size ≤ bc := by omega
    have lbp : w.heap.size ≤ bp := by omega
    have nbcbp : bc ≠ bp := by omega
    rw [ebp] at gbp ⊢
    rw [ebc] at gbc ⊢
    clear ebc ebp
    go_upto_region 2 with ((go_at_call 9; (with_reducible refine (HH.out _ HB0).mono ?_); rintro e w1 ⟨rfl, hbw1⟩))
    have HH1 := hbw1
    have HB1 := below_then HB0 HH1
    have gbc_1 := gbc.then_ HH1
    have gbp_1 := gbp.then_ HH1
    clear gbc gbp HB0 HH1
    go_upto_region 4 with (first | (refine wpList_row_w (by rfl) 27 _ rfl bc rfl 27 _ gbc_1 ⟨_, Tryz.underlying27⟩ (by kernel_rfl) ?_; simp only [Act.put, List.setIfInBounds_toArray, List.set_cons_succ, List.set_cons_zero]) | (go_at_call 10; (with_reducible refine (HS1.out _ HB1).mono ?_); rintro e w2 ⟨rfl, hbw2⟩; have gp2 := gbp_1.then_ hbw2) | (refine wpList_row_w (by rfl) 34 _ rfl bp rfl 34 _ gp2 ⟨_, Tryz.underlying34⟩ (by kernel_rfl) ?_; simp only [Act.put, List.setIfInBounds_toArray, List.set_cons_succ, List.set_cons_zero]) | (go_at_call 11; (with_reducible refine (HS2.out _).mono ?_); rintro e w3 ⟨rfl, hbw3⟩; have k0 : w3.cell? ⟨bp, 0, none⟩ = some (.int .i64 x.p.kind) := (gp2.then_ hbw3).cell 0))
    have HH2 := below_then hbw2 hbw3
    have HB2 := below_then HB1 HH2
    have gbc_2 := gbc_1.then_ HH2
    have gbp_2 := gbp_1.then_ HH2
    clear gbc_1 gbp_1 HB1 HH2
    clear gp2 k0
    go_upto_region 5 with (first | (refine wpList_row_w (by rfl) 27 _ rfl bc rfl 27 _ gbc_2 ⟨_, Tryz.underlying27⟩ (by kernel_rfl) ?_; simp only [Act.put, List.setIfInBounds_toArray, List.set_cons_succ, List.set_cons_zero]) | (refine wpList_row_w (by rfl) 34 _ rfl bp rfl 34 _ gbp_2 ⟨_, Tryz.underlying34⟩ (by kernel_rfl) ?_; simp only [Act.put, List.setIfInBounds_toArray, List.set_cons_succ, List.set_cons_zero]) | (go_at_call 12; (with_reducible refine (HA1.out _ HB2).mono ?_); rintro e w4 ⟨⟨ma, rfl, hca0⟩, hbw4⟩) | (refine wpList_store_all rfl 27 _ _ rfl w4.heap.size 27 [] coZ.toList [] (coA C ma).toList rfl rfl (Blk.new _ _ _) rfl (by kernel_rfl) (by simp [Value.oneCell']) ?_; intro u4 gbu4 Uu4))
    have hsu4 : Below w4.heap.size w4 u4 := (wa1 _ _).trans (Uu4.b _ (Nat.le_refl _))
    have HH3 := below_then hbw4 hsu4
    have HB3 := below_then HB2 HH3
    have gbc_3 := gbc_2.then_ HH3
    have gbp_3 := gbp_2.then_ HH3
    clear gbc_2 gbp_2 HB2 HH3
    have hca := hca0.then_ hsu4
    obtain ⟨bu4, ebu4⟩ : ∃ b, w4.heap.size = b := ⟨_, rfl⟩
    rw [ebu4] at gbu4 ⊢
    clear ebu4 Uu4 hsu4 hbw4 hca0
    go_wp2_with (fail)
    go_ret
    exact ⟨rfl, HB3⟩
end Go.Proofs.YtplommmegkdhdaaGreatDoor
