/- The walk of PatchLocal. -/
import Derived.Test.YtplommmegkdhdaaGreatDoorMb27
namespace Go.Proofs.YtplommmegkdhdaaGreatDoor
open Go.RowKit

theorem cont_mix {w : World} {c C : Con} {m ma : Cm} (h : Cont w c m) (ha : Cont w C ma) : Cont w (c.wc C.cl) ⟨m.h, m.hc, m.u, m.uc, m.a, m.ac, ma.k, ma.kc, m.o, m.oc, ma.ks⟩ :=
  ⟨h.h, h.u, h.a, ha.k, h.o, ha.e, ha.t, h.bu, h.ba, h.nh, h.nu, h.na, ha.nk, h.no, h.ch, h.cu, h.ca, ha.ck, h.co⟩
set_option maxRecDepth 100000 in
set_option maxHeartbeats 6400000 in
theorem local_any (c : Con) (m : Cm) (x : Pk) (w : World) (hL : Lw w) (hc : ContW w c m) (hx : fitP w x) :
    Calls Tryz.prog 3 #[.agg (coA c m), .agg (pL x.p x.m)] w fun e w' => e = .returned (.bool true) ∧ Below w.heap.size w w' := by
  have HH := Lib.hid (fun W (hb : Below w.heap.size w W) => head_any W (hL.below hb))
  cases hs1 : c.small 40 with
  | false =>
    have HS1 := Lib.hid (fun W (hb : Below w.heap.size w W) => smallc_at c m false hc hs1 W hb)
    clear hc hx hs1 hL
    go_enter Tryz.func3, Tryz.ntmps3
    go_upto_region 1 with (fail)
    refine name_wp ?_
    intro X0 hX
    have gbc : Blk X0 w.heap.size 27 (coA c m) := by rw [hX]; exact (blk_at (by simp)).alloc _
    have gbp : Blk X0 (w.heap.size + 1) 34 (pL x.p x.m) := by rw [hX]; exact blk_at (by simp)
    have HB0 : Below w.heap.size w X0 := by rw [hX]; (repeat (first | with_reducible assumption | with_reducible exact Below.refl _ _ | with_reducible refine below_drewN ?_ _ | with_reducible refine Below.drew ?_ | with_reducible refine below_alloc ?_ _ | with_reducible refine Below.setCell ?_ (by first | omega | (simp; done) | (simp; omega)) _ | with_reducible refine below_then ?_ (by with_reducible assumption) | (refine below_then (a := World.drew _) ?_ (by with_reducible assumption))))
    clear hX
    obtain ⟨bp, ebp⟩ : ∃ b, w.heap.size + 1 = b := ⟨_, rfl⟩
    obtain ⟨bc, ebc⟩ : ∃ b, w.heap.size = b := ⟨_, rfl⟩
    have lbc : w.heap.size ≤ bc := by omega
    have lbp : w.heap.size ≤ bp := by omega
    have nbcbp : bc ≠ bp := by omega
    rw [ebp] at gbp ⊢
    rw [ebc] at gbc ⊢
    clear ebc ebp
    go_upto_region 2 with ((go_at_call 9; (with_reducible refine (HH.out _ HB0).mono ?_); rintro e w1 ⟨rfl, hbw1⟩))
    have HH1 := hbw1
    have HB1 := below_then HB0 HH1
    have gbc_1 := gbc.then_ HH1
    have gbp_1 := gbp.then_ HH1
    clear gbc gbp HB0 HH1
    go_wp2_with (first | (refine wpList_row_w (by rfl) 27 _ rfl bc rfl 27 _ gbc_1 ⟨_, Tryz.underlying27⟩ (by kernel_rfl) ?_; simp only [Act.put, List.setIfInBounds_toArray, List.set_cons_succ, List.set_cons_zero]) | (go_at_call 10; (with_reducible refine (HS1.out _ HB1).mono ?_); rintro e w2 ⟨rfl, hbw2⟩))
    go_ret
    exact ⟨rfl, below_then HB1 hbw2⟩
  | true =>
  have HS1 := Lib.hid (fun W (hb : Below w.heap.size w W) => smallc_at c m true hc hs1 W hb)
  obtain ⟨hC, hn⟩ := small_cont hc hs1
  cases hs2 : x.p.small with
  | false =>
    have HS2 := Lib.hid (fun W => smallp_at x.p x.m false hs2 W)
    clear hc hx hs1 hs2 hL hC hn
    go_enter Tryz.func3, Tryz.ntmps3
    go_upto_region 1 with (fail)
    refine name_wp ?_
    intro X0 hX
    have gbc : Blk X0 w.heap.size 27 (coA c m) := by rw [hX]; exact (blk_at (by simp)).alloc _
    have gbp : Blk X0 (w.heap.size + 1) 34 (pL x.p x.m) := by rw [hX]; exact blk_at (by simp)
    have HB0 : Below w.heap.size w X0 := by rw [hX]; (repeat (first | with_reducible assumption | with_reducible exact Below.refl _ _ | with_reducible refine below_drewN ?_ _ | with_reducible refine Below.drew ?_ | with_reducible refine below_alloc ?_ _ | with_reducible refine Below.setCell ?_ (by first | omega | (simp; done) | (simp; omega)) _ | with_reducible refine below_then ?_ (by with_reducible assumption) | (refine below_then (a := World.drew _) ?_ (by with_reducible assumption))))
    clear hX
    obtain ⟨bp, ebp⟩ : ∃ b, w.heap.size + 1 = b := ⟨_, rfl⟩
    obtain ⟨bc, ebc⟩ : ∃ b, w.heap.size = b := ⟨_, rfl⟩
    have lbc : w.heap.size ≤ bc := by omega
    have lbp : w.heap.size ≤ bp := by omega
    have nbcbp : bc ≠ bp := by omega
    rw [ebp] at gbp ⊢
    rw [ebc] at gbc ⊢
    clear ebc ebp
    go_upto_region 2 with ((go_at_call 9; (with_reducible refine (HH.out _ HB0).mono ?_); rintro e w1 ⟨rfl, hbw1⟩))
    have HH1 := hbw1
    have HB1 := below_then HB0 HH1
    have gbc_1 := gbc.then_ HH1
    have gbp_1 := gbp.then_ HH1
    clear gbc gbp HB0 HH1
    go_wp2_with (first | (refine wpList_row_w (by rfl) 27 _ rfl bc rfl 27 _ gbc_1 ⟨_, Tryz.underlying27⟩ (by kernel_rfl) ?_; simp only [Act.put, List.setIfInBounds_toArray, List.set_cons_succ, List.set_cons_zero]) | (go_at_call 10; (with_reducible refine (HS1.out _ HB1).mono ?_); rintro e w2 ⟨rfl, hbw2⟩; have gp2 := gbp_1.then_ hbw2) | (refine wpList_row_w (by rfl) 34 _ rfl bp rfl 34 _ gp2 ⟨_, Tryz.underlying34⟩ (by kernel_rfl) ?_; simp only [Act.put, List.setIfInBounds_toArray, List.set_cons_succ, List.set_cons_zero]) | (go_at_call 11; (with_reducible refine (HS2.out _).mono ?_); rintro e w3 ⟨rfl, hbw3⟩))
    go_ret
    exact ⟨rfl, below_then (below_then HB1 hbw2) hbw3⟩
  | true =>
  have HS2 := Lib.hid (fun W => smallp_at x.p x.m true hs2 W)
  obtain ⟨hP, hp1, hp2⟩ := small_patM hx hs2
  clear hc hx hs1 hs2 hL
  obtain ⟨E, eE⟩ : ∃ E, c.apE x.p = E := ⟨_, rfl⟩
  obtain ⟨C1, eC⟩ : ∃ C, c.apC x.p = C := ⟨_, rfl⟩
  have HA1 := Lib.hid (fun W (hb : Below w.heap.size w W) => apply_to c C1 m x.p x.m E W (hC.then_ hb) (hP.then_ hb) eE eC)
  have HT := Lib.hid (fun W (hb : Below w.heap.size w W) => touches_to c m x.p x.m E W (hC.then_ hb) (hP.then_ hb) hp1 hp2 eE)
  by_cases hE : E = 0
  case neg =>
    have tE : (E != 0) = true := by rw [bne_iff_ne]; exact hE
    have tEE : (E == E) = true := beq_self_eq_true E
    have hz : C1 = Con.zero := by rw [← eC]; exact apC_not (by rw [eE]; exact hE)
    subst hz
    clear hE eE eC hC hP hp1 hp2 hn
    go_enter Tryz.func3, Tryz.ntmps3
    go_upto_region 1 with (fail)
    refine name_wp ?_
    intro X0 hX
    have gbc : Blk X0 w.heap.size 27 (coA c m) := by rw [hX]; exact (blk_at (by simp)).alloc _
    have gbp : Blk X0 (w.heap.size + 1) 34 (pL x.p x.m) := by rw [hX]; exact blk_at (by simp)
    have HB0 : Below w.heap.size w X0 := by rw [hX]; (repeat (first | with_reducible assumption | with_reducible exact Below.refl _ _ | with_reducible refine below_drewN ?_ _ | with_reducible refine Below.drew ?_ | with_reducible refine below_alloc ?_ _ | with_reducible refine Below.setCell ?_ (by first | omega | (simp; done) | (simp; omega)) _ | with_reducible refine below_then ?_ (by with_reducible assumption) | (refine below_then (a := World.drew _) ?_ (by with_reducible assumption))))
    clear hX
    obtain ⟨bp, ebp⟩ : ∃ b, w.heap.size + 1 = b := ⟨_, rfl⟩
    obtain ⟨bc, ebc⟩ : ∃ b, w.heap.size = b := ⟨_, rfl⟩
    have lbc : w.heap.size ≤ bc := by omega
    have lbp : w.heap.size ≤ bp := by omega
    have nbcbp : bc ≠ bp := by omega
    rw [ebp] at gbp ⊢
    rw [ebc] at gbc ⊢
    clear ebc ebp
    go_upto_region 2 with ((go_at_call 9; (with_reducible refine (HH.out _ HB0).mono ?_); rintro e w1 ⟨rfl, hbw1⟩))
    have HH1 := hbw1
    have HB1 := below_then HB0 HH1
    have gbc_1 := gbc.then_ HH1
    have gbp_1 := gbp.then_ HH1
    clear gbc gbp HB0 HH1
    go_upto_region 4 with (first | (refine wpList_row_w (by rfl) 27 _ rfl bc rfl 27 _ gbc_1 ⟨_, Tryz.underlying27⟩ (by kernel_rfl) ?_; simp only [Act.put, List.setIfInBounds_toArray, List.set_cons_succ, List.set_cons_zero]) | (go_at_call 10; (with_reducible refine (HS1.out _ HB1).mono ?_); rintro e w2 ⟨rfl, hbw2⟩; have gp2 := gbp_1.then_ hbw2) | (refine wpList_row_w (by rfl) 34 _ rfl bp rfl 34 _ gp2 ⟨_, Tryz.underlying34⟩ (by kernel_rfl) ?_; simp only [Act.put, List.setIfInBounds_toArray, List.set_cons_succ, List.set_cons_zero]) | (go_at_call 11; (with_reducible refine (HS2.out _).mono ?_); rintro e w3 ⟨rfl, hbw3⟩))
    have HH2 := below_then hbw2 hbw3
    have HB2 := below_then HB1 HH2
    have gbc_2 := gbc_1.then_ HH2
    have gbp_2 := gbp_1.then_ HH2
    clear gbc_1 gbp_1 HB1 HH2
    clear gp2
    go_upto_region 5 with (first | (refine wpList_row_w (by rfl) 27 _ rfl bc rfl 27 _ gbc_2 ⟨_, Tryz.underlying27⟩ (by kernel_rfl) ?_; simp only [Act.put, List.setIfInBounds_toArray, List.set_cons_succ, List.set_cons_zero]) | (refine wpList_row_w (by rfl) 34 _ rfl bp rfl 34 _ gbp_2 ⟨_, Tryz.underlying34⟩ (by kernel_rfl) ?_; simp only [Act.put, List.setIfInBounds_toArray, List.set_cons_succ, List.set_cons_zero]) | (go_at_call 12; (with_reducible refine (HA1.out _ HB2).mono ?_); rintro e w4 ⟨⟨ma, rfl, hca0⟩, hbw4⟩) | (refine wpList_store_all rfl 27 _ _ rfl w4.heap.size 27 [] coZ.toList [] (coA Con.zero ma).toList rfl rfl (Blk.new _ _ _) rfl (by kernel_rfl) (by simp [Value.oneCell']) ?_; intro u4 gbu4 Uu4))
    have hsu4 : Below w4.heap.size w4 u4 := (wa1 _ _).trans (Uu4.b _ (Nat.le_refl _))
    have HH3 := below_then hbw4 hsu4
    have HB3 := below_then HB2 HH3
    have gbc_3 := gbc_2.then_ HH3
    have gbp_3 := gbp_2.then_ HH3
    clear gbc_2 gbp_2 HB2 HH3
    have hca := hca0.then_ hsu4
    obtain ⟨bu4, ebu4⟩ : ∃ b, w4.heap.size = b := ⟨_, rfl⟩
    rw [ebu4] at gbu4 ⊢
    clear ebu4 Uu4 hsu4 hbw4 hca0
    go_upto_region 6 with (first | (refine wpList_row_w (by rfl) 27 _ rfl bc rfl 27 _ gbc_3 ⟨_, Tryz.underlying27⟩ (by kernel_rfl) ?_; simp only [Act.put, List.setIfInBounds_toArray, List.set_cons_succ, List.set_cons_zero]) | (refine wpList_row_w (by rfl) 34 _ rfl bp rfl 34 _ gbp_3 ⟨_, Tryz.underlying34⟩ (by kernel_rfl) ?_; simp only [Act.put, List.setIfInBounds_toArray, List.set_cons_succ, List.set_cons_zero]) | (go_at_call 13; (with_reducible refine (HT.out _ HB3).mono ?_); rintro e w5 ⟨⟨A, kl, l, rfl, hls, hln, hl0, hl1⟩, hbw5⟩))
    have HH4 := hbw5
    have HB4 := below_then HB3 HH4
    have gbc_4 := gbc_3.then_ HH4
    have gbp_4 := gbp_3.then_ HH4
    have gbu4_4 := gbu4.then_ HH4
    have hca_4 := hca.then_ HH4
    clear gbc_3 gbp_3 gbu4 hca HB3 HH4
    have a4 : w5.cell? ⟨bu4, 4, none⟩ = some (.slice ma.k 0 ma.kc) := gbu4_4.cell 4
    go_wp2_with (fail)
    go_ret
    exact ⟨rfl, HB4⟩
  subst hE
  have HCC := Lib.hid hC
  have hap := apC_yes eE
  rw [eC] at hap
  have HD : Hid (c.wc C1.cl = C1) := by unfold Hid; rw [hap]; rfl
  have HLO : Hid (∀ i, i < c.cl.length → (i : Int) ∉ c.tch x.p → C1.cl[i]? = c.cl[i]?) := fun i hi hn => by rw [hap]; exact local_same eE hi hn
  have HTM := Lib.hid (tch_mem eE)
  obtain ⟨LC, eLC⟩ : ∃ n, c.cl.length = n := ⟨_, rfl⟩
  have HLC := Lib.hid eLC
  have hLC : LC ≤ 40 := by omega
  by_cases hk : x.p.kind = 1
  · have tk : (x.p.kind == 1) = true := by rw [beq_iff_eq]; exact hk
    have HK := Lib.hid hk
    have HLA : Hid (C1.cl.length = LC + 1) := by unfold Hid; rw [hap, ← eLC]; exact (do_len _).trans (if_pos hk)
    clear hk hap eE eC eLC hC hP hp1 hp2 hn
    go_enter Tryz.func3, Tryz.ntmps3
    go_upto_region 1 with (fail)
    refine name_wp ?_
    intro X0 hX
    have gbc : Blk X0 w.heap.size 27 (coA c m) := by rw [hX]; exact (blk_at (by simp)).alloc _
    have gbp : Blk X0 (w.heap.size + 1) 34 (pL x.p x.m) := by rw [hX]; exact blk_at (by simp)
    have HB0 : Below w.heap.size w X0 := by rw [hX]; (repeat (first | with_reducible assumption | with_reducible exact Below.refl _ _ | with_reducible refine below_drewN ?_ _ | with_reducible refine Below.drew ?_ | with_reducible refine below_alloc ?_ _ | with_reducible refine Below.setCell ?_ (by first | omega | (simp; done) | (simp; omega)) _ | with_reducible refine below_then ?_ (by with_reducible assumption) | (refine below_then (a := World.drew _) ?_ (by with_reducible assumption))))
    clear hX
    obtain ⟨bp, ebp⟩ : ∃ b, w.heap.size + 1 = b := ⟨_, rfl⟩
    obtain ⟨bc, ebc⟩ : ∃ b, w.heap.size = b := ⟨_, rfl⟩
    have lbc : w.heap.size ≤ bc := by omega
    have lbp : w.heap.size ≤ bp := by omega
    have nbcbp : bc ≠ bp := by omega
    rw [ebp] at gbp ⊢
    rw [ebc] at gbc ⊢
    clear ebc ebp
    go_upto_region 2 with ((go_at_call 9; (with_reducible refine (HH.out _ HB0).mono ?_); rintro e w1 ⟨rfl, hbw1⟩))
    have HH1 := hbw1
    have HB1 := below_then HB0 HH1
    have gbc_1 := gbc.then_ HH1
    have gbp_1 := gbp.then_ HH1
    clear gbc gbp HB0 HH1
    go_upto_region 4 with (first | (refine wpList_row_w (by rfl) 27 _ rfl bc rfl 27 _ gbc_1 ⟨_, Tryz.underlying27⟩ (by kernel_rfl) ?_; simp only [Act.put, List.setIfInBounds_toArray, List.set_cons_succ, List.set_cons_zero]) | (go_at_call 10; (with_reducible refine (HS1.out _ HB1).mono ?_); rintro e w2 ⟨rfl, hbw2⟩; have gp2 := gbp_1.then_ hbw2) | (refine wpList_row_w (by rfl) 34 _ rfl bp rfl 34 _ gp2 ⟨_, Tryz.underlying34⟩ (by kernel_rfl) ?_; simp only [Act.put, List.setIfInBounds_toArray, List.set_cons_succ, List.set_cons_zero]) | (go_at_call 11; (with_reducible refine (HS2.out _).mono ?_); rintro e w3 ⟨rfl, hbw3⟩))
    have HH2 := below_then hbw2 hbw3
    have HB2 := below_then HB1 HH2
    have gbc_2 := gbc_1.then_ HH2
    have gbp_2 := gbp_1.then_ HH2
    clear gbc_1 gbp_1 HB1 HH2
    clear gp2
    go_upto_region 5 with (first | (refine wpList_row_w (by rfl) 27 _ rfl bc rfl 27 _ gbc_2 ⟨_, Tryz.underlying27⟩ (by kernel_rfl) ?_; simp only [Act.put, List.setIfInBounds_toArray, List.set_cons_succ, List.set_cons_zero]) | (refine wpList_row_w (by rfl) 34 _ rfl bp rfl 34 _ gbp_2 ⟨_, Tryz.underlying34⟩ (by kernel_rfl) ?_; simp only [Act.put, List.setIfInBounds_toArray, List.set_cons_succ, List.set_cons_zero]) | (go_at_call 12; (with_reducible refine (HA1.out _ HB2).mono ?_); rintro e w4 ⟨⟨ma, rfl, hca0⟩, hbw4⟩) | (refine wpList_store_all rfl 27 _ _ rfl w4.heap.size 27 [] coZ.toList [] (coA C1 ma).toList rfl rfl (Blk.new _ _ _) rfl (by kernel_rfl) (by simp [Value.oneCell']) ?_; intro u4 gbu4 Uu4))
    have hsu4 : Below w4.heap.size w4 u4 := (wa1 _ _).trans (Uu4.b _ (Nat.le_refl _))
    have HH3 := below_then hbw4 hsu4
    have HB3 := below_then HB2 HH3
    have gbc_3 := gbc_2.then_ HH3
    have gbp_3 := gbp_2.then_ HH3
    clear gbc_2 gbp_2 HB2 HH3
    have hca := hca0.then_ hsu4
    obtain ⟨bu4, ebu4⟩ : ∃ b, w4.heap.size = b := ⟨_, rfl⟩
    rw [ebu4] at gbu4 ⊢
    clear ebu4 Uu4 hsu4 hbw4 hca0
    go_upto_region 6 with (first | (refine wpList_row_w (by rfl) 27 _ rfl bc rfl 27 _ gbc_3 ⟨_, Tryz.underlying27⟩ (by kernel_rfl) ?_; simp only [Act.put, List.setIfInBounds_toArray, List.set_cons_succ, List.set_cons_zero]) | (refine wpList_row_w (by rfl) 34 _ rfl bp rfl 34 _ gbp_3 ⟨_, Tryz.underlying34⟩ (by kernel_rfl) ?_; simp only [Act.put, List.setIfInBounds_toArray, List.set_cons_succ, List.set_cons_zero]) | (go_at_call 13; (with_reducible refine (HT.out _ HB3).mono ?_); rintro e w5 ⟨⟨A, kl, l, rfl, hls, hln, hl0, hl1⟩, hbw5⟩))
    have HH4 := hbw5
    have HB4 := below_then HB3 HH4
    have gbc_4 := gbc_3.then_ HH4
    have gbp_4 := gbp_3.then_ HH4
    have gbu4_4 := gbu4.then_ HH4
    have hca_4 := hca.then_ HH4
    clear gbc_3 gbp_3 gbu4 hca HB3 HH4
    obtain ⟨hmem, hsrt⟩ := hl0 (by trivial)
    have HMEM := Lib.hid hmem
    have HSRT := Lib.hid hsrt
    obtain ⟨nl, enl⟩ : ∃ n, l.length = n := ⟨_, rfl⟩
    rw [enl] at hln ⊢
    have HNL := Lib.hid enl
    have HLS := Lib.hid hls
    clear hl0 hl1 hmem hsrt enl hls
    have k0 : w5.cell? ⟨bp, 0, none⟩ = some (.int .i64 x.p.kind) := gbp_4.cell 0
    have a4 : w5.cell? ⟨bu4, 4, none⟩ = some (.slice ma.k (LC + 1) ma.kc) := by rw [← HLA.out]; exact gbu4_4.cell 4
    have c4 : w5.cell? ⟨bc, 4, none⟩ = some (.slice m.k LC m.kc) := by rw [← HLC.out]; exact gbc_4.cell 4
    have hwl := wrap_small (n := LC) (by omega)
    go_upto_region 15 with (fail)
    clear k0 a4 c4
    go_loopw [11, 12] (fun a y WR => ∃ (i at_ : Nat), i ≤ LC ∧ at_ ≤ 1000000 ∧ a = .int .i64 at_ ∧ y = .int .i64 i ∧ Hid (Bef l i at_) ∧ Hid (Below w5.heap.size w5 WR)) (fun _ y _ => 2000000 - (intOf y).toNat)
    case atStart => exact ⟨0, 0, by omega, by omega, rfl, rfl, Bef.zero (fun y hy => (HTM.out y ((HMEM.out y).1 hy)).1), Below.refl _ _⟩
    case round =>
      obtain ⟨i, at_, hi', hat, rfl, rfl, HBF, HB⟩ := hrel
      have c4 : wr.cell? ⟨bc, 4, none⟩ = some (.slice m.k LC m.kc) := by rw [← HLC.out]; exact (gbc_4.then_ HB.out).cell 4
      have a4 : wr.cell? ⟨bu4, 4, none⟩ = some (.slice ma.k (LC + 1) ma.kc) := by rw [← HLA.out]; exact (gbu4_4.then_ HB.out).cell 4
      have hwi := wrap_small (n := i) (by omega)
      have hwa := wrap_small (n := at_) hat
      by_cases hlt : i < LC
      · have tn : decide ((i : Int) < (LC : Int)) = true := decide_eq_true (by omega)
        by_cases hh : l[at_]? = some (i : Int)
        · have hal := (List.getElem?_eq_some_iff.1 hh).1
          rw [HNL.out] at hal
          obtain ⟨b1, o1, eA1, _, hc1⟩ := segAt ((HLS.out.below HB.out).more HB.out.size) hh
          have cl1 : wr.cell? ⟨b1, o1 + at_, none⟩ = some (.int .i64 (i : Int)) := by simpa using hc1 0 _ rfl
          have hix := fun W => idx_at (t := 22) (size := 1) (cap := kl) (len := nl) (k := at_) eA1 hal (by kernel_rfl) (fun W => by kernel_rfl) W
          have ta : decide ((at_ : Int) < (nl : Int)) = true := decide_eq_true (by omega)
          have ta' : decide (at_ < nl) = true := decide_eq_true hal
          have tv : ((i : Int) == (i : Int)) = true := beq_self_eq_true _
          have HHH := Lib.hid hh
          clear hh hc1 eA1
          go_wp2
          first | exact ⟨⟨i + 1, at_ + 1, by omega, by have := HNL.out; omega, by simp, by simp, HBF.out.hit HSRT.out HHH.out, HB.out⟩, by simp [intOf]; omega⟩ | (go_roundw; (case rel => exact ⟨i + 1, at_ + 1, by omega, by omega, by simp, by simp, HBF.out.hit HSRT.out HHH.out, HB.out⟩); (case measure => simp [intOf]; omega))
        obtain ⟨hbm, hnm⟩ := HBF.out.miss HSRT.out hh
        have HBM := Lib.hid hbm
        have hsame := HLO.out i (by rw [HLC.out]; exact hlt) (fun h => hnm ((HMEM.out _).2 h))
        obtain ⟨k, hkc⟩ : ∃ k, c.cl[i]? = some k := ⟨_, List.getElem?_eq_getElem (by rw [HLC.out]; exact hlt)⟩
        rw [hkc] at hsame
        obtain ⟨zc, hzc, ezc⟩ := km_at HCC.out.e hkc
        obtain ⟨za, hza, eza⟩ := km_at hca_4.e hsame
        have hCr := HCC.out.then_ (below_then HB4 HB.out)
        have hAr := hca_4.then_ HB.out
        obtain ⟨b2, o2, eA2, hb2, hc2⟩ := segAt hCr.k hzc
        obtain ⟨b3, o3, eA3, hb3, hc3⟩ := segAt hAr.k hza
        have HR2 : Hid (wr.rangeAt b2 (o2 + i * 16) (kL zc) ∧ b2 < wr.heap.size) := ⟨fun j v hv => hc2 j v hv, hb2⟩
        have HR3 : Hid (wr.rangeAt b3 (o3 + i * 16) (kL za) ∧ b3 < wr.heap.size) := ⟨fun j v hv => hc3 j v hv, hb3⟩
        have hix2 := fun W => idx_at (t := 25) (size := 16) (cap := m.kc) (len := LC) (k := i) eA2 hlt (by kernel_rfl) (fun W => by kernel_rfl) W
        have hix3 := fun W => idx_at (t := 25) (size := 16) (cap := ma.kc) (len := (LC + 1)) (k := i) eA3 (by omega) (by kernel_rfl) (fun W => by kernel_rfl) W
        have HSQ : Hid (∀ W, Below wr.heap.size wr W → Calls Tryz.prog 14 #[.agg (kL za).toArray, .agg (kL zc).toArray] W fun e w' => e = .returned (.bool true) ∧ Below W.heap.size W w') := fun W hb => scla_to za zc true W ((hAr.t za (List.mem_of_getElem? hza)).then_ hb) ((hCr.t zc (List.mem_of_getElem? hzc)).then_ hb) (by rw [eza, ezc]; simp)
        have GA := Lib.hid (gbu4_4.then_ HB.out)
        have GC := Lib.hid (gbc_4.then_ HB.out)
        clear hbm hnm hsame hkc hzc ezc hza eza hCr hAr hb2 hc2 hb3 hc3 eA2 eA3
        by_cases hal : at_ < l.length
        · obtain ⟨v, hv⟩ : ∃ v, l[at_]? = some v := ⟨_, List.getElem?_eq_getElem hal⟩
          clear hal
          have hal := (List.getElem?_eq_some_iff.1 hv).1
          rw [HNL.out] at hal
          obtain ⟨b1, o1, eA1, _, hc1⟩ := segAt ((HLS.out.below HB.out).more HB.out.size) hv
          have cl1 : wr.cell? ⟨b1, o1 + at_, none⟩ = some (.int .i64 v) := by simpa using hc1 0 _ rfl
          have hix := fun W => idx_at (t := 22) (size := 1) (cap := kl) (len := nl) (k := at_) eA1 hal (by kernel_rfl) (fun W => by kernel_rfl) W
          have ta : decide ((at_ : Int) < (nl : Int)) = true := decide_eq_true (by omega)
          have ta' : decide (at_ < nl) = true := decide_eq_true hal
          have tv : (v == (i : Int)) = false := by rw [beq_eq_false_iff_ne]; intro e; exact hh (by rw [hv, e])
          clear hh hv hc1 eA1
          go_upto_region 19 with (fail)
          refine wp_region_hb (fun w' => Hid (Below wr.heap.size wr w')) [0, 1, 2, 3, 4, 5, 6, 7, 8, 9] [10, 11] (by kernel_rfl) (by kernel_rfl) (by repeat (first | with_reducible refine panOk_then ?_ | with_reducible refine panOk_block ?_ | exact panOk_body)) (Lib.hid (Below.drew (Below.refl _ _))) (fun hdir hsel hpan hHeld => ?_)
          refine wpHB_take (i := 0) (oi := ⟨some 87, _, _, _, _, _⟩) hdir hsel hpan rfl (by kernel_rfl) (by kernel_rfl) (by kernel_rfl) (Or.inl ⟨by rfl, fun _ _ => by rfl⟩) (by assumption) ?_
          try simp only [Act.put, List.setIfInBounds_toArray, List.set_cons_zero, List.set_cons_succ]
          refine wpHB_take (i := 1) (oi := ⟨some 88, _, _, _, _, _⟩) (v := .slice ma.k (LC + 1) ma.kc) hdir hsel hpan rfl (by kernel_rfl) (by kernel_rfl) (by kernel_rfl) (Or.inl ⟨by rfl, fun w hw => by have hc := (show w.cell? ⟨bu4, 4, none⟩ = some (.slice ma.k (LC + 1) ma.kc) by rw [← HLA.out]; exact (GA.out.then_ hw.out).cell 4); go_simp⟩) (by assumption) ?_
          try simp only [Act.put, List.setIfInBounds_toArray, List.set_cons_zero, List.set_cons_succ]
          refine wpHB_take (i := 2) (oi := ⟨some 89, _, _, _, _, _⟩) hdir hsel hpan rfl (by kernel_rfl) (by kernel_rfl) (by kernel_rfl) (Or.inl ⟨by rfl, fun _ _ => by rfl⟩) (by assumption) ?_
          try simp only [Act.put, List.setIfInBounds_toArray, List.set_cons_zero, List.set_cons_succ]
          refine wpHB_take (i := 3) (oi := ⟨some 90, _, _, _, _, _⟩) (v := .pointer (some ⟨b3, o3 + i * 16, none⟩)) hdir hsel hpan rfl (by kernel_rfl) (by kernel_rfl) (by kernel_rfl) (Or.inl ⟨by rfl, fun w hw => by go_simp⟩) (by assumption) ?_
          try simp only [Act.put, List.setIfInBounds_toArray, List.set_cons_zero, List.set_cons_succ]
          refine wpHB_take (i := 4) (oi := ⟨some 91, _, _, _, _, _⟩) hdir hsel hpan rfl (by kernel_rfl) (by kernel_rfl) (by kernel_rfl) (yieldsIf_load_mid (by rfl) 32 _ rfl b3 _ rfl (kL za) _ (fun w hw => (range_then HR3.out.1 hw.out HR3.out.2)) Tryz.underlying32 rfl (by kernel_rfl)) (by assumption) ?_
          try simp only [Act.put, List.setIfInBounds_toArray, List.set_cons_zero, List.set_cons_succ]
          refine wpHB_take (i := 5) (oi := ⟨some 92, _, _, _, _, _⟩) hdir hsel hpan rfl (by kernel_rfl) (by kernel_rfl) (by kernel_rfl) (Or.inl ⟨by rfl, fun _ _ => by rfl⟩) (by assumption) ?_
          try simp only [Act.put, List.setIfInBounds_toArray, List.set_cons_zero, List.set_cons_succ]
          refine wpHB_take (i := 6) (oi := ⟨some 93, _, _, _, _, _⟩) (v := .slice m.k LC m.kc) hdir hsel hpan rfl (by kernel_rfl) (by kernel_rfl) (by kernel_rfl) (Or.inl ⟨by rfl, fun w hw => by have hc := (show w.cell? ⟨bc, 4, none⟩ = some (.slice m.k LC m.kc) by rw [← HLC.out]; exact (GC.out.then_ hw.out).cell 4); go_simp⟩) (by assumption) ?_
          try simp only [Act.put, List.setIfInBounds_toArray, List.set_cons_zero, List.set_cons_succ]
          refine wpHB_take (i := 7) (oi := ⟨some 94, _, _, _, _, _⟩) hdir hsel hpan rfl (by kernel_rfl) (by kernel_rfl) (by kernel_rfl) (Or.inl ⟨by rfl, fun _ _ => by rfl⟩) (by assumption) ?_
          try simp only [Act.put, List.setIfInBounds_toArray, List.set_cons_zero, List.set_cons_succ]
          refine wpHB_take (i := 8) (oi := ⟨some 95, _, _, _, _, _⟩) (v := .pointer (some ⟨b2, o2 + i * 16, none⟩)) hdir hsel hpan rfl (by kernel_rfl) (by kernel_rfl) (by kernel_rfl) (Or.inl ⟨by rfl, fun w hw => by go_simp⟩) (by assumption) ?_
          try simp only [Act.put, List.setIfInBounds_toArray, List.set_cons_zero, List.set_cons_succ]
          refine wpHB_take (i := 9) (oi := ⟨some 96, _, _, _, _, _⟩) hdir hsel hpan rfl (by kernel_rfl) (by kernel_rfl) (by kernel_rfl) (yieldsIf_load_mid (by rfl) 32 _ rfl b2 _ rfl (kL zc) _ (fun w hw => (range_then HR2.out.1 hw.out HR2.out.2)) Tryz.underlying32 rfl (by kernel_rfl)) (by assumption) ?_
          try simp only [Act.put, List.setIfInBounds_toArray, List.set_cons_zero, List.set_cons_succ]
          refine wpHB_tail (by kernel_rfl) (by kernel_rfl) ?_
          clear hdir hsel hpan
          simp only [opsAt, List.getElem?_toArray, List.getElem?_cons_succ, List.getElem?_cons_zero, Option.toList_some, List.cons_append, List.nil_append]
          go_wp2_with (go_at_call 14; (with_reducible refine (HSQ.out _ hHeld.out).mono ?_); rintro e wz ⟨rfl, hbz⟩)
          first | exact ⟨⟨i + 1, at_, by omega, hat, rfl, by simp, HBM.out, below_then (below_then HB.out hHeld.out) hbz⟩, by simp [intOf]; omega⟩ | (go_roundw; (case rel => exact ⟨i + 1, at_, by omega, hat, rfl, by simp, HBM.out, below_then (below_then HB.out hHeld.out) hbz⟩); (case measure => simp [intOf]; omega))
        · have ta : decide ((at_ : Int) < (nl : Int)) = false := decide_eq_false (by have := HNL.out; omega)
          have ta' : decide (at_ < nl) = false := decide_eq_false (by have := HNL.out; omega)
          clear hh hal
          go_upto_region 19 with (fail)
          refine wp_region_hb (fun w' => Hid (Below wr.heap.size wr w')) [0, 1, 2, 3, 4, 5, 6, 7, 8, 9] [10, 11] (by kernel_rfl) (by kernel_rfl) (by repeat (first | with_reducible refine panOk_then ?_ | with_reducible refine panOk_block ?_ | exact panOk_body)) (Lib.hid (Below.drew (Below.refl _ _))) (fun hdir hsel hpan hHeld => ?_)
          refine wpHB_take (i := 0) (oi := ⟨some 87, _, _, _, _, _⟩) hdir hsel hpan rfl (by kernel_rfl) (by kernel_rfl) (by kernel_rfl) (Or.inl ⟨by rfl, fun _ _ => by rfl⟩) (by assumption) ?_
          try simp only [Act.put, List.setIfInBounds_toArray, List.set_cons_zero, List.set_cons_succ]
          refine wpHB_take (i := 1) (oi := ⟨some 88, _, _, _, _, _⟩) (v := .slice ma.k (LC + 1) ma.kc) hdir hsel hpan rfl (by kernel_rfl) (by kernel_rfl) (by kernel_rfl) (Or.inl ⟨by rfl, fun w hw => by have hc := (show w.cell? ⟨bu4, 4, none⟩ = some (.slice ma.k (LC + 1) ma.kc) by rw [← HLA.out]; exact (GA.out.then_ hw.out).cell 4); go_simp⟩) (by assumption) ?_
          try simp only [Act.put, List.setIfInBounds_toArray, List.set_cons_zero, List.set_cons_succ]
          refine wpHB_take (i := 2) (oi := ⟨some 89, _, _, _, _, _⟩) hdir hsel hpan rfl (by kernel_rfl) (by kernel_rfl) (by kernel_rfl) (Or.inl ⟨by rfl, fun _ _ => by rfl⟩) (by assumption) ?_
          try simp only [Act.put, List.setIfInBounds_toArray, List.set_cons_zero, List.set_cons_succ]
          refine wpHB_take (i := 3) (oi := ⟨some 90, _, _, _, _, _⟩) (v := .pointer (some ⟨b3, o3 + i * 16, none⟩)) hdir hsel hpan rfl (by kernel_rfl) (by kernel_rfl) (by kernel_rfl) (Or.inl ⟨by rfl, fun w hw => by go_simp⟩) (by assumption) ?_
          try simp only [Act.put, List.setIfInBounds_toArray, List.set_cons_zero, List.set_cons_succ]
          refine wpHB_take (i := 4) (oi := ⟨some 91, _, _, _, _, _⟩) hdir hsel hpan rfl (by kernel_rfl) (by kernel_rfl) (by kernel_rfl) (yieldsIf_load_mid (by rfl) 32 _ rfl b3 _ rfl (kL za) _ (fun w hw => (range_then HR3.out.1 hw.out HR3.out.2)) Tryz.underlying32 rfl (by kernel_rfl)) (by assumption) ?_
          try simp only [Act.put, List.setIfInBounds_toArray, List.set_cons_zero, List.set_cons_succ]
          refine wpHB_take (i := 5) (oi := ⟨some 92, _, _, _, _, _⟩) hdir hsel hpan rfl (by kernel_rfl) (by kernel_rfl) (by kernel_rfl) (Or.inl ⟨by rfl, fun _ _ => by rfl⟩) (by assumption) ?_
          try simp only [Act.put, List.setIfInBounds_toArray, List.set_cons_zero, List.set_cons_succ]
          refine wpHB_take (i := 6) (oi := ⟨some 93, _, _, _, _, _⟩) (v := .slice m.k LC m.kc) hdir hsel hpan rfl (by kernel_rfl) (by kernel_rfl) (by kernel_rfl) (Or.inl ⟨by rfl, fun w hw => by have hc := (show w.cell? ⟨bc, 4, none⟩ = some (.slice m.k LC m.kc) by rw [← HLC.out]; exact (GC.out.then_ hw.out).cell 4); go_simp⟩) (by assumption) ?_
          try simp only [Act.put, List.setIfInBounds_toArray, List.set_cons_zero, List.set_cons_succ]
          refine wpHB_take (i := 7) (oi := ⟨some 94, _, _, _, _, _⟩) hdir hsel hpan rfl (by kernel_rfl) (by kernel_rfl) (by kernel_rfl) (Or.inl ⟨by rfl, fun _ _ => by rfl⟩) (by assumption) ?_
          try simp only [Act.put, List.setIfInBounds_toArray, List.set_cons_zero, List.set_cons_succ]
          refine wpHB_take (i := 8) (oi := ⟨some 95, _, _, _, _, _⟩) (v := .pointer (some ⟨b2, o2 + i * 16, none⟩)) hdir hsel hpan rfl (by kernel_rfl) (by kernel_rfl) (by kernel_rfl) (Or.inl ⟨by rfl, fun w hw => by go_simp⟩) (by assumption) ?_
          try simp only [Act.put, List.setIfInBounds_toArray, List.set_cons_zero, List.set_cons_succ]
          refine wpHB_take (i := 9) (oi := ⟨some 96, _, _, _, _, _⟩) hdir hsel hpan rfl (by kernel_rfl) (by kernel_rfl) (by kernel_rfl) (yieldsIf_load_mid (by rfl) 32 _ rfl b2 _ rfl (kL zc) _ (fun w hw => (range_then HR2.out.1 hw.out HR2.out.2)) Tryz.underlying32 rfl (by kernel_rfl)) (by assumption) ?_
          try simp only [Act.put, List.setIfInBounds_toArray, List.set_cons_zero, List.set_cons_succ]
          refine wpHB_tail (by kernel_rfl) (by kernel_rfl) ?_
          clear hdir hsel hpan
          simp only [opsAt, List.getElem?_toArray, List.getElem?_cons_succ, List.getElem?_cons_zero, Option.toList_some, List.cons_append, List.nil_append]
          go_wp2_with (go_at_call 14; (with_reducible refine (HSQ.out _ hHeld.out).mono ?_); rintro e wz ⟨rfl, hbz⟩)
          first | exact ⟨⟨i + 1, at_, by omega, hat, rfl, by simp, HBM.out, below_then (below_then HB.out hHeld.out) hbz⟩, by simp [intOf]; omega⟩ | (go_roundw; (case rel => exact ⟨i + 1, at_, by omega, hat, rfl, by simp, HBM.out, below_then (below_then HB.out hHeld.out) hbz⟩); (case measure => simp [intOf]; omega))
      · have tn : decide ((i : Int) < (LC : Int)) = false := decide_eq_false (by omega)
        obtain rfl : LC = i := by omega
        have hfull := HBF.out.full (m := 1) HSRT.out (by decide) (fun y hy => by have := (HTM.out y ((HMEM.out y).1 hy)).2; rw [HLC.out] at this; simpa [HK.out] using this) (fun _ => (HMEM.out _).2 (by unfold Con.tch; rw [HLC.out, HK.out]; simp))
        rw [HNL.out] at hfull
        have hCr := HCC.out.then_ (below_then HB4 HB.out)
        have hAr := hca_4.then_ HB.out
        have gC := gbc_4.then_ HB.out
        have gA := gbu4_4.then_ HB.out
        have hBr := below_then HB4 HB.out
        obtain rfl : nl = at_ + 1 := by omega
        have hwm := wrap_small (n := at_) hat
        go_upto_region 22 with (first | (refine wpList_row_w (by rfl) 27 _ rfl bc rfl 27 _ gC ⟨_, Tryz.underlying27⟩ (by kernel_rfl) ?_; simp only [Act.put, List.setIfInBounds_toArray, List.set_cons_succ, List.set_cons_zero]) | (refine wpList_store_all rfl 27 _ _ rfl wr.heap.size 27 [] coZ.toList [] (coA c m).toList rfl rfl (Blk.new _ _ _) rfl (by kernel_rfl) (by simp [Value.oneCell']) ?_; intro u7 gd U7))
        have hs7 : Below wr.heap.size wr u7 := (wa1 _ _).trans (U7.b _ (Nat.le_refl _))
        have nA : bu4 ≠ wr.heap.size := by have := gA.lt; omega
        obtain ⟨bd, ebd⟩ : ∃ b, wr.heap.size = b := ⟨_, rfl⟩
        rw [ebd] at gd nA ⊢
        have gA7 := gA.then_ hs7
        have a47 : u7.cell? ⟨bu4, 4, none⟩ = some (.slice ma.k C1.cl.length ma.kc) := gA7.cell 4
        have d4 : u7.cell? ⟨bd, 4, none⟩ = some (.slice m.k c.cl.length m.kc) := gd.cell 4
        have zd : u7.frozen? ⟨bd, 4, none⟩ = false := gd.frozen 4
        have ld := gd.lt
        go_upto_region 23 with (fail)
        refine name_wp ?_
        intro Z hZ
        have gD : Blk Z bd 27 (coA (c.wc C1.cl) ⟨m.h, m.hc, m.u, m.uc, m.a, m.ac, ma.k, ma.kc, m.o, m.oc, ma.ks⟩) := by rw [hZ]; exact gd.set_ 4 _
        have UZ : Upd u7 Z bd := by rw [hZ]; exact (Upd.refl _ _).setCell 4 _
        have gAZ : Blk Z bu4 27 (coA C1 ma) := gA7.upd UZ nA
        have hbZ : Below wr.heap.size wr Z := hs7.trans (UZ.b _ (by omega))
        have hAZ := hAr.then_ hbZ
        have hDZ := cont_mix (hCr.then_ hbZ) hAZ
        rw [HD.out] at gD hDZ
        have HQ := Lib.hid (scon_to C1 C1 ma _ true Z hAZ hDZ (by simp))
        have hBZ := below_then hBr hbZ
        clear hZ UZ hs7 a47 d4 zd ld U7 gd gA7 nA hAZ hDZ hCr hAr gC gA hBr hbZ
        go_wp2_with (first | (refine wpList_row_w (by rfl) 27 _ rfl bu4 rfl 27 _ gAZ ⟨_, Tryz.underlying27⟩ (by kernel_rfl) ?_; simp only [Act.put, List.setIfInBounds_toArray, List.set_cons_succ, List.set_cons_zero]) | (refine wpList_row_w (by rfl) 27 _ rfl bd rfl 27 _ gD ⟨_, Tryz.underlying27⟩ (by kernel_rfl) ?_; simp only [Act.put, List.setIfInBounds_toArray, List.set_cons_succ, List.set_cons_zero]) | (go_at_call 15; (with_reducible refine HQ.out.mono ?_); rintro e wz ⟨rfl, hbz⟩))
        go_ret
        exact ⟨rfl, below_then hBZ hbz⟩
  · have tk : (x.p.kind == 1) = false := by rw [beq_eq_false_iff_ne]; exact hk
    have HK : Hid ((x.p.kind = 1) = False) := by unfold Hid; exact eq_false hk
    have HLA : Hid (C1.cl.length = LC) := by unfold Hid; rw [hap, ← eLC]; exact (do_len _).trans (if_neg hk)
    clear hk hap eE eC eLC hC hP hp1 hp2 hn
    go_enter Tryz.func3, Tryz.ntmps3
    go_upto_region 1 with (fail)
    refine name_wp ?_
    intro X0 hX
    have gbc : Blk X0 w.heap.size 27 (coA c m) := by rw [hX]; exact (blk_at (by simp)).alloc _
    have gbp : Blk X0 (w.heap.size + 1) 34 (pL x.p x.m) := by rw [hX]; exact blk_at (by simp)
    have HB0 : Below w.heap.size w X0 := by rw [hX]; (repeat (first | with_reducible assumption | with_reducible exact Below.refl _ _ | with_reducible refine below_drewN ?_ _ | with_reducible refine Below.drew ?_ | with_reducible refine below_alloc ?_ _ | with_reducible refine Below.setCell ?_ (by first | omega | (simp; done) | (simp; omega)) _ | with_reducible refine below_then ?_ (by with_reducible assumption) | (refine below_then (a := World.drew _) ?_ (by with_reducible assumption))))
    clear hX
    obtain ⟨bp, ebp⟩ : ∃ b, w.heap.size + 1 = b := ⟨_, rfl⟩
    obtain ⟨bc, ebc⟩ : ∃ b, w.heap.size = b := ⟨_, rfl⟩
    have lbc : w.heap.size ≤ bc := by omega
    have lbp : w.heap.size ≤ bp := by omega
    have nbcbp : bc ≠ bp := by omega
    rw [ebp] at gbp ⊢
    rw [ebc] at gbc ⊢
    clear ebc ebp
    go_upto_region 2 with ((go_at_call 9; (with_reducible refine (HH.out _ HB0).mono ?_); rintro e w1 ⟨rfl, hbw1⟩))
    have HH1 := hbw1
    have HB1 := below_then HB0 HH1
    have gbc_1 := gbc.then_ HH1
    have gbp_1 := gbp.then_ HH1
    clear gbc gbp HB0 HH1
    go_upto_region 4 with (first | (refine wpList_row_w (by rfl) 27 _ rfl bc rfl 27 _ gbc_1 ⟨_, Tryz.underlying27⟩ (by kernel_rfl) ?_; simp only [Act.put, List.setIfInBounds_toArray, List.set_cons_succ, List.set_cons_zero]) | (go_at_call 10; (with_reducible refine (HS1.out _ HB1).mono ?_); rintro e w2 ⟨rfl, hbw2⟩; have gp2 := gbp_1.then_ hbw2) | (refine wpList_row_w (by rfl) 34 _ rfl bp rfl 34 _ gp2 ⟨_, Tryz.underlying34⟩ (by kernel_rfl) ?_; simp only [Act.put, List.setIfInBounds_toArray, List.set_cons_succ, List.set_cons_zero]) | (go_at_call 11; (with_reducible refine (HS2.out _).mono ?_); rintro e w3 ⟨rfl, hbw3⟩))
    have HH2 := below_then hbw2 hbw3
    have HB2 := below_then HB1 HH2
    have gbc_2 := gbc_1.then_ HH2
    have gbp_2 := gbp_1.then_ HH2
    clear gbc_1 gbp_1 HB1 HH2
    clear gp2
    go_upto_region 5 with (first | (refine wpList_row_w (by rfl) 27 _ rfl bc rfl 27 _ gbc_2 ⟨_, Tryz.underlying27⟩ (by kernel_rfl) ?_; simp only [Act.put, List.setIfInBounds_toArray, List.set_cons_succ, List.set_cons_zero]) | (refine wpList_row_w (by rfl) 34 _ rfl bp rfl 34 _ gbp_2 ⟨_, Tryz.underlying34⟩ (by kernel_rfl) ?_; simp only [Act.put, List.setIfInBounds_toArray, List.set_cons_succ, List.set_cons_zero]) | (go_at_call 12; (with_reducible refine (HA1.out _ HB2).mono ?_); rintro e w4 ⟨⟨ma, rfl, hca0⟩, hbw4⟩) | (refine wpList_store_all rfl 27 _ _ rfl w4.heap.size 27 [] coZ.toList [] (coA C1 ma).toList rfl rfl (Blk.new _ _ _) rfl (by kernel_rfl) (by simp [Value.oneCell']) ?_; intro u4 gbu4 Uu4))
    have hsu4 : Below w4.heap.size w4 u4 := (wa1 _ _).trans (Uu4.b _ (Nat.le_refl _))
    have HH3 := below_then hbw4 hsu4
    have HB3 := below_then HB2 HH3
    have gbc_3 := gbc_2.then_ HH3
    have gbp_3 := gbp_2.then_ HH3
    clear gbc_2 gbp_2 HB2 HH3
    have hca := hca0.then_ hsu4
    obtain ⟨bu4, ebu4⟩ : ∃ b, w4.heap.size = b := ⟨_, rfl⟩
    rw [ebu4] at gbu4 ⊢
    clear ebu4 Uu4 hsu4 hbw4 hca0
    go_upto_region 6 with (first | (refine wpList_row_w (by rfl) 27 _ rfl bc rfl 27 _ gbc_3 ⟨_, Tryz.underlying27⟩ (by kernel_rfl) ?_; simp only [Act.put, List.setIfInBounds_toArray, List.set_cons_succ, List.set_cons_zero]) | (refine wpList_row_w (by rfl) 34 _ rfl bp rfl 34 _ gbp_3 ⟨_, Tryz.underlying34⟩ (by kernel_rfl) ?_; simp only [Act.put, List.setIfInBounds_toArray, List.set_cons_succ, List.set_cons_zero]) | (go_at_call 13; (with_reducible refine (HT.out _ HB3).mono ?_); rintro e w5 ⟨⟨A, kl, l, rfl, hls, hln, hl0, hl1⟩, hbw5⟩))
    have HH4 := hbw5
    have HB4 := below_then HB3 HH4
    have gbc_4 := gbc_3.then_ HH4
    have gbp_4 := gbp_3.then_ HH4
    have gbu4_4 := gbu4.then_ HH4
    have hca_4 := hca.then_ HH4
    clear gbc_3 gbp_3 gbu4 hca HB3 HH4
    obtain ⟨hmem, hsrt⟩ := hl0 (by trivial)
    have HMEM := Lib.hid hmem
    have HSRT := Lib.hid hsrt
    obtain ⟨nl, enl⟩ : ∃ n, l.length = n := ⟨_, rfl⟩
    rw [enl] at hln ⊢
    have HNL := Lib.hid enl
    have HLS := Lib.hid hls
    clear hl0 hl1 hmem hsrt enl hls
    have k0 : w5.cell? ⟨bp, 0, none⟩ = some (.int .i64 x.p.kind) := gbp_4.cell 0
    have a4 : w5.cell? ⟨bu4, 4, none⟩ = some (.slice ma.k LC ma.kc) := by rw [← HLA.out]; exact gbu4_4.cell 4
    have c4 : w5.cell? ⟨bc, 4, none⟩ = some (.slice m.k LC m.kc) := by rw [← HLC.out]; exact gbc_4.cell 4
    have hwl := wrap_small (n := LC) (by omega)
    go_upto_region 15 with (fail)
    clear k0 a4 c4
    go_loopw [11, 12] (fun a y WR => ∃ (i at_ : Nat), i ≤ LC ∧ at_ ≤ 1000000 ∧ a = .int .i64 at_ ∧ y = .int .i64 i ∧ Hid (Bef l i at_) ∧ Hid (Below w5.heap.size w5 WR)) (fun _ y _ => 2000000 - (intOf y).toNat)
    case atStart => exact ⟨0, 0, by omega, by omega, rfl, rfl, Bef.zero (fun y hy => (HTM.out y ((HMEM.out y).1 hy)).1), Below.refl _ _⟩
    case round =>
      obtain ⟨i, at_, hi', hat, rfl, rfl, HBF, HB⟩ := hrel
      have c4 : wr.cell? ⟨bc, 4, none⟩ = some (.slice m.k LC m.kc) := by rw [← HLC.out]; exact (gbc_4.then_ HB.out).cell 4
      have a4 : wr.cell? ⟨bu4, 4, none⟩ = some (.slice ma.k LC ma.kc) := by rw [← HLA.out]; exact (gbu4_4.then_ HB.out).cell 4
      have hwi := wrap_small (n := i) (by omega)
      have hwa := wrap_small (n := at_) hat
      by_cases hlt : i < LC
      · have tn : decide ((i : Int) < (LC : Int)) = true := decide_eq_true (by omega)
        by_cases hh : l[at_]? = some (i : Int)
        · have hal := (List.getElem?_eq_some_iff.1 hh).1
          rw [HNL.out] at hal
          obtain ⟨b1, o1, eA1, _, hc1⟩ := segAt ((HLS.out.below HB.out).more HB.out.size) hh
          have cl1 : wr.cell? ⟨b1, o1 + at_, none⟩ = some (.int .i64 (i : Int)) := by simpa using hc1 0 _ rfl
          have hix := fun W => idx_at (t := 22) (size := 1) (cap := kl) (len := nl) (k := at_) eA1 hal (by kernel_rfl) (fun W => by kernel_rfl) W
          have ta : decide ((at_ : Int) < (nl : Int)) = true := decide_eq_true (by omega)
          have ta' : decide (at_ < nl) = true := decide_eq_true hal
          have tv : ((i : Int) == (i : Int)) = true := beq_self_eq_true _
          have HHH := Lib.hid hh
          clear hh hc1 eA1
          go_wp2
          first | exact ⟨⟨i + 1, at_ + 1, by omega, by have := HNL.out; omega, by simp, by simp, HBF.out.hit HSRT.out HHH.out, HB.out⟩, by simp [intOf]; omega⟩ | (go_roundw; (case rel => exact ⟨i + 1, at_ + 1, by omega, by omega, by simp, by simp, HBF.out.hit HSRT.out HHH.out, HB.out⟩); (case measure => simp [intOf]; omega))
        obtain ⟨hbm, hnm⟩ := HBF.out.miss HSRT.out hh
        have HBM := Lib.hid hbm
        have hsame := HLO.out i (by rw [HLC.out]; exact hlt) (fun h => hnm ((HMEM.out _).2 h))
        obtain ⟨k, hkc⟩ : ∃ k, c.cl[i]? = some k := ⟨_, List.getElem?_eq_getElem (by rw [HLC.out]; exact hlt)⟩
        rw [hkc] at hsame
        obtain ⟨zc, hzc, ezc⟩ := km_at HCC.out.e hkc
        obtain ⟨za, hza, eza⟩ := km_at hca_4.e hsame
        have hCr := HCC.out.then_ (below_then HB4 HB.out)
        have hAr := hca_4.then_ HB.out
        obtain ⟨b2, o2, eA2, hb2, hc2⟩ := segAt hCr.k hzc
        obtain ⟨b3, o3, eA3, hb3, hc3⟩ := segAt hAr.k hza
        have HR2 : Hid (wr.rangeAt b2 (o2 + i * 16) (kL zc) ∧ b2 < wr.heap.size) := ⟨fun j v hv => hc2 j v hv, hb2⟩
        have HR3 : Hid (wr.rangeAt b3 (o3 + i * 16) (kL za) ∧ b3 < wr.heap.size) := ⟨fun j v hv => hc3 j v hv, hb3⟩
        have hix2 := fun W => idx_at (t := 25) (size := 16) (cap := m.kc) (len := LC) (k := i) eA2 hlt (by kernel_rfl) (fun W => by kernel_rfl) W
        have hix3 := fun W => idx_at (t := 25) (size := 16) (cap := ma.kc) (len := LC) (k := i) eA3 (by omega) (by kernel_rfl) (fun W => by kernel_rfl) W
        have HSQ : Hid (∀ W, Below wr.heap.size wr W → Calls Tryz.prog 14 #[.agg (kL za).toArray, .agg (kL zc).toArray] W fun e w' => e = .returned (.bool true) ∧ Below W.heap.size W w') := fun W hb => scla_to za zc true W ((hAr.t za (List.mem_of_getElem? hza)).then_ hb) ((hCr.t zc (List.mem_of_getElem? hzc)).then_ hb) (by rw [eza, ezc]; simp)
        have GA := Lib.hid (gbu4_4.then_ HB.out)
        have GC := Lib.hid (gbc_4.then_ HB.out)
        clear hbm hnm hsame hkc hzc ezc hza eza hCr hAr hb2 hc2 hb3 hc3 eA2 eA3
        by_cases hal : at_ < l.length
        · obtain ⟨v, hv⟩ : ∃ v, l[at_]? = some v := ⟨_, List.getElem?_eq_getElem hal⟩
          clear hal
          have hal := (List.getElem?_eq_some_iff.1 hv).1
          rw [HNL.out] at hal
          obtain ⟨b1, o1, eA1, _, hc1⟩ := segAt ((HLS.out.below HB.out).more HB.out.size) hv
          have cl1 : wr.cell? ⟨b1, o1 + at_, none⟩ = some (.int .i64 v) := by simpa using hc1 0 _ rfl
          have hix := fun W => idx_at (t := 22) (size := 1) (cap := kl) (len := nl) (k := at_) eA1 hal (by kernel_rfl) (fun W => by kernel_rfl) W
          have ta : decide ((at_ : Int) < (nl : Int)) = true := decide_eq_true (by omega)
          have ta' : decide (at_ < nl) = true := decide_eq_true hal
          have tv : (v == (i : Int)) = false := by rw [beq_eq_false_iff_ne]; intro e; exact hh (by rw [hv, e])
          clear hh hv hc1 eA1
          go_upto_region 19 with (fail)
          refine wp_region_hb (fun w' => Hid (Below wr.heap.size wr w')) [0, 1, 2, 3, 4, 5, 6, 7, 8, 9] [10, 11] (by kernel_rfl) (by kernel_rfl) (by repeat (first | with_reducible refine panOk_then ?_ | with_reducible refine panOk_block ?_ | exact panOk_body)) (Lib.hid (Below.drew (Below.refl _ _))) (fun hdir hsel hpan hHeld => ?_)
          refine wpHB_take (i := 0) (oi := ⟨some 87, _, _, _, _, _⟩) hdir hsel hpan rfl (by kernel_rfl) (by kernel_rfl) (by kernel_rfl) (Or.inl ⟨by rfl, fun _ _ => by rfl⟩) (by assumption) ?_
          try simp only [Act.put, List.setIfInBounds_toArray, List.set_cons_zero, List.set_cons_succ]
          refine wpHB_take (i := 1) (oi := ⟨some 88, _, _, _, _, _⟩) (v := .slice ma.k LC ma.kc) hdir hsel hpan rfl (by kernel_rfl) (by kernel_rfl) (by kernel_rfl) (Or.inl ⟨by rfl, fun w hw => by have hc := (show w.cell? ⟨bu4, 4, none⟩ = some (.slice ma.k LC ma.kc) by rw [← HLA.out]; exact (GA.out.then_ hw.out).cell 4); go_simp⟩) (by assumption) ?_
          try simp only [Act.put, List.setIfInBounds_toArray, List.set_cons_zero, List.set_cons_succ]
          refine wpHB_take (i := 2) (oi := ⟨some 89, _, _, _, _, _⟩) hdir hsel hpan rfl (by kernel_rfl) (by kernel_rfl) (by kernel_rfl) (Or.inl ⟨by rfl, fun _ _ => by rfl⟩) (by assumption) ?_
          try simp only [Act.put, List.setIfInBounds_toArray, List.set_cons_zero, List.set_cons_succ]
          refine wpHB_take (i := 3) (oi := ⟨some 90, _, _, _, _, _⟩) (v := .pointer (some ⟨b3, o3 + i * 16, none⟩)) hdir hsel hpan rfl (by kernel_rfl) (by kernel_rfl) (by kernel_rfl) (Or.inl ⟨by rfl, fun w hw => by go_simp⟩) (by assumption) ?_
          try simp only [Act.put, List.setIfInBounds_toArray, List.set_cons_zero, List.set_cons_succ]
          refine wpHB_take (i := 4) (oi := ⟨some 91, _, _, _, _, _⟩) hdir hsel hpan rfl (by kernel_rfl) (by kernel_rfl) (by kernel_rfl) (yieldsIf_load_mid (by rfl) 32 _ rfl b3 _ rfl (kL za) _ (fun w hw => (range_then HR3.out.1 hw.out HR3.out.2)) Tryz.underlying32 rfl (by kernel_rfl)) (by assumption) ?_
          try simp only [Act.put, List.setIfInBounds_toArray, List.set_cons_zero, List.set_cons_succ]
          refine wpHB_take (i := 5) (oi := ⟨some 92, _, _, _, _, _⟩) hdir hsel hpan rfl (by kernel_rfl) (by kernel_rfl) (by kernel_rfl) (Or.inl ⟨by rfl, fun _ _ => by rfl⟩) (by assumption) ?_
          try simp only [Act.put, List.setIfInBounds_toArray, List.set_cons_zero, List.set_cons_succ]
          refine wpHB_take (i := 6) (oi := ⟨some 93, _, _, _, _, _⟩) (v := .slice m.k LC m.kc) hdir hsel hpan rfl (by kernel_rfl) (by kernel_rfl) (by kernel_rfl) (Or.inl ⟨by rfl, fun w hw => by have hc := (show w.cell? ⟨bc, 4, none⟩ = some (.slice m.k LC m.kc) by rw [← HLC.out]; exact (GC.out.then_ hw.out).cell 4); go_simp⟩) (by assumption) ?_
          try simp only [Act.put, List.setIfInBounds_toArray, List.set_cons_zero, List.set_cons_succ]
          refine wpHB_take (i := 7) (oi := ⟨some 94, _, _, _, _, _⟩) hdir hsel hpan rfl (by kernel_rfl) (by kernel_rfl) (by kernel_rfl) (Or.inl ⟨by rfl, fun _ _ => by rfl⟩) (by assumption) ?_
          try simp only [Act.put, List.setIfInBounds_toArray, List.set_cons_zero, List.set_cons_succ]
          refine wpHB_take (i := 8) (oi := ⟨some 95, _, _, _, _, _⟩) (v := .pointer (some ⟨b2, o2 + i * 16, none⟩)) hdir hsel hpan rfl (by kernel_rfl) (by kernel_rfl) (by kernel_rfl) (Or.inl ⟨by rfl, fun w hw => by go_simp⟩) (by assumption) ?_
          try simp only [Act.put, List.setIfInBounds_toArray, List.set_cons_zero, List.set_cons_succ]
          refine wpHB_take (i := 9) (oi := ⟨some 96, _, _, _, _, _⟩) hdir hsel hpan rfl (by kernel_rfl) (by kernel_rfl) (by kernel_rfl) (yieldsIf_load_mid (by rfl) 32 _ rfl b2 _ rfl (kL zc) _ (fun w hw => (range_then HR2.out.1 hw.out HR2.out.2)) Tryz.underlying32 rfl (by kernel_rfl)) (by assumption) ?_
          try simp only [Act.put, List.setIfInBounds_toArray, List.set_cons_zero, List.set_cons_succ]
          refine wpHB_tail (by kernel_rfl) (by kernel_rfl) ?_
          clear hdir hsel hpan
          simp only [opsAt, List.getElem?_toArray, List.getElem?_cons_succ, List.getElem?_cons_zero, Option.toList_some, List.cons_append, List.nil_append]
          go_wp2_with (go_at_call 14; (with_reducible refine (HSQ.out _ hHeld.out).mono ?_); rintro e wz ⟨rfl, hbz⟩)
          first | exact ⟨⟨i + 1, at_, by omega, hat, rfl, by simp, HBM.out, below_then (below_then HB.out hHeld.out) hbz⟩, by simp [intOf]; omega⟩ | (go_roundw; (case rel => exact ⟨i + 1, at_, by omega, hat, rfl, by simp, HBM.out, below_then (below_then HB.out hHeld.out) hbz⟩); (case measure => simp [intOf]; omega))
        · have ta : decide ((at_ : Int) < (nl : Int)) = false := decide_eq_false (by have := HNL.out; omega)
          have ta' : decide (at_ < nl) = false := decide_eq_false (by have := HNL.out; omega)
          clear hh hal
          go_upto_region 19 with (fail)
          refine wp_region_hb (fun w' => Hid (Below wr.heap.size wr w')) [0, 1, 2, 3, 4, 5, 6, 7, 8, 9] [10, 11] (by kernel_rfl) (by kernel_rfl) (by repeat (first | with_reducible refine panOk_then ?_ | with_reducible refine panOk_block ?_ | exact panOk_body)) (Lib.hid (Below.drew (Below.refl _ _))) (fun hdir hsel hpan hHeld => ?_)
          refine wpHB_take (i := 0) (oi := ⟨some 87, _, _, _, _, _⟩) hdir hsel hpan rfl (by kernel_rfl) (by kernel_rfl) (by kernel_rfl) (Or.inl ⟨by rfl, fun _ _ => by rfl⟩) (by assumption) ?_
          try simp only [Act.put, List.setIfInBounds_toArray, List.set_cons_zero, List.set_cons_succ]
          refine wpHB_take (i := 1) (oi := ⟨some 88, _, _, _, _, _⟩) (v := .slice ma.k LC ma.kc) hdir hsel hpan rfl (by kernel_rfl) (by kernel_rfl) (by kernel_rfl) (Or.inl ⟨by rfl, fun w hw => by have hc := (show w.cell? ⟨bu4, 4, none⟩ = some (.slice ma.k LC ma.kc) by rw [← HLA.out]; exact (GA.out.then_ hw.out).cell 4); go_simp⟩) (by assumption) ?_
          try simp only [Act.put, List.setIfInBounds_toArray, List.set_cons_zero, List.set_cons_succ]
          refine wpHB_take (i := 2) (oi := ⟨some 89, _, _, _, _, _⟩) hdir hsel hpan rfl (by kernel_rfl) (by kernel_rfl) (by kernel_rfl) (Or.inl ⟨by rfl, fun _ _ => by rfl⟩) (by assumption) ?_
          try simp only [Act.put, List.setIfInBounds_toArray, List.set_cons_zero, List.set_cons_succ]
          refine wpHB_take (i := 3) (oi := ⟨some 90, _, _, _, _, _⟩) (v := .pointer (some ⟨b3, o3 + i * 16, none⟩)) hdir hsel hpan rfl (by kernel_rfl) (by kernel_rfl) (by kernel_rfl) (Or.inl ⟨by rfl, fun w hw => by go_simp⟩) (by assumption) ?_
          try simp only [Act.put, List.setIfInBounds_toArray, List.set_cons_zero, List.set_cons_succ]
          refine wpHB_take (i := 4) (oi := ⟨some 91, _, _, _, _, _⟩) hdir hsel hpan rfl (by kernel_rfl) (by kernel_rfl) (by kernel_rfl) (yieldsIf_load_mid (by rfl) 32 _ rfl b3 _ rfl (kL za) _ (fun w hw => (range_then HR3.out.1 hw.out HR3.out.2)) Tryz.underlying32 rfl (by kernel_rfl)) (by assumption) ?_
          try simp only [Act.put, List.setIfInBounds_toArray, List.set_cons_zero, List.set_cons_succ]
          refine wpHB_take (i := 5) (oi := ⟨some 92, _, _, _, _, _⟩) hdir hsel hpan rfl (by kernel_rfl) (by kernel_rfl) (by kernel_rfl) (Or.inl ⟨by rfl, fun _ _ => by rfl⟩) (by assumption) ?_
          try simp only [Act.put, List.setIfInBounds_toArray, List.set_cons_zero, List.set_cons_succ]
          refine wpHB_take (i := 6) (oi := ⟨some 93, _, _, _, _, _⟩) (v := .slice m.k LC m.kc) hdir hsel hpan rfl (by kernel_rfl) (by kernel_rfl) (by kernel_rfl) (Or.inl ⟨by rfl, fun w hw => by have hc := (show w.cell? ⟨bc, 4, none⟩ = some (.slice m.k LC m.kc) by rw [← HLC.out]; exact (GC.out.then_ hw.out).cell 4); go_simp⟩) (by assumption) ?_
          try simp only [Act.put, List.setIfInBounds_toArray, List.set_cons_zero, List.set_cons_succ]
          refine wpHB_take (i := 7) (oi := ⟨some 94, _, _, _, _, _⟩) hdir hsel hpan rfl (by kernel_rfl) (by kernel_rfl) (by kernel_rfl) (Or.inl ⟨by rfl, fun _ _ => by rfl⟩) (by assumption) ?_
          try simp only [Act.put, List.setIfInBounds_toArray, List.set_cons_zero, List.set_cons_succ]
          refine wpHB_take (i := 8) (oi := ⟨some 95, _, _, _, _, _⟩) (v := .pointer (some ⟨b2, o2 + i * 16, none⟩)) hdir hsel hpan rfl (by kernel_rfl) (by kernel_rfl) (by kernel_rfl) (Or.inl ⟨by rfl, fun w hw => by go_simp⟩) (by assumption) ?_
          try simp only [Act.put, List.setIfInBounds_toArray, List.set_cons_zero, List.set_cons_succ]
          refine wpHB_take (i := 9) (oi := ⟨some 96, _, _, _, _, _⟩) hdir hsel hpan rfl (by kernel_rfl) (by kernel_rfl) (by kernel_rfl) (yieldsIf_load_mid (by rfl) 32 _ rfl b2 _ rfl (kL zc) _ (fun w hw => (range_then HR2.out.1 hw.out HR2.out.2)) Tryz.underlying32 rfl (by kernel_rfl)) (by assumption) ?_
          try simp only [Act.put, List.setIfInBounds_toArray, List.set_cons_zero, List.set_cons_succ]
          refine wpHB_tail (by kernel_rfl) (by kernel_rfl) ?_
          clear hdir hsel hpan
          simp only [opsAt, List.getElem?_toArray, List.getElem?_cons_succ, List.getElem?_cons_zero, Option.toList_some, List.cons_append, List.nil_append]
          go_wp2_with (go_at_call 14; (with_reducible refine (HSQ.out _ hHeld.out).mono ?_); rintro e wz ⟨rfl, hbz⟩)
          first | exact ⟨⟨i + 1, at_, by omega, hat, rfl, by simp, HBM.out, below_then (below_then HB.out hHeld.out) hbz⟩, by simp [intOf]; omega⟩ | (go_roundw; (case rel => exact ⟨i + 1, at_, by omega, hat, rfl, by simp, HBM.out, below_then (below_then HB.out hHeld.out) hbz⟩); (case measure => simp [intOf]; omega))
      · have tn : decide ((i : Int) < (LC : Int)) = false := decide_eq_false (by omega)
        obtain rfl : LC = i := by omega
        have hfull := HBF.out.full (m := 0) HSRT.out (by decide) (fun y hy => by have := (HTM.out y ((HMEM.out y).1 hy)).2; rw [HLC.out] at this; simpa [HK.out] using this) (fun h => by cases h)
        rw [HNL.out] at hfull
        have hCr := HCC.out.then_ (below_then HB4 HB.out)
        have hAr := hca_4.then_ HB.out
        have gC := gbc_4.then_ HB.out
        have gA := gbu4_4.then_ HB.out
        have hBr := below_then HB4 HB.out
        obtain rfl : nl = at_ := by omega
        skip
        go_upto_region 22 with (first | (refine wpList_row_w (by rfl) 27 _ rfl bc rfl 27 _ gC ⟨_, Tryz.underlying27⟩ (by kernel_rfl) ?_; simp only [Act.put, List.setIfInBounds_toArray, List.set_cons_succ, List.set_cons_zero]) | (refine wpList_store_all rfl 27 _ _ rfl wr.heap.size 27 [] coZ.toList [] (coA c m).toList rfl rfl (Blk.new _ _ _) rfl (by kernel_rfl) (by simp [Value.oneCell']) ?_; intro u7 gd U7))
        have hs7 : Below wr.heap.size wr u7 := (wa1 _ _).trans (U7.b _ (Nat.le_refl _))
        have nA : bu4 ≠ wr.heap.size := by have := gA.lt; omega
        obtain ⟨bd, ebd⟩ : ∃ b, wr.heap.size = b := ⟨_, rfl⟩
        rw [ebd] at gd nA ⊢
        have gA7 := gA.then_ hs7
        have a47 : u7.cell? ⟨bu4, 4, none⟩ = some (.slice ma.k C1.cl.length ma.kc) := gA7.cell 4
        have d4 : u7.cell? ⟨bd, 4, none⟩ = some (.slice m.k c.cl.length m.kc) := gd.cell 4
        have zd : u7.frozen? ⟨bd, 4, none⟩ = false := gd.frozen 4
        have ld := gd.lt
        go_upto_region 23 with (fail)
        refine name_wp ?_
        intro Z hZ
        have gD : Blk Z bd 27 (coA (c.wc C1.cl) ⟨m.h, m.hc, m.u, m.uc, m.a, m.ac, ma.k, ma.kc, m.o, m.oc, ma.ks⟩) := by rw [hZ]; exact gd.set_ 4 _
        have UZ : Upd u7 Z bd := by rw [hZ]; exact (Upd.refl _ _).setCell 4 _
        have gAZ : Blk Z bu4 27 (coA C1 ma) := gA7.upd UZ nA
        have hbZ : Below wr.heap.size wr Z := hs7.trans (UZ.b _ (by omega))
        have hAZ := hAr.then_ hbZ
        have hDZ := cont_mix (hCr.then_ hbZ) hAZ
        rw [HD.out] at gD hDZ
        have HQ := Lib.hid (scon_to C1 C1 ma _ true Z hAZ hDZ (by simp))
        have hBZ := below_then hBr hbZ
        clear hZ UZ hs7 a47 d4 zd ld U7 gd gA7 nA hAZ hDZ hCr hAr gC gA hBr hbZ
        go_wp2_with (first | (refine wpList_row_w (by rfl) 27 _ rfl bu4 rfl 27 _ gAZ ⟨_, Tryz.underlying27⟩ (by kernel_rfl) ?_; simp only [Act.put, List.setIfInBounds_toArray, List.set_cons_succ, List.set_cons_zero]) | (refine wpList_row_w (by rfl) 27 _ rfl bd rfl 27 _ gD ⟨_, Tryz.underlying27⟩ (by kernel_rfl) ?_; simp only [Act.put, List.setIfInBounds_toArray, List.set_cons_succ, List.set_cons_zero]) | (go_at_call 15; (with_reducible refine HQ.out.mono ?_); rintro e wz ⟨rfl, hbz⟩))
        go_ret
        exact ⟨rfl, below_then hBZ hbz⟩
end Go.Proofs.YtplommmegkdhdaaGreatDoor
