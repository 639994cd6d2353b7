/- The walk of FileGrows: one of its ways. -/
import Derived.Test.YtemkghgcdpmlbaaDoorMb22
namespace Go.Proofs.YtemkghgcdpmlbaaDoor
open Go.RowKit Go.Sort

set_option maxRecDepth 100000 in
set_option maxHeartbeats 6400000 in
theorem grows_00 (c : Con) (m : Cm) (f : Fil) (k : Fm) (x : Fac) (b : Int × Int) (w : World) (hL : Lw w) (hc : ContW w c m) (hf : FilW w f k) (hs1 : c.small 60 = true) (hs2 : f.small 200 = true) (hE : f.putE c x ≠ 0) (hG : f.ordE c b ≠ 0) (hV : f.ok c = true) :
    Calls Tryd.prog 3 #[.agg (coA c m), .agg (flA f k), .agg (fA x), .agg (bA b)] w fun e w' => e = .returned (.bool true) ∧ Below w.heap.size w w' := by
  have HH := Lib.hid (fun W (hb : Below w.heap.size w W) => head_any W (hL.below hb))
  have HS1 := Lib.hid (fun W (hb : Below w.heap.size w W) => smallc_at c m true hc hs1 W hb)
  have HS2 := Lib.hid (fun W => smallf_at f k true hs2 W)
  obtain ⟨hF, l1, l2⟩ := small_filt hf hs2
  have hC := small_cont hc hs1
  have HC := Lib.hid hC
  have HF := Lib.hid hF
  clear hc hf hs1 hs2 hL hC
  have HV := Lib.hid (fun W (hb : Below w.heap.size w W) => fvalid_any c m f k W (HC.out.then_ hb) (HF.out.then_ hb))
  have HP := Lib.hid (fun W (hb : Below w.heap.size w W) => put_any c m f k x W (HC.out.then_ hb) (HF.out.then_ hb))
  have HO := Lib.hid (fun W (hb : Below w.heap.size w W) => order_any c m f k b W (HC.out.then_ hb) (HF.out.then_ hb))
  obtain ⟨LF, eLF⟩ : ∃ n, f.facts.length = n := ⟨_, rfl⟩
  obtain ⟨LO, eLO⟩ : ∃ n, f.ords.length = n := ⟨_, rfl⟩
  have ELF := Lib.hid eLF
  have ELO := Lib.hid eLO
  rw [eLF] at l1
  rw [eLO] at l2
  obtain ⟨A, eA⟩ : ∃ A, f.putF c x = A := ⟨_, rfl⟩
  rw [eA] at HP
  obtain ⟨E, eE⟩ : ∃ E, f.putE c x = E := ⟨_, rfl⟩
  rw [eE] at HP hE
  have tE : (E == 0) = false := by rw [beq_eq_false_iff_ne]; exact hE
  obtain ⟨D, eD⟩ : ∃ D, f.ordF c b = D := ⟨_, rfl⟩
  rw [eD] at HO
  obtain ⟨G, eG⟩ : ∃ G, f.ordE c b = G := ⟨_, rfl⟩
  rw [eG] at HO hG
  have tG : (G == 0) = false := by rw [beq_eq_false_iff_ne]; exact hG
  rw [hV] at HV
  clear hE hG hV hF eLF eLO eA eE eD eG
  go_enter Tryd.func3, Tryd.ntmps3
  go_upto_region 1 with (fail)
  refine name_wp ?_
  intro X0 hX
  have gbc : Blk X0 w.heap.size 27 (coA c m) := by rw [hX]; exact (((blk_at (by simp)).alloc _).alloc _).alloc _
  have gbf : Blk X0 (w.heap.size + 1) 31 (flA f k) := by rw [hX]; exact ((blk_at (by simp)).alloc _).alloc _
  have gbx : Blk X0 (w.heap.size + 2) 33 (fA x) := by rw [hX]; exact (blk_at (by simp)).alloc _
  have gbo : Blk X0 (w.heap.size + 3) 35 (bA b) := by rw [hX]; exact blk_at (by simp)
  have HB0 : Below w.heap.size w X0 := by rw [hX]; (repeat (first | with_reducible assumption | with_reducible exact Below.refl _ _ | with_reducible refine below_drewN ?_ _ | with_reducible refine Below.drew ?_ | with_reducible refine below_alloc ?_ _ | with_reducible refine Below.setCell ?_ (by first | omega | (simp; done) | (simp; omega)) _ | with_reducible refine below_then ?_ (by with_reducible assumption) | (refine below_then (a := World.drew _) ?_ (by with_reducible assumption))))
  clear hX
  obtain ⟨bo, ebo⟩ : ∃ b, w.heap.size + 3 = b := ⟨_, rfl⟩
  obtain ⟨bx, ebx⟩ : ∃ b, w.heap.size + 2 = b := ⟨_, rfl⟩
  obtain ⟨bf, ebf⟩ : ∃ b, w.heap.size + 1 = b := ⟨_, rfl⟩
  obtain ⟨bc, ebc⟩ : ∃ b, w.heap.size = b := ⟨_, rfl⟩
  have lbc : w.heap.size ≤ bc := by omega
  have lbf : w.heap.size ≤ bf := by omega
  have lbx : w.heap.size ≤ bx := by omega
  have lbo : w.heap.size ≤ bo := by omega
  have nbcbf : bc ≠ bf := by omega
  have nbcbx : bc ≠ bx := by omega
  have nbcbo : bc ≠ bo := by omega
  have nbfbx : bf ≠ bx := by omega
  have nbfbo : bf ≠ bo := by omega
  have nbxbo : bx ≠ bo := by omega
  rw [ebo] at gbo ⊢
  rw [ebx] at gbx ⊢
  rw [ebf] at gbf ⊢
  rw [ebc] at gbc ⊢
  clear ebc ebf ebx ebo
  go_upto_region 2 with ((go_at_call 8; (with_reducible refine (HH.out _ HB0).mono ?_); rintro e w1 ⟨rfl, hbw1⟩))
  have HH1 := hbw1
  have HB1 := below_then HB0 HH1
  have gbc_1 := gbc.then_ HH1
  have gbf_1 := gbf.then_ HH1
  have gbx_1 := gbx.then_ HH1
  have gbo_1 := gbo.then_ HH1
  clear gbc gbf gbx gbo HB0 HH1
  go_upto_region 4 with (first | (refine wpList_row_w (by rfl) 27 _ rfl bc rfl 27 _ gbc_1 ⟨_, Tryd.underlying27⟩ (by kernel_rfl) ?_; simp only [Act.put, List.setIfInBounds_toArray, List.set_cons_succ, List.set_cons_zero]) | (go_at_call 9; (with_reducible refine (HS1.out _ HB1).mono ?_); rintro e w2 ⟨rfl, hbw2⟩; have gf2 := gbf_1.then_ hbw2) | (refine wpList_row_w (by rfl) 31 _ rfl bf rfl 31 _ gf2 ⟨_, Tryd.underlying31⟩ (by kernel_rfl) ?_; simp only [Act.put, List.setIfInBounds_toArray, List.set_cons_succ, List.set_cons_zero]) | (go_at_call 10; (with_reducible refine (HS2.out _).mono ?_); rintro e w3 ⟨rfl, hbw3⟩))
  have HH2 := below_then hbw2 hbw3
  have HB2 := below_then HB1 HH2
  have gbc_2 := gbc_1.then_ HH2
  have gbf_2 := gbf_1.then_ HH2
  have gbx_2 := gbx_1.then_ HH2
  have gbo_2 := gbo_1.then_ HH2
  clear gbc_1 gbf_1 gbx_1 gbo_1 HB1 HH2
  go_upto_region 5 with (first | (refine wpList_row_w (by rfl) 27 _ rfl bc rfl 27 _ gbc_2 ⟨_, Tryd.underlying27⟩ (by kernel_rfl) ?_; simp only [Act.put, List.setIfInBounds_toArray, List.set_cons_succ, List.set_cons_zero]) | (refine wpList_row_w (by rfl) 31 _ rfl bf rfl 31 _ gbf_2 ⟨_, Tryd.underlying31⟩ (by kernel_rfl) ?_; simp only [Act.put, List.setIfInBounds_toArray, List.set_cons_succ, List.set_cons_zero]) | (refine wpList_row_w (by rfl) 33 _ rfl bx rfl 33 _ gbx_2 ⟨_, Tryd.underlying33⟩ (by kernel_rfl) ?_; simp only [Act.put, List.setIfInBounds_toArray, List.set_cons_succ, List.set_cons_zero]) | (go_at_call 11; (with_reducible refine (HP.out _ HB2).mono ?_); rintro e w4 ⟨⟨ma, rfl, hFa, _⟩, hbw4⟩) | (refine wpList_store_all rfl 31 _ _ rfl w4.heap.size 31 [] zF.toList [] (flA A ma).toList rfl rfl (Blk.new _ _ _) rfl (by kernel_rfl) (by simp [Value.oneCell']) ?_; intro u4 gbu4 Uu4))
  have hsu4 : Below w4.heap.size w4 u4 := (wa1 _ _).trans (Uu4.b _ (Nat.le_refl _))
  have HH3 := below_then hbw4 hsu4
  have HB3 := below_then HB2 HH3
  have gbc_3 := gbc_2.then_ HH3
  have gbf_3 := gbf_2.then_ HH3
  have gbx_3 := gbx_2.then_ HH3
  have gbo_3 := gbo_2.then_ HH3
  clear gbc_2 gbf_2 gbx_2 gbo_2 HB2 HH3
  have hFA := hFa.then_ hsu4
  obtain ⟨bu4, ebu4⟩ : ∃ b, w4.heap.size = b := ⟨_, rfl⟩
  rw [ebu4] at gbu4 ⊢
  clear ebu4 Uu4 hsu4 hbw4 hFa
  go_upto_region 6 with (first | (refine wpList_row_w (by rfl) 27 _ rfl bc rfl 27 _ gbc_3 ⟨_, Tryd.underlying27⟩ (by kernel_rfl) ?_; simp only [Act.put, List.setIfInBounds_toArray, List.set_cons_succ, List.set_cons_zero]) | (refine wpList_row_w (by rfl) 31 _ rfl bf rfl 31 _ gbf_3 ⟨_, Tryd.underlying31⟩ (by kernel_rfl) ?_; simp only [Act.put, List.setIfInBounds_toArray, List.set_cons_succ, List.set_cons_zero]) | (refine wpList_row_w (by rfl) 35 _ rfl bo rfl 35 _ gbo_3 ⟨_, Tryd.underlying35⟩ (by kernel_rfl) ?_; simp only [Act.put, List.setIfInBounds_toArray, List.set_cons_succ, List.set_cons_zero]) | (go_at_call 12; (with_reducible refine (HO.out _ HB3).mono ?_); rintro e w5 ⟨⟨md, rfl, hFd, _⟩, hbw5⟩) | (refine wpList_store_all rfl 31 _ _ rfl w5.heap.size 31 [] zF.toList [] (flA D md).toList rfl rfl (Blk.new _ _ _) rfl (by kernel_rfl) (by simp [Value.oneCell']) ?_; intro u5 gbu5 Uu5))
  have hsu5 : Below w5.heap.size w5 u5 := (wa1 _ _).trans (Uu5.b _ (Nat.le_refl _))
  have HH4 := below_then hbw5 hsu5
  have HB4 := below_then HB3 HH4
  have gbc_4 := gbc_3.then_ HH4
  have gbf_4 := gbf_3.then_ HH4
  have gbx_4 := gbx_3.then_ HH4
  have gbo_4 := gbo_3.then_ HH4
  have gbu4_4 := gbu4.then_ HH4
  have hFA_4 := hFA.then_ HH4
  clear gbc_3 gbf_3 gbx_3 gbo_3 gbu4 hFA HB3 HH4
  have hFD := hFd.then_ hsu5
  obtain ⟨bu5, ebu5⟩ : ∃ b, w5.heap.size = b := ⟨_, rfl⟩
  rw [ebu5] at gbu5 ⊢
  clear ebu5 Uu5 hsu5 hbw5 hFd
  go_upto_region 10 with (fail)
  go_wp2_with (first | (refine wpList_row_w (by rfl) 27 _ rfl bc rfl 27 _ gbc_4 ⟨_, Tryd.underlying27⟩ (by kernel_rfl) ?_; simp only [Act.put, List.setIfInBounds_toArray, List.set_cons_succ, List.set_cons_zero]) | (refine wpList_row_w (by rfl) 31 _ rfl bf rfl 31 _ gbf_4 ⟨_, Tryd.underlying31⟩ (by kernel_rfl) ?_; simp only [Act.put, List.setIfInBounds_toArray, List.set_cons_succ, List.set_cons_zero]) | (go_at_call 13; (with_reducible refine (HV.out _ HB4).mono ?_); rintro e w10 ⟨rfl, hb10⟩))
  go_ret
  exact ⟨rfl, below_then HB4 hb10⟩
set_option maxRecDepth 100000 in
set_option maxHeartbeats 6400000 in
theorem grows_bad (c : Con) (m : Cm) (f : Fil) (k : Fm) (x : Fac) (b : Int × Int) (w : World) (hL : Lw w) (hc : ContW w c m) (hf : FilW w f k) (hs1 : c.small 60 = true) (hs2 : f.small 200 = true) (hV : f.ok c = false) :
    Calls Tryd.prog 3 #[.agg (coA c m), .agg (flA f k), .agg (fA x), .agg (bA b)] w fun e w' => e = .returned (.bool true) ∧ Below w.heap.size w w' := by
  have HH := Lib.hid (fun W (hb : Below w.heap.size w W) => head_any W (hL.below hb))
  have HS1 := Lib.hid (fun W (hb : Below w.heap.size w W) => smallc_at c m true hc hs1 W hb)
  have HS2 := Lib.hid (fun W => smallf_at f k true hs2 W)
  obtain ⟨hF, l1, l2⟩ := small_filt hf hs2
  have hC := small_cont hc hs1
  have HC := Lib.hid hC
  have HF := Lib.hid hF
  clear hc hf hs1 hs2 hL hC
  have HV := Lib.hid (fun W (hb : Below w.heap.size w W) => fvalid_any c m f k W (HC.out.then_ hb) (HF.out.then_ hb))
  have HP := Lib.hid (fun W (hb : Below w.heap.size w W) => put_any c m f k x W (HC.out.then_ hb) (HF.out.then_ hb))
  have HO := Lib.hid (fun W (hb : Below w.heap.size w W) => order_any c m f k b W (HC.out.then_ hb) (HF.out.then_ hb))
  obtain ⟨LF, eLF⟩ : ∃ n, f.facts.length = n := ⟨_, rfl⟩
  obtain ⟨LO, eLO⟩ : ∃ n, f.ords.length = n := ⟨_, rfl⟩
  have ELF := Lib.hid eLF
  have ELO := Lib.hid eLO
  rw [eLF] at l1
  rw [eLO] at l2
  obtain ⟨e1, e2⟩ := bad_file hV x b
  rw [e1] at HP
  rw [e2] at HO
  obtain ⟨A, eA⟩ : ∃ A, f.putF c x = A := ⟨_, rfl⟩
  rw [eA] at HP
  obtain ⟨D, eD⟩ : ∃ D, f.ordF c b = D := ⟨_, rfl⟩
  rw [eD] at HO
  rw [hV] at HV
  clear hV hF eLF eLO eA eD e1 e2
  go_enter Tryd.func3, Tryd.ntmps3
  go_upto_region 1 with (fail)
  refine name_wp ?_
  intro X0 hX
  have gbc : Blk X0 w.heap.size 27 (coA c m) := by rw [hX]; exact (((blk_at (by simp)).alloc _).alloc _).alloc _
  have gbf : Blk X0 (w.heap.size + 1) 31 (flA f k) := by rw [hX]; exact ((blk_at (by simp)).alloc _).alloc _
  have gbx : Blk X0 (w.heap.size + 2) 33 (fA x) := by rw [hX]; exact (blk_at (by simp)).alloc _
  have gbo : Blk X0 (w.heap.size + 3) 35 (bA b) := by rw [hX]; exact blk_at (by simp)
  have HB0 : Below w.heap.size w X0 := by rw [hX]; (repeat (first | with_reducible assumption | with_reducible exact Below.refl _ _ | with_reducible refine below_drewN ?_ _ | with_reducible refine Below.drew ?_ | with_reducible refine below_alloc ?_ _ | with_reducible refine Below.setCell ?_ (by first | omega | (simp; done) | (simp; omega)) _ | with_reducible refine below_then ?_ (by with_reducible assumption) | (refine below_then (a := World.drew _) ?_ (by with_reducible assumption))))
  clear hX
  obtain ⟨bo, ebo⟩ : ∃ b, w.heap.size + 3 = b := ⟨_, rfl⟩
  obtain ⟨bx, ebx⟩ : ∃ b, w.heap.size + 2 = b := ⟨_, rfl⟩
  obtain ⟨bf, ebf⟩ : ∃ b, w.heap.size + 1 = b := ⟨_, rfl⟩
  obtain ⟨bc, ebc⟩ : ∃ b, w.heap.size = b := ⟨_, rfl⟩
  have lbc : w.heap.size ≤ bc := by omega
  have lbf : w.heap.size ≤ bf := by omega
  have lbx : w.heap.size ≤ bx := by omega
  have lbo : w.heap.size ≤ bo := by omega
  have nbcbf : bc ≠ bf := by omega
  have nbcbx : bc ≠ bx := by omega
  have nbcbo : bc ≠ bo := by omega
  have nbfbx : bf ≠ bx := by omega
  have nbfbo : bf ≠ bo := by omega
  have nbxbo : bx ≠ bo := by omega
  rw [ebo] at gbo ⊢
  rw [ebx] at gbx ⊢
  rw [ebf] at gbf ⊢
  rw [ebc] at gbc ⊢
  clear ebc ebf ebx ebo
  go_upto_region 2 with ((go_at_call 8; (with_reducible refine (HH.out _ HB0).mono ?_); rintro e w1 ⟨rfl, hbw1⟩))
  have HH1 := hbw1
  have HB1 := below_then HB0 HH1
  have gbc_1 := gbc.then_ HH1
  have gbf_1 := gbf.then_ HH1
  have gbx_1 := gbx.then_ HH1
  have gbo_1 := gbo.then_ HH1
  clear gbc gbf gbx gbo HB0 HH1
  go_upto_region 4 with (first | (refine wpList_row_w (by rfl) 27 _ rfl bc rfl 27 _ gbc_1 ⟨_, Tryd.underlying27⟩ (by kernel_rfl) ?_; simp only [Act.put, List.setIfInBounds_toArray, List.set_cons_succ, List.set_cons_zero]) | (go_at_call 9; (with_reducible refine (HS1.out _ HB1).mono ?_); rintro e w2 ⟨rfl, hbw2⟩; have gf2 := gbf_1.then_ hbw2) | (refine wpList_row_w (by rfl) 31 _ rfl bf rfl 31 _ gf2 ⟨_, Tryd.underlying31⟩ (by kernel_rfl) ?_; simp only [Act.put, List.setIfInBounds_toArray, List.set_cons_succ, List.set_cons_zero]) | (go_at_call 10; (with_reducible refine (HS2.out _).mono ?_); rintro e w3 ⟨rfl, hbw3⟩))
  have HH2 := below_then hbw2 hbw3
  have HB2 := below_then HB1 HH2
  have gbc_2 := gbc_1.then_ HH2
  have gbf_2 := gbf_1.then_ HH2
  have gbx_2 := gbx_1.then_ HH2
  have gbo_2 := gbo_1.then_ HH2
  clear gbc_1 gbf_1 gbx_1 gbo_1 HB1 HH2
  go_upto_region 5 with (first | (refine wpList_row_w (by rfl) 27 _ rfl bc rfl 27 _ gbc_2 ⟨_, Tryd.underlying27⟩ (by kernel_rfl) ?_; simp only [Act.put, List.setIfInBounds_toArray, List.set_cons_succ, List.set_cons_zero]) | (refine wpList_row_w (by rfl) 31 _ rfl bf rfl 31 _ gbf_2 ⟨_, Tryd.underlying31⟩ (by kernel_rfl) ?_; simp only [Act.put, List.setIfInBounds_toArray, List.set_cons_succ, List.set_cons_zero]) | (refine wpList_row_w (by rfl) 33 _ rfl bx rfl 33 _ gbx_2 ⟨_, Tryd.underlying33⟩ (by kernel_rfl) ?_; simp only [Act.put, List.setIfInBounds_toArray, List.set_cons_succ, List.set_cons_zero]) | (go_at_call 11; (with_reducible refine (HP.out _ HB2).mono ?_); rintro e w4 ⟨⟨ma, rfl, hFa, _⟩, hbw4⟩) | (refine wpList_store_all rfl 31 _ _ rfl w4.heap.size 31 [] zF.toList [] (flA A ma).toList rfl rfl (Blk.new _ _ _) rfl (by kernel_rfl) (by simp [Value.oneCell']) ?_; intro u4 gbu4 Uu4))
  have hsu4 : Below w4.heap.size w4 u4 := (wa1 _ _).trans (Uu4.b _ (Nat.le_refl _))
  have HH3 := below_then hbw4 hsu4
  have HB3 := below_then HB2 HH3
  have gbc_3 := gbc_2.then_ HH3
  have gbf_3 := gbf_2.then_ HH3
  have gbx_3 := gbx_2.then_ HH3
  have gbo_3 := gbo_2.then_ HH3
  clear gbc_2 gbf_2 gbx_2 gbo_2 HB2 HH3
  have hFA := hFa.then_ hsu4
  obtain ⟨bu4, ebu4⟩ : ∃ b, w4.heap.size = b := ⟨_, rfl⟩
  rw [ebu4] at gbu4 ⊢
  clear ebu4 Uu4 hsu4 hbw4 hFa
  go_upto_region 6 with (first | (refine wpList_row_w (by rfl) 27 _ rfl bc rfl 27 _ gbc_3 ⟨_, Tryd.underlying27⟩ (by kernel_rfl) ?_; simp only [Act.put, List.setIfInBounds_toArray, List.set_cons_succ, List.set_cons_zero]) | (refine wpList_row_w (by rfl) 31 _ rfl bf rfl 31 _ gbf_3 ⟨_, Tryd.underlying31⟩ (by kernel_rfl) ?_; simp only [Act.put, List.setIfInBounds_toArray, List.set_cons_succ, List.set_cons_zero]) | (refine wpList_row_w (by rfl) 35 _ rfl bo rfl 35 _ gbo_3 ⟨_, Tryd.underlying35⟩ (by kernel_rfl) ?_; simp only [Act.put, List.setIfInBounds_toArray, List.set_cons_succ, List.set_cons_zero]) | (go_at_call 12; (with_reducible refine (HO.out _ HB3).mono ?_); rintro e w5 ⟨⟨md, rfl, hFd, _⟩, hbw5⟩) | (refine wpList_store_all rfl 31 _ _ rfl w5.heap.size 31 [] zF.toList [] (flA D md).toList rfl rfl (Blk.new _ _ _) rfl (by kernel_rfl) (by simp [Value.oneCell']) ?_; intro u5 gbu5 Uu5))
  have hsu5 : Below w5.heap.size w5 u5 := (wa1 _ _).trans (Uu5.b _ (Nat.le_refl _))
  have HH4 := below_then hbw5 hsu5
  have HB4 := below_then HB3 HH4
  have gbc_4 := gbc_3.then_ HH4
  have gbf_4 := gbf_3.then_ HH4
  have gbx_4 := gbx_3.then_ HH4
  have gbo_4 := gbo_3.then_ HH4
  have gbu4_4 := gbu4.then_ HH4
  have hFA_4 := hFA.then_ HH4
  clear gbc_3 gbf_3 gbx_3 gbo_3 gbu4 hFA HB3 HH4
  have hFD := hFd.then_ hsu5
  obtain ⟨bu5, ebu5⟩ : ∃ b, w5.heap.size = b := ⟨_, rfl⟩
  rw [ebu5] at gbu5 ⊢
  clear ebu5 Uu5 hsu5 hbw5 hFd
  go_upto_region 10 with (fail)
  go_wp2_with (first | (refine wpList_row_w (by rfl) 27 _ rfl bc rfl 27 _ gbc_4 ⟨_, Tryd.underlying27⟩ (by kernel_rfl) ?_; simp only [Act.put, List.setIfInBounds_toArray, List.set_cons_succ, List.set_cons_zero]) | (refine wpList_row_w (by rfl) 31 _ rfl bf rfl 31 _ gbf_4 ⟨_, Tryd.underlying31⟩ (by kernel_rfl) ?_; simp only [Act.put, List.setIfInBounds_toArray, List.set_cons_succ, List.set_cons_zero]) | (go_at_call 13; (with_reducible refine (HV.out _ HB4).mono ?_); rintro e w10 ⟨rfl, hb10⟩))
  go_ret
  exact ⟨rfl, below_then HB4 hb10⟩
end Go.Proofs.YtemkghgcdpmlbaaDoor
