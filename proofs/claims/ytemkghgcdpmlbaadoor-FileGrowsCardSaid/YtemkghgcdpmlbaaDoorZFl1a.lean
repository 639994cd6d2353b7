/- The walk of FileGrows: one of its ways. -/
import Derived.Test.YtemkghgcdpmlbaaDoorMb22
namespace Go.Proofs.YtemkghgcdpmlbaaDoor
open Go.RowKit Go.Sort

set_option maxRecDepth 100000 in
set_option maxHeartbeats 6400000 in
theorem grows_11 (c : Con) (m : Cm) (f : Fil) (k : Fm) (x : Fac) (b : Int × Int) (w : World) (hL : Lw w) (hc : ContW w c m) (hf : FilW w f k) (hs1 : c.small 60 = true) (hs2 : f.small 200 = true) (hE : f.putE c x = 0) (hG : f.ordE c b = 0) :
    Calls Tryd.prog 3 #[.agg (coA c m), .agg (flA f k), .agg (fA x), .agg (bA b)] w fun e w' => e = .returned (.bool true) ∧ Below w.heap.size w w' := by
  have HH := Lib.hid (fun W (hb : Below w.heap.size w W) => head_any W (hL.below hb))
  have HS1 := Lib.hid (fun W (hb : Below w.heap.size w W) => smallc_at c m true hc hs1 W hb)
  have HS2 := Lib.hid (fun W => smallf_at f k true hs2 W)
  obtain ⟨hF, l1, l2⟩ := small_filt hf hs2
  have hC := small_cont hc hs1
  have HC := Lib.hid hC
  have HF := Lib.hid hF
  clear hc hf hs1 hs2 hL hC
  have HV := Lib.hid (fun W (hb : Below w.heap.size w W) => fvalid_any c m f k W (HC.out.then_ hb) (HF.out.then_ hb))
  have HP := Lib.hid (fun W (hb : Below w.heap.size w W) => put_any c m f k x W (HC.out.then_ hb) (HF.out.then_ hb))
  have HO := Lib.hid (fun W (hb : Below w.heap.size w W) => order_any c m f k b W (HC.out.then_ hb) (HF.out.then_ hb))
  obtain ⟨LF, eLF⟩ : ∃ n, f.facts.length = n := ⟨_, rfl⟩
  obtain ⟨LO, eLO⟩ : ∃ n, f.ords.length = n := ⟨_, rfl⟩
  have ELF := Lib.hid eLF
  have ELO := Lib.hid eLO
  rw [eLF] at l1
  rw [eLO] at l2
  obtain ⟨p1, p2, p3, p4, p5, p6⟩ := grows_put hE
  have hVt : f.ok c = true := Fil.ok_iff.2 (put_iff.1 hE).1
  rw [show f.putF c x = f.put x from if_pos hE, hE] at HP
  obtain ⟨A, eA⟩ : ∃ A, f.put x = A := ⟨_, rfl⟩
  rw [eA] at HP p1 p2 p3 p4 p5 p6
  rw [eLF] at p4
  rw [eLO] at p5
  have HPV := Lib.hid p1
  have HPH := Lib.hid p2
  have HPM := Lib.hid p3
  have HPL1 := Lib.hid p4
  have HPL2 := Lib.hid p5
  have HPA := Lib.hid (fun W ma (hb : Below w.heap.size w W) (h : Filt W A ma) => put_any c m A ma x W (HC.out.then_ hb) h)
  rw [p6] at HPA
  obtain ⟨Z1, eZ1⟩ : ∃ Z, A.putF c x = Z := ⟨_, rfl⟩
  rw [eZ1] at HPA
  clear eA eZ1 p1 p2 p3 p4 p5 p6
  obtain ⟨p1, p2, p3, p4, p5, p6⟩ := grows_ord hG
  have hVt2 : f.ok c = true := Fil.ok_iff.2 (ord_iff.1 hG).1
  rw [show f.ordF c b = f.ord b from if_pos hG, hG] at HO
  obtain ⟨D, eD⟩ : ∃ D, f.ord b = D := ⟨_, rfl⟩
  rw [eD] at HO p1 p2 p3 p4 p5 p6
  rw [eLF] at p4
  rw [eLO] at p5
  have HOV := Lib.hid p1
  have HOH := Lib.hid p2
  have HOM := Lib.hid p3
  have HOL1 := Lib.hid p4
  have HOL2 := Lib.hid p5
  have HOA := Lib.hid (fun W ma (hb : Below w.heap.size w W) (h : Filt W D ma) => order_any c m D ma b W (HC.out.then_ hb) h)
  rw [p6] at HOA
  obtain ⟨Z2, eZ2⟩ : ∃ Z, D.ordF c b = Z := ⟨_, rfl⟩
  rw [eZ2] at HOA
  clear eD eZ2 p1 p2 p3 p4 p5 p6
  rw [hVt] at HV
  clear hE hG hVt hVt2 hF eLF eLO
  go_enter Tryd.func3, Tryd.ntmps3
  go_upto_region 1 with (fail)
  refine name_wp ?_
  intro X0 hX
  have gbc : Blk X0 w.heap.size 27 (coA c m) := by rw [hX]; exact (((blk_at (by simp)).alloc _).alloc _).alloc _
  have gbf : Blk X0 (w.heap.size + 1) 31 (flA f k) := by rw [hX]; exact ((blk_at (by simp)).alloc _).alloc _
  have gbx : Blk X0 (w.heap.size + 2) 33 (fA x) := by rw [hX]; exact (blk_at (by simp)).alloc _
  have gbo : Blk X0 (w.heap.size + 3) 35 (bA b) := by rw [hX]; exact blk_at (by simp)
  have HB0 : Below w.heap.size w X0 := by rw [hX]; (repeat (first | with_reducible assumption | with_reducible exact Below.refl _ _ | with_reducible refine below_drewN ?_ _ | with_reducible refine Below.drew ?_ | with_reducible refine below_alloc ?_ _ | with_reducible refine Below.setCell ?_ (by first | omega | (simp; done) | (simp; omega)) _ | with_reducible refine below_then ?_ (by with_reducible assumption) | (refine below_then (a := World.drew _) ?_ (by with_reducible assumption))))
  clear hX
  obtain ⟨bo, ebo⟩ : ∃ b, w.heap.size + 3 = b := ⟨_, rfl⟩
  obtain ⟨bx, ebx⟩ : ∃ b, w.heap.size + 2 = b := ⟨_, rfl⟩
  obtain ⟨bf, ebf⟩ : ∃ b, w.heap.size + 1 = b := ⟨_, rfl⟩
  obtain ⟨bc, ebc⟩ : ∃ b, w.heap.size = b := ⟨_, rfl⟩
  have lbc : w.heap.size ≤ bc := by omega
  have lbf : w.heap.size ≤ bf := by omega
  have lbx : w.heap.size ≤ bx := by omega
  have lbo : w.heap.size ≤ bo := by omega
  have nbcbf : bc ≠ bf := by omega
  have nbcbx : bc ≠ bx := by omega
  have nbcbo : bc ≠ bo := by omega
  have nbfbx : bf ≠ bx := by omega
  have nbfbo : bf ≠ bo := by omega
  have nbxbo : bx ≠ bo := by omega
  rw [ebo] at gbo ⊢
  rw [ebx] at gbx ⊢
  rw [ebf] at gbf ⊢
  rw [ebc] at gbc ⊢
  clear ebc ebf ebx ebo
  go_upto_region 2 with ((go_at_call 8; (with_reducible refine (HH.out _ HB0).mono ?_); rintro e w1 ⟨rfl, hbw1⟩))
  have HH1 := hbw1
  have HB1 := below_then HB0 HH1
  have gbc_1 := gbc.then_ HH1
  have gbf_1 := gbf.then_ HH1
  have gbx_1 := gbx.then_ HH1
  have gbo_1 := gbo.then_ HH1
  clear gbc gbf gbx gbo HB0 HH1
  go_upto_region 4 with (first | (refine wpList_row_w (by rfl) 27 _ rfl bc rfl 27 _ gbc_1 ⟨_, Tryd.underlying27⟩ (by kernel_rfl) ?_; simp only [Act.put, List.setIfInBounds_toArray, List.set_cons_succ, List.set_cons_zero]) | (go_at_call 9; (with_reducible refine (HS1.out _ HB1).mono ?_); rintro e w2 ⟨rfl, hbw2⟩; have gf2 := gbf_1.then_ hbw2) | (refine wpList_row_w (by rfl) 31 _ rfl bf rfl 31 _ gf2 ⟨_, Tryd.underlying31⟩ (by kernel_rfl) ?_; simp only [Act.put, List.setIfInBounds_toArray, List.set_cons_succ, List.set_cons_zero]) | (go_at_call 10; (with_reducible refine (HS2.out _).mono ?_); rintro e w3 ⟨rfl, hbw3⟩))
  have HH2 := below_then hbw2 hbw3
  have HB2 := below_then HB1 HH2
  have gbc_2 := gbc_1.then_ HH2
  have gbf_2 := gbf_1.then_ HH2
  have gbx_2 := gbx_1.then_ HH2
  have gbo_2 := gbo_1.then_ HH2
  clear gbc_1 gbf_1 gbx_1 gbo_1 HB1 HH2
  go_upto_region 5 with (first | (refine wpList_row_w (by rfl) 27 _ rfl bc rfl 27 _ gbc_2 ⟨_, Tryd.underlying27⟩ (by kernel_rfl) ?_; simp only [Act.put, List.setIfInBounds_toArray, List.set_cons_succ, List.set_cons_zero]) | (refine wpList_row_w (by rfl) 31 _ rfl bf rfl 31 _ gbf_2 ⟨_, Tryd.underlying31⟩ (by kernel_rfl) ?_; simp only [Act.put, List.setIfInBounds_toArray, List.set_cons_succ, List.set_cons_zero]) | (refine wpList_row_w (by rfl) 33 _ rfl bx rfl 33 _ gbx_2 ⟨_, Tryd.underlying33⟩ (by kernel_rfl) ?_; simp only [Act.put, List.setIfInBounds_toArray, List.set_cons_succ, List.set_cons_zero]) | (go_at_call 11; (with_reducible refine (HP.out _ HB2).mono ?_); rintro e w4 ⟨⟨ma, rfl, hFa, _⟩, hbw4⟩) | (refine wpList_store_all rfl 31 _ _ rfl w4.heap.size 31 [] zF.toList [] (flA A ma).toList rfl rfl (Blk.new _ _ _) rfl (by kernel_rfl) (by simp [Value.oneCell']) ?_; intro u4 gbu4 Uu4))
  have hsu4 : Below w4.heap.size w4 u4 := (wa1 _ _).trans (Uu4.b _ (Nat.le_refl _))
  have HH3 := below_then hbw4 hsu4
  have HB3 := below_then HB2 HH3
  have gbc_3 := gbc_2.then_ HH3
  have gbf_3 := gbf_2.then_ HH3
  have gbx_3 := gbx_2.then_ HH3
  have gbo_3 := gbo_2.then_ HH3
  clear gbc_2 gbf_2 gbx_2 gbo_2 HB2 HH3
  have hFA := hFa.then_ hsu4
  obtain ⟨bu4, ebu4⟩ : ∃ b, w4.heap.size = b := ⟨_, rfl⟩
  rw [ebu4] at gbu4 ⊢
  clear ebu4 Uu4 hsu4 hbw4 hFa
  go_upto_region 6 with (first | (refine wpList_row_w (by rfl) 27 _ rfl bc rfl 27 _ gbc_3 ⟨_, Tryd.underlying27⟩ (by kernel_rfl) ?_; simp only [Act.put, List.setIfInBounds_toArray, List.set_cons_succ, List.set_cons_zero]) | (refine wpList_row_w (by rfl) 31 _ rfl bf rfl 31 _ gbf_3 ⟨_, Tryd.underlying31⟩ (by kernel_rfl) ?_; simp only [Act.put, List.setIfInBounds_toArray, List.set_cons_succ, List.set_cons_zero]) | (refine wpList_row_w (by rfl) 35 _ rfl bo rfl 35 _ gbo_3 ⟨_, Tryd.underlying35⟩ (by kernel_rfl) ?_; simp only [Act.put, List.setIfInBounds_toArray, List.set_cons_succ, List.set_cons_zero]) | (go_at_call 12; (with_reducible refine (HO.out _ HB3).mono ?_); rintro e w5 ⟨⟨md, rfl, hFd, _⟩, hbw5⟩) | (refine wpList_store_all rfl 31 _ _ rfl w5.heap.size 31 [] zF.toList [] (flA D md).toList rfl rfl (Blk.new _ _ _) rfl (by kernel_rfl) (by simp [Value.oneCell']) ?_; intro u5 gbu5 Uu5))
  have hsu5 : Below w5.heap.size w5 u5 := (wa1 _ _).trans (Uu5.b _ (Nat.le_refl _))
  have HH4 := below_then hbw5 hsu5
  have HB4 := below_then HB3 HH4
  have gbc_4 := gbc_3.then_ HH4
  have gbf_4 := gbf_3.then_ HH4
  have gbx_4 := gbx_3.then_ HH4
  have gbo_4 := gbo_3.then_ HH4
  have gbu4_4 := gbu4.then_ HH4
  have hFA_4 := hFA.then_ HH4
  clear gbc_3 gbf_3 gbx_3 gbo_3 gbu4 hFA HB3 HH4
  have hFD := hFd.then_ hsu5
  obtain ⟨bu5, ebu5⟩ : ∃ b, w5.heap.size = b := ⟨_, rfl⟩
  rw [ebu5] at gbu5 ⊢
  clear ebu5 Uu5 hsu5 hbw5 hFd
  go_upto_region 8 with (first | (refine wpList_row_w (by rfl) 27 _ rfl bc rfl 27 _ gbc_4 ⟨_, Tryd.underlying27⟩ (by kernel_rfl) ?_; simp only [Act.put, List.setIfInBounds_toArray, List.set_cons_succ, List.set_cons_zero]) | (refine wpList_row_w (by rfl) 31 _ rfl bu4 rfl 31 _ gbu4_4 ⟨_, Tryd.underlying31⟩ (by kernel_rfl) ?_; simp only [Act.put, List.setIfInBounds_toArray, List.set_cons_succ, List.set_cons_zero]) | (refine wpList_row_w (by rfl) 33 _ rfl bx rfl 33 _ gbx_4 ⟨_, Tryd.underlying33⟩ (by kernel_rfl) ?_; simp only [Act.put, List.setIfInBounds_toArray, List.set_cons_succ, List.set_cons_zero]) | (go_at_call 11; (with_reducible refine (HPA.out _ _ HB4 hFA_4).mono ?_); rintro e w61 ⟨⟨mz1, rfl, hFz1, _⟩, hbw61⟩) | (refine wpList_store_all rfl 31 _ _ rfl w61.heap.size 31 [] zF.toList [] (flA Z1 mz1).toList rfl rfl (Blk.new _ _ _) rfl (by kernel_rfl) (by simp [Value.oneCell']) ?_; intro u61 gbu61 Uu61))
  have hsu61 : Below w61.heap.size w61 u61 := (wa1 _ _).trans (Uu61.b _ (Nat.le_refl _))
  have HH5 := below_then hbw61 hsu61
  have HB5 := below_then HB4 HH5
  have gbc_5 := gbc_4.then_ HH5
  have gbf_5 := gbf_4.then_ HH5
  have gbx_5 := gbx_4.then_ HH5
  have gbo_5 := gbo_4.then_ HH5
  have gbu4_5 := gbu4_4.then_ HH5
  have hFA_5 := hFA_4.then_ HH5
  have gbu5_5 := gbu5.then_ HH5
  have hFD_5 := hFD.then_ HH5
  clear gbc_4 gbf_4 gbx_4 gbo_4 gbu4_4 hFA_4 gbu5 hFD HB4 HH5
  obtain ⟨bu61, ebu61⟩ : ∃ b, w61.heap.size = b := ⟨_, rfl⟩
  rw [ebu61] at gbu61 ⊢
  clear ebu61 Uu61 hsu61 hbw61 
  clear gbu61
  go_upto_region 10 with (first | (refine wpList_row_w (by rfl) 27 _ rfl bc rfl 27 _ gbc_5 ⟨_, Tryd.underlying27⟩ (by kernel_rfl) ?_; simp only [Act.put, List.setIfInBounds_toArray, List.set_cons_succ, List.set_cons_zero]) | (refine wpList_row_w (by rfl) 31 _ rfl bu4 rfl 31 _ gbu4_5 ⟨_, Tryd.underlying31⟩ (by kernel_rfl) ?_; simp only [Act.put, List.setIfInBounds_toArray, List.set_cons_succ, List.set_cons_zero]) | (go_at_call 13; (with_reducible refine (fval_true HPV.out (HC.out.then_ HB5) hFA_5).mono ?_); rintro e w7 ⟨rfl, hb7⟩; have g7 := gbu4_5.then_ hb7; have f7 := gbf_5.then_ hb7; have B7 := below_then HB5 hb7) | (refine wpList_row_w (by rfl) 31 _ rfl bu4 rfl 31 _ g7 ⟨_, Tryd.underlying31⟩ (by kernel_rfl) ?_; simp only [Act.put, List.setIfInBounds_toArray, List.set_cons_succ, List.set_cons_zero]) | (refine wpList_row_w (by rfl) 31 _ rfl bf rfl 31 _ f7 ⟨_, Tryd.underlying31⟩ (by kernel_rfl) ?_; simp only [Act.put, List.setIfInBounds_toArray, List.set_cons_succ, List.set_cons_zero]) | (go_at_call 14; (with_reducible refine (has_true HPH.out (hFA_5.then_ hb7) (HF.out.then_ B7)).mono ?_); rintro e w8 ⟨rfl, hb8⟩; have g8 := g7.then_ hb8; have f8 := f7.then_ hb8; have x8 := (gbx_5.then_ hb7).then_ hb8) | (refine wpList_row_w (by rfl) 31 _ rfl bu4 rfl 31 _ g8 ⟨_, Tryd.underlying31⟩ (by kernel_rfl) ?_; simp only [Act.put, List.setIfInBounds_toArray, List.set_cons_succ, List.set_cons_zero]) | (refine wpList_row_w (by rfl) 33 _ rfl bx rfl 33 _ x8 ⟨_, Tryd.underlying33⟩ (by kernel_rfl) ?_; simp only [Act.put, List.setIfInBounds_toArray, List.set_cons_succ, List.set_cons_zero]) | (go_at_call 15; (with_reducible refine (has_true1 HPM.out ((hFA_5.then_ hb7).then_ hb8)).mono ?_); rintro e w9 ⟨rfl, hb9⟩; have c1 : w9.cell? ⟨bu4, 1, none⟩ = some (.slice ma.f (LF + 1) ma.fc) := ((g8.then_ hb9).cell 1).trans (by rw [← HPL1.out]; rfl); have c2 : w9.cell? ⟨bu4, 2, none⟩ = some (.slice ma.o LO ma.oc) := ((g8.then_ hb9).cell 2).trans (by rw [← HPL2.out]; rfl); have d1 : w9.cell? ⟨bf, 1, none⟩ = some (.slice k.f LF k.fc) := ((f8.then_ hb9).cell 1).trans (by rw [← ELF.out]; rfl); have d2 : w9.cell? ⟨bf, 2, none⟩ = some (.slice k.o LO k.oc) := ((f8.then_ hb9).cell 2).trans (by rw [← ELO.out]; rfl)))
  have HH6 := below_then (below_then hb7 hb8) hb9
  have HB6 := below_then HB5 HH6
  have gbc_6 := gbc_5.then_ HH6
  have gbf_6 := gbf_5.then_ HH6
  have gbx_6 := gbx_5.then_ HH6
  have gbo_6 := gbo_5.then_ HH6
  have gbu4_6 := gbu4_5.then_ HH6
  have hFA_6 := hFA_5.then_ HH6
  have gbu5_6 := gbu5_5.then_ HH6
  have hFD_6 := hFD_5.then_ HH6
  clear gbc_5 gbf_5 gbx_5 gbo_5 gbu4_5 hFA_5 gbu5_5 hFD_5 HB5 HH6
  clear c1 c2 d1 d2 g7 f7 B7 g8 f8 x8 hb7 hb8 hb9
  go_upto_region 12 with (first | (refine wpList_row_w (by rfl) 27 _ rfl bc rfl 27 _ gbc_6 ⟨_, Tryd.underlying27⟩ (by kernel_rfl) ?_; simp only [Act.put, List.setIfInBounds_toArray, List.set_cons_succ, List.set_cons_zero]) | (refine wpList_row_w (by rfl) 31 _ rfl bu5 rfl 31 _ gbu5_6 ⟨_, Tryd.underlying31⟩ (by kernel_rfl) ?_; simp only [Act.put, List.setIfInBounds_toArray, List.set_cons_succ, List.set_cons_zero]) | (refine wpList_row_w (by rfl) 35 _ rfl bo rfl 35 _ gbo_6 ⟨_, Tryd.underlying35⟩ (by kernel_rfl) ?_; simp only [Act.put, List.setIfInBounds_toArray, List.set_cons_succ, List.set_cons_zero]) | (go_at_call 12; (with_reducible refine (HOA.out _ _ HB6 hFD_6).mono ?_); rintro e w62 ⟨⟨mz2, rfl, hFz2, _⟩, hbw62⟩) | (refine wpList_store_all rfl 31 _ _ rfl w62.heap.size 31 [] zF.toList [] (flA Z2 mz2).toList rfl rfl (Blk.new _ _ _) rfl (by kernel_rfl) (by simp [Value.oneCell']) ?_; intro u62 gbu62 Uu62))
  have hsu62 : Below w62.heap.size w62 u62 := (wa1 _ _).trans (Uu62.b _ (Nat.le_refl _))
  have HH7 := below_then hbw62 hsu62
  have HB7 := below_then HB6 HH7
  have gbc_7 := gbc_6.then_ HH7
  have gbf_7 := gbf_6.then_ HH7
  have gbx_7 := gbx_6.then_ HH7
  have gbo_7 := gbo_6.then_ HH7
  have gbu4_7 := gbu4_6.then_ HH7
  have hFA_7 := hFA_6.then_ HH7
  have gbu5_7 := gbu5_6.then_ HH7
  have hFD_7 := hFD_6.then_ HH7
  clear gbc_6 gbf_6 gbx_6 gbo_6 gbu4_6 hFA_6 gbu5_6 hFD_6 HB6 HH7
  obtain ⟨bu62, ebu62⟩ : ∃ b, w62.heap.size = b := ⟨_, rfl⟩
  rw [ebu62] at gbu62 ⊢
  clear ebu62 Uu62 hsu62 hbw62 
  clear gbu62
  go_upto_region 14 with (first | (refine wpList_row_w (by rfl) 27 _ rfl bc rfl 27 _ gbc_7 ⟨_, Tryd.underlying27⟩ (by kernel_rfl) ?_; simp only [Act.put, List.setIfInBounds_toArray, List.set_cons_succ, List.set_cons_zero]) | (refine wpList_row_w (by rfl) 31 _ rfl bu5 rfl 31 _ gbu5_7 ⟨_, Tryd.underlying31⟩ (by kernel_rfl) ?_; simp only [Act.put, List.setIfInBounds_toArray, List.set_cons_succ, List.set_cons_zero]) | (go_at_call 13; (with_reducible refine (fval_true HOV.out (HC.out.then_ HB7) hFD_7).mono ?_); rintro e w7 ⟨rfl, hb7⟩; have g7 := gbu5_7.then_ hb7; have f7 := gbf_7.then_ hb7; have B7 := below_then HB7 hb7) | (refine wpList_row_w (by rfl) 31 _ rfl bu5 rfl 31 _ g7 ⟨_, Tryd.underlying31⟩ (by kernel_rfl) ?_; simp only [Act.put, List.setIfInBounds_toArray, List.set_cons_succ, List.set_cons_zero]) | (refine wpList_row_w (by rfl) 31 _ rfl bf rfl 31 _ f7 ⟨_, Tryd.underlying31⟩ (by kernel_rfl) ?_; simp only [Act.put, List.setIfInBounds_toArray, List.set_cons_succ, List.set_cons_zero]) | (go_at_call 14; (with_reducible refine (has_true HOH.out (hFD_7.then_ hb7) (HF.out.then_ B7)).mono ?_); rintro e w8 ⟨rfl, hb8⟩; have g8 := g7.then_ hb8; have f8 := f7.then_ hb8; have x8 := (gbo_7.then_ hb7).then_ hb8) | (refine wpList_row_w (by rfl) 31 _ rfl bu5 rfl 31 _ g8 ⟨_, Tryd.underlying31⟩ (by kernel_rfl) ?_; simp only [Act.put, List.setIfInBounds_toArray, List.set_cons_succ, List.set_cons_zero]) | (refine wpList_row_w (by rfl) 35 _ rfl bo rfl 35 _ x8 ⟨_, Tryd.underlying35⟩ (by kernel_rfl) ?_; simp only [Act.put, List.setIfInBounds_toArray, List.set_cons_succ, List.set_cons_zero]) | (go_at_call 16; (with_reducible refine (ordered_true HOM.out ((hFD_7.then_ hb7).then_ hb8)).mono ?_); rintro e w9 ⟨rfl, hb9⟩; have c1 : w9.cell? ⟨bu5, 1, none⟩ = some (.slice md.f LF md.fc) := ((g8.then_ hb9).cell 1).trans (by rw [← HOL1.out]; rfl); have c2 : w9.cell? ⟨bu5, 2, none⟩ = some (.slice md.o (LO + 1) md.oc) := ((g8.then_ hb9).cell 2).trans (by rw [← HOL2.out]; rfl); have d1 : w9.cell? ⟨bf, 1, none⟩ = some (.slice k.f LF k.fc) := ((f8.then_ hb9).cell 1).trans (by rw [← ELF.out]; rfl); have d2 : w9.cell? ⟨bf, 2, none⟩ = some (.slice k.o LO k.oc) := ((f8.then_ hb9).cell 2).trans (by rw [← ELO.out]; rfl)))
  have HH8 := below_then (below_then hb7 hb8) hb9
  have HB8 := below_then HB7 HH8
  have gbc_8 := gbc_7.then_ HH8
  have gbf_8 := gbf_7.then_ HH8
  have gbx_8 := gbx_7.then_ HH8
  have gbo_8 := gbo_7.then_ HH8
  have gbu4_8 := gbu4_7.then_ HH8
  have hFA_8 := hFA_7.then_ HH8
  have gbu5_8 := gbu5_7.then_ HH8
  have hFD_8 := hFD_7.then_ HH8
  clear gbc_7 gbf_7 gbx_7 gbo_7 gbu4_7 hFA_7 gbu5_7 hFD_7 HB7 HH8
  clear c1 c2 d1 d2 g7 f7 B7 g8 f8 x8 hb7 hb8 hb9
  go_wp2_with (first | (refine wpList_row_w (by rfl) 27 _ rfl bc rfl 27 _ gbc_8 ⟨_, Tryd.underlying27⟩ (by kernel_rfl) ?_; simp only [Act.put, List.setIfInBounds_toArray, List.set_cons_succ, List.set_cons_zero]) | (refine wpList_row_w (by rfl) 31 _ rfl bf rfl 31 _ gbf_8 ⟨_, Tryd.underlying31⟩ (by kernel_rfl) ?_; simp only [Act.put, List.setIfInBounds_toArray, List.set_cons_succ, List.set_cons_zero]) | (go_at_call 13; (with_reducible refine (HV.out _ HB8).mono ?_); rintro e w10 ⟨rfl, hb10⟩))
  go_ret
  exact ⟨rfl, below_then HB8 hb10⟩
end Go.Proofs.YtemkghgcdpmlbaaDoor
