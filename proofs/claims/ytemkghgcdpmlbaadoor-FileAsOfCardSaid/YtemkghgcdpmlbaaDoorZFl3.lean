/- The walk of FileAsOf. -/
import Derived.Test.YtemkghgcdpmlbaaDoorZFl4
namespace Go.Proofs.YtemkghgcdpmlbaaDoor
open Go.RowKit Go.Sort

set_option maxRecDepth 100000 in
set_option maxHeartbeats 6400000 in
theorem asof_law (c : Con) (m : Cm) (f : Fil) (k : Fm) (d t : Int) (w : World) (hL : Lw w) (hc : ContW w c m) (hf : FilW w f k) :
    Calls Tryd.prog 5 #[.agg (coA c m), .agg (flA f k), .int .i64 d, .int .i64 t] w fun e w' => e = .returned (.bool true) ∧ Below w.heap.size w w' := by
  have HH := Lib.hid (fun W (hb : Below w.heap.size w W) => head_any W (hL.below hb))
  cases hs1 : c.small 60 with
  | false =>
    have HS1 := Lib.hid (fun W (hb : Below w.heap.size w W) => smallc_at c m false hc hs1 W hb)
    clear hc hf hs1 hL
    go_enter Tryd.func5, Tryd.ntmps5
    go_upto_region 1 with (fail)
    refine name_wp ?_
    intro X0 hX
    have gbc : Blk X0 w.heap.size 27 (coA c m) := by rw [hX]; exact (blk_at (by simp)).alloc _
    have gbf : Blk X0 (w.heap.size + 1) 31 (flA f k) := by rw [hX]; exact blk_at (by simp)
    have HB0 : Below w.heap.size w X0 := by rw [hX]; (repeat (first | with_reducible assumption | with_reducible exact Below.refl _ _ | with_reducible refine below_drewN ?_ _ | with_reducible refine Below.drew ?_ | with_reducible refine below_alloc ?_ _ | with_reducible refine Below.setCell ?_ (by first | omega | (simp; done) | (simp; omega)) _ | with_reducible refine below_then ?_ (by with_reducible assumption) | (refine below_then (a := World.drew _) ?_ (by with_reducible assumption))))
    clear hX
    obtain ⟨bf, ebf⟩ : ∃ b, w.heap.size + 1 = b := ⟨_, rfl⟩
    obtain ⟨bc, ebc⟩ : ∃ b, w.heap.size = b := ⟨_, rfl⟩
    have lbc : w.heap.size ≤ bc := by omega
    have lbf : w.heap.size ≤ bf := by omega
    have nbcbf : bc ≠ bf := by omega
    rw [ebf] at gbf ⊢
    rw [ebc] at gbc ⊢
    clear ebc ebf
    go_upto_region 2 with ((go_at_call 8; (with_reducible refine (HH.out _ HB0).mono ?_); rintro e w1 ⟨rfl, hbw1⟩))
    have HH1 := hbw1
    have HB1 := below_then HB0 HH1
    have gbc_1 := gbc.then_ HH1
    have gbf_1 := gbf.then_ HH1
    clear gbc gbf HB0 HH1
    go_wp2_with (first | (refine wpList_row_w (by rfl) 27 _ rfl bc rfl 27 _ gbc_1 ⟨_, Tryd.underlying27⟩ (by kernel_rfl) ?_; simp only [Act.put, List.setIfInBounds_toArray, List.set_cons_succ, List.set_cons_zero]) | (go_at_call 9; (with_reducible refine (HS1.out _ HB1).mono ?_); rintro e w2 ⟨rfl, hbw2⟩; have gf2 := gbf_1.then_ hbw2))
    go_ret
    exact ⟨rfl, below_then HB1 hbw2⟩
  | true =>
  have HS1 := Lib.hid (fun W (hb : Below w.heap.size w W) => smallc_at c m true hc hs1 W hb)
  cases hs2 : f.small 200 with
  | false =>
    have HS2 := Lib.hid (fun W => smallf_at f k false hs2 W)
    clear hc hf hs1 hs2 hL
    go_enter Tryd.func5, Tryd.ntmps5
    go_upto_region 1 with (fail)
    refine name_wp ?_
    intro X0 hX
    have gbc : Blk X0 w.heap.size 27 (coA c m) := by rw [hX]; exact (blk_at (by simp)).alloc _
    have gbf : Blk X0 (w.heap.size + 1) 31 (flA f k) := by rw [hX]; exact blk_at (by simp)
    have HB0 : Below w.heap.size w X0 := by rw [hX]; (repeat (first | with_reducible assumption | with_reducible exact Below.refl _ _ | with_reducible refine below_drewN ?_ _ | with_reducible refine Below.drew ?_ | with_reducible refine below_alloc ?_ _ | with_reducible refine Below.setCell ?_ (by first | omega | (simp; done) | (simp; omega)) _ | with_reducible refine below_then ?_ (by with_reducible assumption) | (refine below_then (a := World.drew _) ?_ (by with_reducible assumption))))
    clear hX
    obtain ⟨bf, ebf⟩ : ∃ b, w.heap.size + 1 = b := ⟨_, rfl⟩
    obtain ⟨bc, ebc⟩ : ∃ b, w.heap.size = b := ⟨_, rfl⟩
    have lbc : w.heap.size ≤ bc := by omega
    have lbf : w.heap.size ≤ bf := by omega
    have nbcbf : bc ≠ bf := by omega
    rw [ebf] at gbf ⊢
    rw [ebc] at gbc ⊢
    clear ebc ebf
    go_upto_region 2 with ((go_at_call 8; (with_reducible refine (HH.out _ HB0).mono ?_); rintro e w1 ⟨rfl, hbw1⟩))
    have HH1 := hbw1
    have HB1 := below_then HB0 HH1
    have gbc_1 := gbc.then_ HH1
    have gbf_1 := gbf.then_ HH1
    clear gbc gbf HB0 HH1
    go_wp2_with (first | (refine wpList_row_w (by rfl) 27 _ rfl bc rfl 27 _ gbc_1 ⟨_, Tryd.underlying27⟩ (by kernel_rfl) ?_; simp only [Act.put, List.setIfInBounds_toArray, List.set_cons_succ, List.set_cons_zero]) | (go_at_call 9; (with_reducible refine (HS1.out _ HB1).mono ?_); rintro e w2 ⟨rfl, hbw2⟩; have gf2 := gbf_1.then_ hbw2) | (refine wpList_row_w (by rfl) 31 _ rfl bf rfl 31 _ gf2 ⟨_, Tryd.underlying31⟩ (by kernel_rfl) ?_; simp only [Act.put, List.setIfInBounds_toArray, List.set_cons_succ, List.set_cons_zero]) | (go_at_call 10; (with_reducible refine (HS2.out _).mono ?_); rintro e w3 ⟨rfl, hbw3⟩))
    go_ret
    exact ⟨rfl, below_then (below_then HB1 hbw2) hbw3⟩
  | true =>
  have HS2 := Lib.hid (fun W => smallf_at f k true hs2 W)
  obtain ⟨hF, l1, l2⟩ := small_filt hf hs2
  have hC := small_cont hc hs1
  have HC := Lib.hid hC
  have HF := Lib.hid hF
  have hB := hf.b
  have HV := Lib.hid (fun W (hb : Below w.heap.size w W) => fvalid_any c m f k W (HC.out.then_ hb) (HF.out.then_ hb))
  cases hV : f.ok c with
  | false =>
    rw [hV] at HV
    clear hc hf hs1 hs2 hL hC hF hV hB
    go_enter Tryd.func5, Tryd.ntmps5
    go_upto_region 1 with (fail)
    refine name_wp ?_
    intro X0 hX
    have gbc : Blk X0 w.heap.size 27 (coA c m) := by rw [hX]; exact (blk_at (by simp)).alloc _
    have gbf : Blk X0 (w.heap.size + 1) 31 (flA f k) := by rw [hX]; exact blk_at (by simp)
    have HB0 : Below w.heap.size w X0 := by rw [hX]; (repeat (first | with_reducible assumption | with_reducible exact Below.refl _ _ | with_reducible refine below_drewN ?_ _ | with_reducible refine Below.drew ?_ | with_reducible refine below_alloc ?_ _ | with_reducible refine Below.setCell ?_ (by first | omega | (simp; done) | (simp; omega)) _ | with_reducible refine below_then ?_ (by with_reducible assumption) | (refine below_then (a := World.drew _) ?_ (by with_reducible assumption))))
    clear hX
    obtain ⟨bf, ebf⟩ : ∃ b, w.heap.size + 1 = b := ⟨_, rfl⟩
    obtain ⟨bc, ebc⟩ : ∃ b, w.heap.size = b := ⟨_, rfl⟩
    have lbc : w.heap.size ≤ bc := by omega
    have lbf : w.heap.size ≤ bf := by omega
    have nbcbf : bc ≠ bf := by omega
    rw [ebf] at gbf ⊢
    rw [ebc] at gbc ⊢
    clear ebc ebf
    go_upto_region 2 with ((go_at_call 8; (with_reducible refine (HH.out _ HB0).mono ?_); rintro e w1 ⟨rfl, hbw1⟩))
    have HH1 := hbw1
    have HB1 := below_then HB0 HH1
    have gbc_1 := gbc.then_ HH1
    have gbf_1 := gbf.then_ HH1
    clear gbc gbf HB0 HH1
    go_wp2_with (first | (refine wpList_row_w (by rfl) 27 _ rfl bc rfl 27 _ gbc_1 ⟨_, Tryd.underlying27⟩ (by kernel_rfl) ?_; simp only [Act.put, List.setIfInBounds_toArray, List.set_cons_succ, List.set_cons_zero]) | (go_at_call 9; (with_reducible refine (HS1.out _ HB1).mono ?_); rintro e w2 ⟨rfl, hbw2⟩; have gf2 := gbf_1.then_ hbw2) | (refine wpList_row_w (by rfl) 31 _ rfl bf rfl 31 _ gf2 ⟨_, Tryd.underlying31⟩ (by kernel_rfl) ?_; simp only [Act.put, List.setIfInBounds_toArray, List.set_cons_succ, List.set_cons_zero]) | (go_at_call 10; (with_reducible refine (HS2.out _).mono ?_); rintro e w3 ⟨rfl, hbw3⟩; have gc3 := (gbc_1.then_ hbw2).then_ hbw3; have gf3 := gf2.then_ hbw3; have B3 := below_then (below_then HB1 hbw2) hbw3) | (refine wpList_row_w (by rfl) 27 _ rfl bc rfl 27 _ gc3 ⟨_, Tryd.underlying27⟩ (by kernel_rfl) ?_; simp only [Act.put, List.setIfInBounds_toArray, List.set_cons_succ, List.set_cons_zero]) | (refine wpList_row_w (by rfl) 31 _ rfl bf rfl 31 _ gf3 ⟨_, Tryd.underlying31⟩ (by kernel_rfl) ?_; simp only [Act.put, List.setIfInBounds_toArray, List.set_cons_succ, List.set_cons_zero]) | (go_at_call 13; (with_reducible refine (HV.out _ B3).mono ?_); rintro e w3v ⟨rfl, hbw3v⟩))
    go_ret
    exact ⟨rfl, below_then B3 hbw3v⟩
  | true =>
  rw [hV] at HV
  have hG := Fil.ok_iff.1 hV
  obtain ⟨A, eA⟩ : ∃ A, f.asOf d = A := ⟨_, rfl⟩
  obtain ⟨T, eT⟩ : ∃ A, f.asOf t = A := ⟨_, rfl⟩
  obtain ⟨M, eM⟩ : ∃ A, T.asOf d = A := ⟨_, rfl⟩
  have hTB : T.B := by rw [← eT]; exact hB.part _
  have HOA := Lib.hid (fun W (hb : Below w.heap.size w W) => asOf_any f k d W (HF.out.then_ hb) hB)
  rw [eA] at HOA
  have HOT := Lib.hid (fun W (hb : Below w.heap.size w W) => asOf_any f k t W (HF.out.then_ hb) hB)
  rw [eT] at HOT
  have HOM := Lib.hid (fun W mx (h : Filt W T mx) => asOf_any T mx d W h hTB)
  rw [eM] at HOM
  obtain ⟨mn, emn⟩ : ∃ n, min d t = n := ⟨_, rfl⟩
  have HON := Lib.hid (fun W (hb : Below w.heap.size w W) => asOf_any f k mn W (HF.out.then_ hb) hB)
  rw [show f.asOf mn = M by rw [← emn, ← eM, ← eT]; exact (asOf_min f d t).symm] at HON
  have HOD := Lib.hid (fun W (hb : Below w.heap.size w W) => asOf_any f k c.days W (HF.out.then_ hb) hB)
  rw [asOf_all hG] at HOD
  have HAA : Hid (A.ok c = true) := by unfold Hid; rw [← eA]; exact Fil.ok_iff.2 (part_good hG _)
  have HAH : Hid (f.has A = true) := by unfold Hid; rw [← eA]; exact part_has f _
  have HTH : Hid (d ≤ t → T.has A = true) := fun h => by rw [← eA, ← eT]; exact asOf_mono f h
  have HCN : Hid (f.facts.countP (fun x => decide (x.filed ≤ d)) = A.facts.length) := by unfold Hid; rw [← eA]; exact (part_count f _).symm
  have HIN : Hid (∀ y ∈ f.facts, decide (y ∈ A.facts) = decide (y.filed ≤ d)) := fun y hy => by rw [← eA]; exact decide_eq_decide.2 ⟨fun h => by simpa using (part_mem.1 h).2, fun h => part_mem.2 ⟨hy, by simpa using h⟩⟩
  have HMN := Lib.hid emn
  have HVH := Lib.hid (And.intro (fun W (hb : Below w.heap.size w W) => HC.out.then_ hb) (fun W (hb : Below w.heap.size w W) => HF.out.then_ hb))
  clear hc hf hs1 hs2 hL hC hF hB hTB hV hG eA eT eM emn HVH
  go_enter Tryd.func5, Tryd.ntmps5
  go_upto_region 1 with (fail)
  refine name_wp ?_
  intro X0 hX
  have gbc : Blk X0 w.heap.size 27 (coA c m) := by rw [hX]; exact (blk_at (by simp)).alloc _
  have gbf : Blk X0 (w.heap.size + 1) 31 (flA f k) := by rw [hX]; exact blk_at (by simp)
  have HB0 : Below w.heap.size w X0 := by rw [hX]; (repeat (first | with_reducible assumption | with_reducible exact Below.refl _ _ | with_reducible refine below_drewN ?_ _ | with_reducible refine Below.drew ?_ | with_reducible refine below_alloc ?_ _ | with_reducible refine Below.setCell ?_ (by first | omega | (simp; done) | (simp; omega)) _ | with_reducible refine below_then ?_ (by with_reducible assumption) | (refine below_then (a := World.drew _) ?_ (by with_reducible assumption))))
  clear hX
  obtain ⟨bf, ebf⟩ : ∃ b, w.heap.size + 1 = b := ⟨_, rfl⟩
  obtain ⟨bc, ebc⟩ : ∃ b, w.heap.size = b := ⟨_, rfl⟩
  have lbc : w.heap.size ≤ bc := by omega
  have lbf : w.heap.size ≤ bf := by omega
  have nbcbf : bc ≠ bf := by omega
  rw [ebf] at gbf ⊢
  rw [ebc] at gbc ⊢
  clear ebc ebf
  go_upto_region 2 with ((go_at_call 8; (with_reducible refine (HH.out _ HB0).mono ?_); rintro e w1 ⟨rfl, hbw1⟩))
  have HH1 := hbw1
  have HB1 := below_then HB0 HH1
  have gbc_1 := gbc.then_ HH1
  have gbf_1 := gbf.then_ HH1
  clear gbc gbf HB0 HH1
  go_upto_region 4 with (first | (refine wpList_row_w (by rfl) 27 _ rfl bc rfl 27 _ gbc_1 ⟨_, Tryd.underlying27⟩ (by kernel_rfl) ?_; simp only [Act.put, List.setIfInBounds_toArray, List.set_cons_succ, List.set_cons_zero]) | (go_at_call 9; (with_reducible refine (HS1.out _ HB1).mono ?_); rintro e w2 ⟨rfl, hbw2⟩; have gf2 := gbf_1.then_ hbw2) | (refine wpList_row_w (by rfl) 31 _ rfl bf rfl 31 _ gf2 ⟨_, Tryd.underlying31⟩ (by kernel_rfl) ?_; simp only [Act.put, List.setIfInBounds_toArray, List.set_cons_succ, List.set_cons_zero]) | (go_at_call 10; (with_reducible refine (HS2.out _).mono ?_); rintro e w3 ⟨rfl, hbw3⟩; have gc3 := (gbc_1.then_ hbw2).then_ hbw3; have gf3 := gf2.then_ hbw3; have B3 := below_then (below_then HB1 hbw2) hbw3) | (refine wpList_row_w (by rfl) 27 _ rfl bc rfl 27 _ gc3 ⟨_, Tryd.underlying27⟩ (by kernel_rfl) ?_; simp only [Act.put, List.setIfInBounds_toArray, List.set_cons_succ, List.set_cons_zero]) | (refine wpList_row_w (by rfl) 31 _ rfl bf rfl 31 _ gf3 ⟨_, Tryd.underlying31⟩ (by kernel_rfl) ?_; simp only [Act.put, List.setIfInBounds_toArray, List.set_cons_succ, List.set_cons_zero]) | (go_at_call 13; (with_reducible refine (HV.out _ B3).mono ?_); rintro e w3v ⟨rfl, hbw3v⟩))
  have HH2 := below_then (below_then hbw2 hbw3) hbw3v
  have HB2 := below_then HB1 HH2
  have gbc_2 := gbc_1.then_ HH2
  have gbf_2 := gbf_1.then_ HH2
  clear gbc_1 gbf_1 HB1 HH2
  clear gc3 gf3 B3
  go_upto_region 5 with (first | (refine wpList_row_w (by rfl) 31 _ rfl bf rfl 31 _ gbf_2 ⟨_, Tryd.underlying31⟩ (by kernel_rfl) ?_; simp only [Act.put, List.setIfInBounds_toArray, List.set_cons_succ, List.set_cons_zero]) | (go_at_call 18; (with_reducible refine (HOA.out _ HB2).mono ?_); rintro e w4 ⟨⟨ma, rfl, hFa, _⟩, hbw4⟩) | (refine wpList_store_all rfl 31 _ _ rfl w4.heap.size 31 [] zF.toList [] (flA A ma).toList rfl rfl (Blk.new _ _ _) rfl (by kernel_rfl) (by simp [Value.oneCell']) ?_; intro u4 gbu4 Uu4))
  have hsu4 : Below w4.heap.size w4 u4 := (wa1 _ _).trans (Uu4.b _ (Nat.le_refl _))
  have HH3 := below_then hbw4 hsu4
  have HB3 := below_then HB2 HH3
  have gbc_3 := gbc_2.then_ HH3
  have gbf_3 := gbf_2.then_ HH3
  clear gbc_2 gbf_2 HB2 HH3
  have hFA := hFa.then_ hsu4
  obtain ⟨bu4, ebu4⟩ : ∃ b, w4.heap.size = b := ⟨_, rfl⟩
  rw [ebu4] at gbu4 ⊢
  clear ebu4 Uu4 hsu4 hbw4 hFa
  go_upto_region 6 with (first | (refine wpList_row_w (by rfl) 31 _ rfl bf rfl 31 _ gbf_3 ⟨_, Tryd.underlying31⟩ (by kernel_rfl) ?_; simp only [Act.put, List.setIfInBounds_toArray, List.set_cons_succ, List.set_cons_zero]) | (go_at_call 18; (with_reducible refine (HOT.out _ HB3).mono ?_); rintro e w5 ⟨⟨mt, rfl, hFt, _⟩, hbw5⟩) | (refine wpList_store_all rfl 31 _ _ rfl w5.heap.size 31 [] zF.toList [] (flA T mt).toList rfl rfl (Blk.new _ _ _) rfl (by kernel_rfl) (by simp [Value.oneCell']) ?_; intro u5 gbu5 Uu5))
  have hsu5 : Below w5.heap.size w5 u5 := (wa1 _ _).trans (Uu5.b _ (Nat.le_refl _))
  have HH4 := below_then hbw5 hsu5
  have HB4 := below_then HB3 HH4
  have gbc_4 := gbc_3.then_ HH4
  have gbf_4 := gbf_3.then_ HH4
  have gbu4_4 := gbu4.then_ HH4
  have hFA_4 := hFA.then_ HH4
  clear gbc_3 gbf_3 gbu4 hFA HB3 HH4
  have hFT := hFt.then_ hsu5
  obtain ⟨bu5, ebu5⟩ : ∃ b, w5.heap.size = b := ⟨_, rfl⟩
  rw [ebu5] at gbu5 ⊢
  clear ebu5 Uu5 hsu5 hbw5 hFt
  have HFA := Lib.hid hFA_4
  have HFT := Lib.hid hFT
  have GF := Lib.hid gbf_4
  have GA := Lib.hid gbu4_4
  have GT := Lib.hid gbu5
  have GC := Lib.hid gbc_4
  have HBB := Lib.hid HB4
  clear hFA_4 hFT HB4
  have HSF := Lib.hid ((HF.out.then_ HBB.out).sf)
  clear gbf_4 gbu4_4 gbu5 gbc_4
  go_upto_region 8 with (fail)
  go_loopw [12, 13, 14] (fun y12 y13 y14 WR => ∃ i n : Nat, i ≤ f.facts.length ∧ n ≤ i ∧ y12 = .int .i64 n ∧ y13 = .int .i64 i ∧ Hid (n = (f.facts.take i).countP fun x => decide (x.filed ≤ d)) ∧ Hid (Below u5.heap.size u5 WR)) (fun _ y13 _ _ => 2000000 - (intOf y13).toNat)
  case atStart => exact ⟨0, 0, by omega, by omega, rfl, rfl, rfl, Below.refl _ _⟩
  case round =>
    obtain ⟨i, n, hi, hn, rfl, rfl, hc, hW⟩ := hrel
    have f1 : wr.cell? ⟨bf, 1, none⟩ = some (.slice k.f f.facts.length k.fc) := (GF.out.then_ hW.out).cell 1
    by_cases hlt : i < f.facts.length
    case pos =>
      obtain ⟨y, hy⟩ : ∃ y, f.facts[i]? = some y := ⟨_, List.getElem?_eq_getElem hlt⟩
      obtain ⟨b0, o0, e0, hb0, hc0⟩ := segAt (HSF.out.below hW.out) hy
      have hix := fun W => idx_at (t := 28) (size := 6) (cap := k.fc) (len := f.facts.length) e0 hlt (by kernel_rfl) (fun W => by kernel_rfl) W
      have tl : decide ((i : Int) < (f.facts.length : Int)) = true := decide_eq_true (by omega)
      have y0 : wr.cell? ⟨b0, o0 + i * 6, none⟩ = some (.int .i64 y.ref) := hc0 0 _ rfl
      have y1 : wr.cell? ⟨b0, o0 + i * 6 + 1, none⟩ = some (.int .i64 y.act) := hc0 1 _ rfl
      have y2 : wr.cell? ⟨b0, o0 + i * 6 + 2, none⟩ = some (.int .i64 y.low) := hc0 2 _ rfl
      have y3 : wr.cell? ⟨b0, o0 + i * 6 + 3, none⟩ = some (.int .i64 y.high) := hc0 3 _ rfl
      have y4 : wr.cell? ⟨b0, o0 + i * 6 + 4, none⟩ = some (.int .i64 y.filed) := hc0 4 _ rfl
      have y5 : wr.cell? ⟨b0, o0 + i * 6 + 5, none⟩ = some (.bool y.sec) := hc0 5 _ rfl
      have hcn := Lib.hid (cnt_next (p := fun x => decide (x.filed ≤ d)) hy)
      have hin := Lib.hid (HIN.out y (List.mem_of_getElem? hy))
      have HAW := Lib.hid (HFA.out.then_ hW.out)
      have gAW := GA.out.then_ hW.out
      have a0 : wr.cell? ⟨bu4, 0, none⟩ = some (.int .i64 A.house) := gAW.cell 0
      have a1 : wr.cell? ⟨bu4, 1, none⟩ = some (.slice ma.f A.facts.length ma.fc) := gAW.cell 1
      have a2 : wr.cell? ⟨bu4, 2, none⟩ = some (.slice ma.o A.ords.length ma.oc) := gAW.cell 2
      clear hc0 gAW
      cases hs : decide (y.filed ≤ d) with
      | true =>
        have hc2 : Hid (n + 1 = (f.facts.take (i + 1)).countP fun x => decide (x.filed ≤ d)) := by unfold Hid; rw [hcn.out, hc.out, hs]; simp
        have HHA : Hid (∀ W', Below wr.heap.size wr W' → Calls Tryd.prog 15 #[.agg (flA A ma), .agg (fA y)] W' fun e w' => e = .returned (.bool true) ∧ Below W'.heap.size W' w') := fun W' hb => by
          have := has_any A ma y W' (HAW.out.then_ hb)
          rw [hin.out, hs] at this
          exact this
        clear hc hcn hin hy
        go_upto_region 13 with (fail)
        clear hs
        have rg0 := cell_regrown a0
        have rg1 := cell_regrown a1
        have rg2 := cell_regrown a2
        have rg3 := cell_regrown f1
        have rg4 := cell_regrown y0
        have rg5 := cell_regrown y1
        have rg6 := cell_regrown y2
        have rg7 := cell_regrown y3
        have rg8 := cell_regrown y4
        have rg9 := cell_regrown y5
        refine wp_region_qt [0, 1, 2, 3, 4, 5, 6, 7] [8] (by kernel_rfl) (by kernel_rfl) (by repeat (first | with_reducible refine panOk_then ?_ | with_reducible refine panOk_block ?_ | exact panOk_body)) ?_
        simp only [opsAt, List.getElem?_toArray, List.getElem?_cons_succ, List.getElem?_cons_zero, Option.toList_some, List.cons_append, List.nil_append]
        repeat (go_big_quiet_step ((go_at_call 15; exact qt_call (fun W' hW' => HHA.out W' hW') _ _)))
        refine wpQuiet_nil ?_
        intro Y hw2
        have hbY := qt_world hw2
        clear hw2 rg0 rg1 rg2 rg3 rg4 rg5 rg6 rg7 rg8 rg9
        skip
        go_wp2
        go_roundw
        case rel => exact ⟨i + 1, n + 1, by omega, by omega, by simp, by simp, hc2, below_then hW.out hbY⟩
        case measure => simp [intOf]; omega
      | false =>
        have hc2 : Hid (n = (f.facts.take (i + 1)).countP fun x => decide (x.filed ≤ d)) := by unfold Hid; rw [hcn.out, hc.out, hs]; simp
        have HHA : Hid (∀ W', Below wr.heap.size wr W' → Calls Tryd.prog 15 #[.agg (flA A ma), .agg (fA y)] W' fun e w' => e = .returned (.bool false) ∧ Below W'.heap.size W' w') := fun W' hb => by
          have := has_any A ma y W' (HAW.out.then_ hb)
          rw [hin.out, hs] at this
          exact this
        clear hc hcn hin hy
        go_upto_region 13 with (fail)
        clear hs
        have rg0 := cell_regrown a0
        have rg1 := cell_regrown a1
        have rg2 := cell_regrown a2
        have rg3 := cell_regrown f1
        have rg4 := cell_regrown y0
        have rg5 := cell_regrown y1
        have rg6 := cell_regrown y2
        have rg7 := cell_regrown y3
        have rg8 := cell_regrown y4
        have rg9 := cell_regrown y5
        refine wp_region_qt [0, 1, 2, 3, 4, 5, 6, 7] [8] (by kernel_rfl) (by kernel_rfl) (by repeat (first | with_reducible refine panOk_then ?_ | with_reducible refine panOk_block ?_ | exact panOk_body)) ?_
        simp only [opsAt, List.getElem?_toArray, List.getElem?_cons_succ, List.getElem?_cons_zero, Option.toList_some, List.cons_append, List.nil_append]
        repeat (go_big_quiet_step ((go_at_call 15; exact qt_call (fun W' hW' => HHA.out W' hW') _ _)))
        refine wpQuiet_nil ?_
        intro Y hw2
        have hbY := qt_world hw2
        clear hw2 rg0 rg1 rg2 rg3 rg4 rg5 rg6 rg7 rg8 rg9
        skip
        go_wp2
        go_roundw
        case rel => exact ⟨i + 1, n, by omega, by omega, by simp, by simp, hc2, below_then hW.out hbY⟩
        case measure => simp [intOf]; omega
    case neg =>
      have tl : decide ((i : Int) < (f.facts.length : Int)) = false := decide_eq_false (by omega)
      have hnA : Hid (A.facts.length = n) := by unfold Hid; rw [hc.out, cnt_all (by omega)]; exact HCN.out.symm
      clear hc
      go_upto_region 15 with (fail)
      clear tl f1
      have a1' : wr.cell? ⟨bu4, 1, none⟩ = some (.slice ma.f n ma.fc) := by rw [← hnA.out]; exact (GA.out.then_ hW.out).cell 1
      have HB50 := below_then HBB.out hW.out
      have GF5 := GF.out.then_ hW.out
      have GA5 := GA.out.then_ hW.out
      have GT5 := GT.out.then_ hW.out
      have GC5 := GC.out.then_ hW.out
      have HFA5 := HFA.out.then_ hW.out
      have HFT5 := HFT.out.then_ hW.out
      by_cases hdt : d ≤ t
      · have HTA := Lib.hid (HTH.out hdt)
        have tdt : decide (d ≤ t) = true := decide_eq_true hdt
        have emn : min d t = mn := HMN.out
        clear HTH
        go_upto_region 17 with (first | (refine wpList_row_w (by rfl) 27 _ rfl bc rfl 27 _ GC5 ⟨_, Tryd.underlying27⟩ (by kernel_rfl) ?_; simp only [Act.put, List.setIfInBounds_toArray, List.set_cons_succ, List.set_cons_zero]) | (refine wpList_row_w (by rfl) 31 _ rfl bu4 rfl 31 _ GA5 ⟨_, Tryd.underlying31⟩ (by kernel_rfl) ?_; simp only [Act.put, List.setIfInBounds_toArray, List.set_cons_succ, List.set_cons_zero]) | (go_at_call 13; (with_reducible refine (fval_true HAA.out (HC.out.then_ HB50) HFA5).mono ?_); rintro e x1 ⟨rfl, hb1⟩; have gf1 := GF5.then_ hb1; have gA1 := GA5.then_ hb1; have gT1 := GT5.then_ hb1; have hA1 := HFA5.then_ hb1; have hT1 := HFT5.then_ hb1; have B1 := below_then HB50 hb1) | (refine wpList_row_w (by rfl) 31 _ rfl bf rfl 31 _ gf1 ⟨_, Tryd.underlying31⟩ (by kernel_rfl) ?_; simp only [Act.put, List.setIfInBounds_toArray, List.set_cons_succ, List.set_cons_zero]) | (refine wpList_row_w (by rfl) 31 _ rfl bu4 rfl 31 _ gA1 ⟨_, Tryd.underlying31⟩ (by kernel_rfl) ?_; simp only [Act.put, List.setIfInBounds_toArray, List.set_cons_succ, List.set_cons_zero]) | (go_at_call 14; (with_reducible refine (has_true HAH.out (HF.out.then_ B1) hA1).mono ?_); rintro e x2 ⟨rfl, hb2⟩; have gA2 := gA1.then_ hb2; have gT2 := gT1.then_ hb2; have hA2 := hA1.then_ hb2; have hT2 := hT1.then_ hb2) | (refine wpList_row_w (by rfl) 31 _ rfl bu5 rfl 31 _ gT2 ⟨_, Tryd.underlying31⟩ (by kernel_rfl) ?_; simp only [Act.put, List.setIfInBounds_toArray, List.set_cons_succ, List.set_cons_zero]) | (refine wpList_row_w (by rfl) 31 _ rfl bu4 rfl 31 _ gA2 ⟨_, Tryd.underlying31⟩ (by kernel_rfl) ?_; simp only [Act.put, List.setIfInBounds_toArray, List.set_cons_succ, List.set_cons_zero]) | (go_at_call 14; (with_reducible refine (has_true HTA.out hT2 hA2).mono ?_); rintro e x3 ⟨rfl, hb3⟩))
        have HH51 := below_then (below_then hb1 hb2) hb3
        have HB51 := below_then HB50 HH51
        have gbf_51 := GF5.then_ HH51
        have gbu4_51 := GA5.then_ HH51
        have gbu5_51 := GT5.then_ HH51
        have gbc_51 := GC5.then_ HH51
        have hFA_51 := HFA5.then_ HH51
        have hFT_51 := HFT5.then_ HH51
        clear GF5 GA5 GT5 GC5 HFA5 HFT5 HB50 HH51
        clear gf1 gA1 gT1 hA1 hT1 B1 gA2 gT2 hA2 hT2 a1'
        go_upto_region 18 with (first | (refine wpList_row_w (by rfl) 31 _ rfl bu5 rfl 31 _ gbu5_51 ⟨_, Tryd.underlying31⟩ (by kernel_rfl) ?_; simp only [Act.put, List.setIfInBounds_toArray, List.set_cons_succ, List.set_cons_zero]) | (go_at_call 18; (with_reducible refine (HOM.out _ mt hFT_51).mono ?_); rintro e w6 ⟨⟨mm, rfl, hFm, _⟩, hbw6⟩) | (refine wpList_store_all rfl 31 _ _ rfl w6.heap.size 31 [] zF.toList [] (flA M mm).toList rfl rfl (Blk.new _ _ _) rfl (by kernel_rfl) (by simp [Value.oneCell']) ?_; intro u6 gbu6 Uu6))
        have hsu6 : Below w6.heap.size w6 u6 := (wa1 _ _).trans (Uu6.b _ (Nat.le_refl _))
        have HH52 := below_then hbw6 hsu6
        have HB52 := below_then HB51 HH52
        have gbf_52 := gbf_51.then_ HH52
        have gbu4_52 := gbu4_51.then_ HH52
        have gbu5_52 := gbu5_51.then_ HH52
        have gbc_52 := gbc_51.then_ HH52
        have hFA_52 := hFA_51.then_ HH52
        have hFT_52 := hFT_51.then_ HH52
        clear gbf_51 gbu4_51 gbu5_51 gbc_51 hFA_51 hFT_51 HB51 HH52
        have hFM := hFm.then_ hsu6
        obtain ⟨bu6, ebu6⟩ : ∃ b, w6.heap.size = b := ⟨_, rfl⟩
        rw [ebu6] at gbu6 ⊢
        clear ebu6 Uu6 hsu6 hbw6 hFm
        go_upto_region 19 with (first | (refine wpList_row_w (by rfl) 31 _ rfl bf rfl 31 _ gbf_52 ⟨_, Tryd.underlying31⟩ (by kernel_rfl) ?_; simp only [Act.put, List.setIfInBounds_toArray, List.set_cons_succ, List.set_cons_zero]) | (go_at_call 18; (with_reducible refine (HON.out _ HB52).mono ?_); rintro e w7 ⟨⟨mo, rfl, hFo, _⟩, hbw7⟩) | fail | (refine wpList_store_all rfl 31 _ _ rfl w7.heap.size 31 [] zF.toList [] (flA M mo).toList rfl rfl (Blk.new _ _ _) rfl (by kernel_rfl) (by simp [Value.oneCell']) ?_; intro u7 gbu7 Uu7))
        have hsu7 : Below w7.heap.size w7 u7 := (wa1 _ _).trans (Uu7.b _ (Nat.le_refl _))
        have HH53 := below_then hbw7 hsu7
        have HB53 := below_then HB52 HH53
        have gbf_53 := gbf_52.then_ HH53
        have gbu4_53 := gbu4_52.then_ HH53
        have gbu5_53 := gbu5_52.then_ HH53
        have gbc_53 := gbc_52.then_ HH53
        have hFA_53 := hFA_52.then_ HH53
        have hFT_53 := hFT_52.then_ HH53
        have gbu6_53 := gbu6.then_ HH53
        have hFM_53 := hFM.then_ HH53
        clear gbf_52 gbu4_52 gbu5_52 gbc_52 hFA_52 hFT_52 gbu6 hFM HB52 HH53
        have hFO := hFo.then_ hsu7
        obtain ⟨bu7, ebu7⟩ : ∃ b, w7.heap.size = b := ⟨_, rfl⟩
        rw [ebu7] at gbu7 ⊢
        clear ebu7 Uu7 hsu7 hbw7 hFo
        have c5 := Lib.hid gbc_53
        refine wp_region_hb (fun w' => Hid (Below u7.heap.size u7 w')) [0, 1, 2, 3, 4, 5, 6, 7, 8, 9, 10, 11] [12, 13, 14] (by kernel_rfl) (by kernel_rfl) (by repeat (first | with_reducible refine panOk_then ?_ | with_reducible refine panOk_block ?_ | exact panOk_body)) (Lib.hid (Below.drew (Below.refl _ _))) (fun hdir hsel hpan hHeld => ?_)
        refine wpHB_take (i := 0) (oi := ⟨some 102, _, _, _, _, _⟩) hdir hsel hpan rfl (by kernel_rfl) (by kernel_rfl) (by kernel_rfl) (Or.inl ⟨by rfl, fun _ _ => by rfl⟩) (by assumption) ?_
        try simp only [Act.put, List.setIfInBounds_toArray, List.set_cons_zero, List.set_cons_succ]
        refine wpHB_take (i := 1) (oi := ⟨some 103, _, _, _, _, _⟩) hdir hsel hpan rfl (by kernel_rfl) (by kernel_rfl) (by kernel_rfl) (Or.inl ⟨by rfl, fun _ _ => by rfl⟩) (by assumption) ?_
        try simp only [Act.put, List.setIfInBounds_toArray, List.set_cons_zero, List.set_cons_succ]
        refine wpHB_take (i := 2) (oi := ⟨some 104, _, _, _, _, _⟩) hdir hsel hpan rfl (by kernel_rfl) (by kernel_rfl) (by kernel_rfl) (yieldsIf_row (by rfl) 31 _ rfl bu6 rfl 31 _ (fun w hw => (gbu6_53.then_ hw.out)) ⟨_, Tryd.underlying31⟩ (by kernel_rfl)) (by assumption) ?_
        try simp only [Act.put, List.setIfInBounds_toArray, List.set_cons_zero, List.set_cons_succ]
        refine wpHB_take (i := 3) (oi := ⟨some 105, _, _, _, _, _⟩) hdir hsel hpan rfl (by kernel_rfl) (by kernel_rfl) (by kernel_rfl) (yieldsIf_row (by rfl) 31 _ rfl bu7 rfl 31 _ (fun w hw => (gbu7.then_ hw.out)) ⟨_, Tryd.underlying31⟩ (by kernel_rfl)) (by assumption) ?_
        try simp only [Act.put, List.setIfInBounds_toArray, List.set_cons_zero, List.set_cons_succ]
        refine wpHB_ready (rs := [4]) (by kernel_rfl) (by simp) ?_
        refine AllHB.cons (by kernel_rfl) (o := ⟨some 106, _, _, _, _, _⟩) rfl (fun K hK => ?_) AllHB.nil
        go_simp
        (go_at_call 17; (with_reducible refine (same_eq (hFM_53.then_ hHeld.out) (hFO.then_ hHeld.out) rfl).mono ?_); rintro e wa ⟨rfl, hba⟩)
        refine hK.out _ _ (Lib.hid (below_then hHeld.out hba)) (fun hHeld2 => ?_)
        clear hK K hHeld
        have hHeld := hHeld2
        clear hHeld2
        try simp only [Act.put, List.setIfInBounds_toArray, List.set_cons_zero, List.set_cons_succ]
        refine wpHB_take (i := 5) (oi := ⟨some 107, _, _, _, _, _⟩) hdir hsel hpan rfl (by kernel_rfl) (by kernel_rfl) (by kernel_rfl) (Or.inl ⟨by rfl, fun _ _ => by rfl⟩) (by assumption) ?_
        try simp only [Act.put, List.setIfInBounds_toArray, List.set_cons_zero, List.set_cons_succ]
        refine wpHB_take (i := 6) (oi := ⟨some 108, _, _, _, _, _⟩) hdir hsel hpan rfl (by kernel_rfl) (by kernel_rfl) (by kernel_rfl) (Or.inl ⟨by rfl, fun _ _ => by rfl⟩) (by assumption) ?_
        try simp only [Act.put, List.setIfInBounds_toArray, List.set_cons_zero, List.set_cons_succ]
        refine wpHB_take (i := 7) (oi := ⟨some 109, _, _, _, _, _⟩) hdir hsel hpan rfl (by kernel_rfl) (by kernel_rfl) (by kernel_rfl) (yieldsIf_row (by rfl) 31 _ rfl bf rfl 31 _ (fun w hw => (gbf_53.then_ hw.out)) ⟨_, Tryd.underlying31⟩ (by kernel_rfl)) (by assumption) ?_
        try simp only [Act.put, List.setIfInBounds_toArray, List.set_cons_zero, List.set_cons_succ]
        refine wpHB_take (i := 8) (oi := ⟨some 110, _, _, _, _, _⟩) (v := .pointer (some ⟨bc, 5, none⟩)) hdir hsel hpan rfl (by kernel_rfl) (by kernel_rfl) (by kernel_rfl) (Or.inl ⟨by rfl, fun w hw => by go_simp⟩) (by assumption) ?_
        try simp only [Act.put, List.setIfInBounds_toArray, List.set_cons_zero, List.set_cons_succ]
        refine wpHB_take (i := 9) (oi := ⟨some 111, _, _, _, _, _⟩) (v := .int .i64 c.days) hdir hsel hpan rfl (by kernel_rfl) (by kernel_rfl) (by kernel_rfl) (Or.inl ⟨by rfl, fun w hw => by have hc := (gbc_53.then_ hw.out).cell 5; go_simp⟩) (by assumption) ?_
        try simp only [Act.put, List.setIfInBounds_toArray, List.set_cons_zero, List.set_cons_succ]
        refine wpHB_take (i := 11) (oi := ⟨some 113, _, _, _, _, _⟩) hdir hsel hpan rfl (by kernel_rfl) (by kernel_rfl) (by kernel_rfl) (yieldsIf_row (by rfl) 31 _ rfl bf rfl 31 _ (fun w hw => (gbf_53.then_ hw.out)) ⟨_, Tryd.underlying31⟩ (by kernel_rfl)) (by assumption) ?_
        try simp only [Act.put, List.setIfInBounds_toArray, List.set_cons_zero, List.set_cons_succ]
        refine wpHB_ready (rs := [10]) (by kernel_rfl) (by simp) ?_
        refine AllHB.cons (by kernel_rfl) (o := ⟨some 112, _, _, _, _, _⟩) rfl (fun K hK => ?_) AllHB.nil
        go_simp
        (go_at_call 18; (with_reducible refine (HOD.out _ (below_then HB53 hHeld.out)).mono ?_); rintro e wb ⟨⟨my, rfl, hFy, _⟩, hbb⟩)
        refine hK.out _ _ (Lib.hid (below_then hHeld.out hbb)) (fun hHeld2 => ?_)
        clear hK K hHeld
        have hHeld := hHeld2
        clear hHeld2
        try simp only [Act.put, List.setIfInBounds_toArray, List.set_cons_zero, List.set_cons_succ]
        refine wpHB_tail (by kernel_rfl) (by kernel_rfl) ?_
        clear hdir hsel hpan
        simp only [opsAt, List.getElem?_toArray, List.getElem?_cons_succ, List.getElem?_cons_zero, Option.toList_some, List.cons_append, List.nil_append]
        go_wp2_with (go_at_call 17; (with_reducible refine (same_eq hFy (HF.out.then_ (below_then HB53 hHeld.out)) rfl).mono ?_); rintro e wz ⟨rfl, hbz⟩)
        go_ret
        exact ⟨rfl, below_then (below_then HB53 hHeld.out) hbz⟩
      · have tdt : decide (d ≤ t) = false := decide_eq_false hdt
        have emn : min d t = mn := HMN.out
        clear HTH
        go_upto_region 17 with (first | (refine wpList_row_w (by rfl) 27 _ rfl bc rfl 27 _ GC5 ⟨_, Tryd.underlying27⟩ (by kernel_rfl) ?_; simp only [Act.put, List.setIfInBounds_toArray, List.set_cons_succ, List.set_cons_zero]) | (refine wpList_row_w (by rfl) 31 _ rfl bu4 rfl 31 _ GA5 ⟨_, Tryd.underlying31⟩ (by kernel_rfl) ?_; simp only [Act.put, List.setIfInBounds_toArray, List.set_cons_succ, List.set_cons_zero]) | (go_at_call 13; (with_reducible refine (fval_true HAA.out (HC.out.then_ HB50) HFA5).mono ?_); rintro e x1 ⟨rfl, hb1⟩; have gf1 := GF5.then_ hb1; have gA1 := GA5.then_ hb1; have gT1 := GT5.then_ hb1; have hA1 := HFA5.then_ hb1; have hT1 := HFT5.then_ hb1; have B1 := below_then HB50 hb1) | (refine wpList_row_w (by rfl) 31 _ rfl bf rfl 31 _ gf1 ⟨_, Tryd.underlying31⟩ (by kernel_rfl) ?_; simp only [Act.put, List.setIfInBounds_toArray, List.set_cons_succ, List.set_cons_zero]) | (refine wpList_row_w (by rfl) 31 _ rfl bu4 rfl 31 _ gA1 ⟨_, Tryd.underlying31⟩ (by kernel_rfl) ?_; simp only [Act.put, List.setIfInBounds_toArray, List.set_cons_succ, List.set_cons_zero]) | (go_at_call 14; (with_reducible refine (has_true HAH.out (HF.out.then_ B1) hA1).mono ?_); rintro e x2 ⟨rfl, hb2⟩; have gA2 := gA1.then_ hb2; have gT2 := gT1.then_ hb2; have hA2 := hA1.then_ hb2; have hT2 := hT1.then_ hb2))
        have HH51 := below_then hb1 hb2
        have HB51 := below_then HB50 HH51
        have gbf_51 := GF5.then_ HH51
        have gbu4_51 := GA5.then_ HH51
        have gbu5_51 := GT5.then_ HH51
        have gbc_51 := GC5.then_ HH51
        have hFA_51 := HFA5.then_ HH51
        have hFT_51 := HFT5.then_ HH51
        clear GF5 GA5 GT5 GC5 HFA5 HFT5 HB50 HH51
        clear gf1 gA1 gT1 hA1 hT1 B1 gA2 gT2 hA2 hT2 a1'
        go_upto_region 18 with (first | (refine wpList_row_w (by rfl) 31 _ rfl bu5 rfl 31 _ gbu5_51 ⟨_, Tryd.underlying31⟩ (by kernel_rfl) ?_; simp only [Act.put, List.setIfInBounds_toArray, List.set_cons_succ, List.set_cons_zero]) | (go_at_call 18; (with_reducible refine (HOM.out _ mt hFT_51).mono ?_); rintro e w6 ⟨⟨mm, rfl, hFm, _⟩, hbw6⟩) | (refine wpList_store_all rfl 31 _ _ rfl w6.heap.size 31 [] zF.toList [] (flA M mm).toList rfl rfl (Blk.new _ _ _) rfl (by kernel_rfl) (by simp [Value.oneCell']) ?_; intro u6 gbu6 Uu6))
        have hsu6 : Below w6.heap.size w6 u6 := (wa1 _ _).trans (Uu6.b _ (Nat.le_refl _))
        have HH52 := below_then hbw6 hsu6
        have HB52 := below_then HB51 HH52
        have gbf_52 := gbf_51.then_ HH52
        have gbu4_52 := gbu4_51.then_ HH52
        have gbu5_52 := gbu5_51.then_ HH52
        have gbc_52 := gbc_51.then_ HH52
        have hFA_52 := hFA_51.then_ HH52
        have hFT_52 := hFT_51.then_ HH52
        clear gbf_51 gbu4_51 gbu5_51 gbc_51 hFA_51 hFT_51 HB51 HH52
        have hFM := hFm.then_ hsu6
        obtain ⟨bu6, ebu6⟩ : ∃ b, w6.heap.size = b := ⟨_, rfl⟩
        rw [ebu6] at gbu6 ⊢
        clear ebu6 Uu6 hsu6 hbw6 hFm
        go_upto_region 19 with (first | (refine wpList_row_w (by rfl) 31 _ rfl bf rfl 31 _ gbf_52 ⟨_, Tryd.underlying31⟩ (by kernel_rfl) ?_; simp only [Act.put, List.setIfInBounds_toArray, List.set_cons_succ, List.set_cons_zero]) | (go_at_call 18; (with_reducible refine (HON.out _ HB52).mono ?_); rintro e w7 ⟨⟨mo, rfl, hFo, _⟩, hbw7⟩) | fail | (refine wpList_store_all rfl 31 _ _ rfl w7.heap.size 31 [] zF.toList [] (flA M mo).toList rfl rfl (Blk.new _ _ _) rfl (by kernel_rfl) (by simp [Value.oneCell']) ?_; intro u7 gbu7 Uu7))
        have hsu7 : Below w7.heap.size w7 u7 := (wa1 _ _).trans (Uu7.b _ (Nat.le_refl _))
        have HH53 := below_then hbw7 hsu7
        have HB53 := below_then HB52 HH53
        have gbf_53 := gbf_52.then_ HH53
        have gbu4_53 := gbu4_52.then_ HH53
        have gbu5_53 := gbu5_52.then_ HH53
        have gbc_53 := gbc_52.then_ HH53
        have hFA_53 := hFA_52.then_ HH53
        have hFT_53 := hFT_52.then_ HH53
        have gbu6_53 := gbu6.then_ HH53
        have hFM_53 := hFM.then_ HH53
        clear gbf_52 gbu4_52 gbu5_52 gbc_52 hFA_52 hFT_52 gbu6 hFM HB52 HH53
        have hFO := hFo.then_ hsu7
        obtain ⟨bu7, ebu7⟩ : ∃ b, w7.heap.size = b := ⟨_, rfl⟩
        rw [ebu7] at gbu7 ⊢
        clear ebu7 Uu7 hsu7 hbw7 hFo
        have c5 := Lib.hid gbc_53
        refine wp_region_hb (fun w' => Hid (Below u7.heap.size u7 w')) [0, 1, 2, 3, 4, 5, 6, 7, 8, 9, 10, 11] [12, 13, 14] (by kernel_rfl) (by kernel_rfl) (by repeat (first | with_reducible refine panOk_then ?_ | with_reducible refine panOk_block ?_ | exact panOk_body)) (Lib.hid (Below.drew (Below.refl _ _))) (fun hdir hsel hpan hHeld => ?_)
        refine wpHB_take (i := 0) (oi := ⟨some 102, _, _, _, _, _⟩) hdir hsel hpan rfl (by kernel_rfl) (by kernel_rfl) (by kernel_rfl) (Or.inl ⟨by rfl, fun _ _ => by rfl⟩) (by assumption) ?_
        try simp only [Act.put, List.setIfInBounds_toArray, List.set_cons_zero, List.set_cons_succ]
        refine wpHB_take (i := 1) (oi := ⟨some 103, _, _, _, _, _⟩) hdir hsel hpan rfl (by kernel_rfl) (by kernel_rfl) (by kernel_rfl) (Or.inl ⟨by rfl, fun _ _ => by rfl⟩) (by assumption) ?_
        try simp only [Act.put, List.setIfInBounds_toArray, List.set_cons_zero, List.set_cons_succ]
        refine wpHB_take (i := 2) (oi := ⟨some 104, _, _, _, _, _⟩) hdir hsel hpan rfl (by kernel_rfl) (by kernel_rfl) (by kernel_rfl) (yieldsIf_row (by rfl) 31 _ rfl bu6 rfl 31 _ (fun w hw => (gbu6_53.then_ hw.out)) ⟨_, Tryd.underlying31⟩ (by kernel_rfl)) (by assumption) ?_
        try simp only [Act.put, List.setIfInBounds_toArray, List.set_cons_zero, List.set_cons_succ]
        refine wpHB_take (i := 3) (oi := ⟨some 105, _, _, _, _, _⟩) hdir hsel hpan rfl (by kernel_rfl) (by kernel_rfl) (by kernel_rfl) (yieldsIf_row (by rfl) 31 _ rfl bu7 rfl 31 _ (fun w hw => (gbu7.then_ hw.out)) ⟨_, Tryd.underlying31⟩ (by kernel_rfl)) (by assumption) ?_
        try simp only [Act.put, List.setIfInBounds_toArray, List.set_cons_zero, List.set_cons_succ]
        refine wpHB_ready (rs := [4]) (by kernel_rfl) (by simp) ?_
        refine AllHB.cons (by kernel_rfl) (o := ⟨some 106, _, _, _, _, _⟩) rfl (fun K hK => ?_) AllHB.nil
        go_simp
        (go_at_call 17; (with_reducible refine (same_eq (hFM_53.then_ hHeld.out) (hFO.then_ hHeld.out) rfl).mono ?_); rintro e wa ⟨rfl, hba⟩)
        refine hK.out _ _ (Lib.hid (below_then hHeld.out hba)) (fun hHeld2 => ?_)
        clear hK K hHeld
        have hHeld := hHeld2
        clear hHeld2
        try simp only [Act.put, List.setIfInBounds_toArray, List.set_cons_zero, List.set_cons_succ]
        refine wpHB_take (i := 5) (oi := ⟨some 107, _, _, _, _, _⟩) hdir hsel hpan rfl (by kernel_rfl) (by kernel_rfl) (by kernel_rfl) (Or.inl ⟨by rfl, fun _ _ => by rfl⟩) (by assumption) ?_
        try simp only [Act.put, List.setIfInBounds_toArray, List.set_cons_zero, List.set_cons_succ]
        refine wpHB_take (i := 6) (oi := ⟨some 108, _, _, _, _, _⟩) hdir hsel hpan rfl (by kernel_rfl) (by kernel_rfl) (by kernel_rfl) (Or.inl ⟨by rfl, fun _ _ => by rfl⟩) (by assumption) ?_
        try simp only [Act.put, List.setIfInBounds_toArray, List.set_cons_zero, List.set_cons_succ]
        refine wpHB_take (i := 7) (oi := ⟨some 109, _, _, _, _, _⟩) hdir hsel hpan rfl (by kernel_rfl) (by kernel_rfl) (by kernel_rfl) (yieldsIf_row (by rfl) 31 _ rfl bf rfl 31 _ (fun w hw => (gbf_53.then_ hw.out)) ⟨_, Tryd.underlying31⟩ (by kernel_rfl)) (by assumption) ?_
        try simp only [Act.put, List.setIfInBounds_toArray, List.set_cons_zero, List.set_cons_succ]
        refine wpHB_take (i := 8) (oi := ⟨some 110, _, _, _, _, _⟩) (v := .pointer (some ⟨bc, 5, none⟩)) hdir hsel hpan rfl (by kernel_rfl) (by kernel_rfl) (by kernel_rfl) (Or.inl ⟨by rfl, fun w hw => by go_simp⟩) (by assumption) ?_
        try simp only [Act.put, List.setIfInBounds_toArray, List.set_cons_zero, List.set_cons_succ]
        refine wpHB_take (i := 9) (oi := ⟨some 111, _, _, _, _, _⟩) (v := .int .i64 c.days) hdir hsel hpan rfl (by kernel_rfl) (by kernel_rfl) (by kernel_rfl) (Or.inl ⟨by rfl, fun w hw => by have hc := (gbc_53.then_ hw.out).cell 5; go_simp⟩) (by assumption) ?_
        try simp only [Act.put, List.setIfInBounds_toArray, List.set_cons_zero, List.set_cons_succ]
        refine wpHB_take (i := 11) (oi := ⟨some 113, _, _, _, _, _⟩) hdir hsel hpan rfl (by kernel_rfl) (by kernel_rfl) (by kernel_rfl) (yieldsIf_row (by rfl) 31 _ rfl bf rfl 31 _ (fun w hw => (gbf_53.then_ hw.out)) ⟨_, Tryd.underlying31⟩ (by kernel_rfl)) (by assumption) ?_
        try simp only [Act.put, List.setIfInBounds_toArray, List.set_cons_zero, List.set_cons_succ]
        refine wpHB_ready (rs := [10]) (by kernel_rfl) (by simp) ?_
        refine AllHB.cons (by kernel_rfl) (o := ⟨some 112, _, _, _, _, _⟩) rfl (fun K hK => ?_) AllHB.nil
        go_simp
        (go_at_call 18; (with_reducible refine (HOD.out _ (below_then HB53 hHeld.out)).mono ?_); rintro e wb ⟨⟨my, rfl, hFy, _⟩, hbb⟩)
        refine hK.out _ _ (Lib.hid (below_then hHeld.out hbb)) (fun hHeld2 => ?_)
        clear hK K hHeld
        have hHeld := hHeld2
        clear hHeld2
        try simp only [Act.put, List.setIfInBounds_toArray, List.set_cons_zero, List.set_cons_succ]
        refine wpHB_tail (by kernel_rfl) (by kernel_rfl) ?_
        clear hdir hsel hpan
        simp only [opsAt, List.getElem?_toArray, List.getElem?_cons_succ, List.getElem?_cons_zero, Option.toList_some, List.cons_append, List.nil_append]
        go_wp2_with (go_at_call 17; (with_reducible refine (same_eq hFy (HF.out.then_ (below_then HB53 hHeld.out)) rfl).mono ?_); rintro e wz ⟨rfl, hbz⟩)
        go_ret
        exact ⟨rfl, below_then (below_then HB53 hHeld.out) hbz⟩
end Go.Proofs.YtemkghgcdpmlbaaDoor
