/- The walk of FileOpens. -/
import Derived.Test.YtemkghgcdpmlbaaDoorMb22
namespace Go.Proofs.YtemkghgcdpmlbaaDoor
open Go.RowKit Go.Sort

theorem cnt_next {p : Fac → Bool} {l : List Fac} {i : Nat} {y : Fac} (h : l[i]? = some y) : (l.take (i + 1)).countP p = (l.take i).countP p + (if p y then 1 else 0) := by
  rw [List.take_add_one, h, List.countP_append]
  simp [List.countP_cons]
theorem cnt_all {p : Fac → Bool} {l : List Fac} {i : Nat} (h : l.length ≤ i) : (l.take i).countP p = l.countP p := by rw [List.take_of_length_le h]
set_option maxRecDepth 100000 in
set_option maxHeartbeats 6400000 in
theorem opens_law (c : Con) (m : Cm) (f : Fil) (k : Fm) (d : Int) (w : World) (hL : Lw w) (hc : ContW w c m) (hf : FilW w f k) :
    Calls Tryd.prog 6 #[.agg (coA c m), .agg (flA f k), .int .i64 d] w fun e w' => e = .returned (.bool true) ∧ Below w.heap.size w w' := by
  have HH := Lib.hid (fun W (hb : Below w.heap.size w W) => head_any W (hL.below hb))
  cases hs1 : c.small 60 with
  | false =>
    have HS1 := Lib.hid (fun W (hb : Below w.heap.size w W) => smallc_at c m false hc hs1 W hb)
    clear hc hf hs1 hL
    go_enter Tryd.func6, Tryd.ntmps6
    go_upto_region 1 with (fail)
    refine name_wp ?_
    intro X0 hX
    have gbc : Blk X0 w.heap.size 27 (coA c m) := by rw [hX]; exact (blk_at (by simp)).alloc _
    have gbf : Blk X0 (w.heap.size + 1) 31 (flA f k) := by rw [hX]; exact blk_at (by simp)
    have HB0 : Below w.heap.size w X0 := by rw [hX]; (repeat (first | with_reducible assumption | with_reducible exact Below.refl _ _ | with_reducible refine below_drewN ?_ _ | with_reducible refine Below.drew ?_ | with_reducible refine below_alloc ?_ _ | with_reducible refine Below.setCell ?_ (by first | omega | (simp; done) | (simp; omega)) _ | with_reducible refine below_then ?_ (by with_reducible assumption) | (refine below_then (a := World.drew _) ?_ (by with_reducible assumption))))
    clear hX
    obtain ⟨bf, ebf⟩ : ∃ b, w.heap.size + 1 = b := ⟨_, rfl⟩
    obtain ⟨bc, ebc⟩ : ∃ b, w.heap.size = b := ⟨_, rfl⟩
    have lbc : w.heap.size ≤ bc := by omega
    have lbf : w.heap.size ≤ bf := by omega
    have nbcbf : bc ≠ bf := by omega
    rw [ebf] at gbf ⊢
    rw [ebc] at gbc ⊢
    clear ebc ebf
    go_upto_region 2 with ((go_at_call 8; (with_reducible refine (HH.out _ HB0).mono ?_); rintro e w1 ⟨rfl, hbw1⟩))
    have HH1 := hbw1
    have HB1 := below_then HB0 HH1
    have gbc_1 := gbc.then_ HH1
    have gbf_1 := gbf.then_ HH1
    clear gbc gbf HB0 HH1
    go_wp2_with (first | (refine wpList_row_w (by rfl) 27 _ rfl bc rfl 27 _ gbc_1 ⟨_, Tryd.underlying27⟩ (by kernel_rfl) ?_; simp only [Act.put, List.setIfInBounds_toArray, List.set_cons_succ, List.set_cons_zero]) | (go_at_call 9; (with_reducible refine (HS1.out _ HB1).mono ?_); rintro e w2 ⟨rfl, hbw2⟩; have gf2 := gbf_1.then_ hbw2))
    go_ret
    exact ⟨rfl, below_then HB1 hbw2⟩
  | true =>
  have HS1 := Lib.hid (fun W (hb : Below w.heap.size w W) => smallc_at c m true hc hs1 W hb)
  cases hs2 : f.small 200 with
  | false =>
    have HS2 := Lib.hid (fun W => smallf_at f k false hs2 W)
    clear hc hf hs1 hs2 hL
    go_enter Tryd.func6, Tryd.ntmps6
    go_upto_region 1 with (fail)
    refine name_wp ?_
    intro X0 hX
    have gbc : Blk X0 w.heap.size 27 (coA c m) := by rw [hX]; exact (blk_at (by simp)).alloc _
    have gbf : Blk X0 (w.heap.size + 1) 31 (flA f k) := by rw [hX]; exact blk_at (by simp)
    have HB0 : Below w.heap.size w X0 := by rw [hX]; (repeat (first | with_reducible assumption | with_reducible exact Below.refl _ _ | with_reducible refine below_drewN ?_ _ | with_reducible refine Below.drew ?_ | with_reducible refine below_alloc ?_ _ | with_reducible refine Below.setCell ?_ (by first | omega | (simp; done) | (simp; omega)) _ | with_reducible refine below_then ?_ (by with_reducible assumption) | (refine below_then (a := World.drew _) ?_ (by with_reducible assumption))))
    clear hX
    obtain ⟨bf, ebf⟩ : ∃ b, w.heap.size + 1 = b := ⟨_, rfl⟩
    obtain ⟨bc, ebc⟩ : ∃ b, w.heap.size = b := ⟨_, rfl⟩
    have lbc : w.heap.size ≤ bc := by omega
    have lbf : w.heap.size ≤ bf := by omega
    have nbcbf : bc ≠ bf := by omega
    rw [ebf] at gbf ⊢
    rw [ebc] at gbc ⊢
    clear ebc ebf
    go_upto_region 2 with ((go_at_call 8; (with_reducible refine (HH.out _ HB0).mono ?_); rintro e w1 ⟨rfl, hbw1⟩))
    have HH1 := hbw1
    have HB1 := below_then HB0 HH1
    have gbc_1 := gbc.then_ HH1
    have gbf_1 := gbf.then_ HH1
    clear gbc gbf HB0 HH1
    go_wp2_with (first | (refine wpList_row_w (by rfl) 27 _ rfl bc rfl 27 _ gbc_1 ⟨_, Tryd.underlying27⟩ (by kernel_rfl) ?_; simp only [Act.put, List.setIfInBounds_toArray, List.set_cons_succ, List.set_cons_zero]) | (go_at_call 9; (with_reducible refine (HS1.out _ HB1).mono ?_); rintro e w2 ⟨rfl, hbw2⟩; have gf2 := gbf_1.then_ hbw2) | (refine wpList_row_w (by rfl) 31 _ rfl bf rfl 31 _ gf2 ⟨_, Tryd.underlying31⟩ (by kernel_rfl) ?_; simp only [Act.put, List.setIfInBounds_toArray, List.set_cons_succ, List.set_cons_zero]) | (go_at_call 10; (with_reducible refine (HS2.out _).mono ?_); rintro e w3 ⟨rfl, hbw3⟩))
    go_ret
    exact ⟨rfl, below_then (below_then HB1 hbw2) hbw3⟩
  | true =>
  have HS2 := Lib.hid (fun W => smallf_at f k true hs2 W)
  obtain ⟨hF, l1, l2⟩ := small_filt hf hs2
  have hC := small_cont hc hs1
  have HC := Lib.hid hC
  have HF := Lib.hid hF
  have hB := hf.b
  obtain ⟨A, eA⟩ : ∃ A, f.open_ = A := ⟨_, rfl⟩
  obtain ⟨F1, e1⟩ : ∃ F, f.asOf d = F := ⟨_, rfl⟩
  obtain ⟨F2, e2⟩ : ∃ F, F1.open_ = F := ⟨_, rfl⟩
  have hAB : A.B := by rw [← eA]; exact hB.part _
  have h1B : F1.B := by rw [← e1]; exact hB.part _
  have HOP := Lib.hid (fun W (hb : Below w.heap.size w W) => open_any f k W (HF.out.then_ hb) hB)
  rw [eA] at HOP
  have HOA := Lib.hid (fun W mx (h : Filt W A mx) => open_any A mx W h hAB)
  rw [show A.open_ = A by rw [← eA]; exact open_open f] at HOA
  have HAF := Lib.hid (fun W (hb : Below w.heap.size w W) => asOf_any f k d W (HF.out.then_ hb) hB)
  rw [e1] at HAF
  have HO1 := Lib.hid (fun W mx (h : Filt W F1 mx) => open_any F1 mx W h h1B)
  rw [e2] at HO1
  have HAA := Lib.hid (fun W mx (h : Filt W A mx) => asOf_any A mx d W h hAB)
  rw [show A.asOf d = F2 by rw [← e2, ← e1, ← eA]; exact (open_asOf f d).symm] at HAA
  have HAS : Hid (∀ z ∈ A.facts, z.sec = false) := fun z hz => by rw [← eA] at hz; simpa using (part_mem.1 hz).2
  have HAH : Hid (f.has A = true) := by unfold Hid; rw [← eA]; exact part_has f _
  have HCN : Hid (f.facts.countP (fun x => !x.sec) = A.facts.length) := by unfold Hid; rw [← eA]; exact (part_count f _).symm
  obtain ⟨V, eV⟩ : ∃ V, f.ok c = V := ⟨_, rfl⟩
  have HVA : Hid (V = true → A.ok c = true) := fun h => by rw [← eA]; exact Fil.ok_iff.2 (part_good (Fil.ok_iff.1 (eV.trans h)) _)
  have HV := Lib.hid (fun W (hb : Below w.heap.size w W) => fvalid_any c m f k W (HC.out.then_ hb) (HF.out.then_ hb))
  rw [eV] at HV
  clear hc hf hs1 hs2 hL hC hF hB hAB h1B eA e1 e2 eV
  go_enter Tryd.func6, Tryd.ntmps6
  go_upto_region 1 with (fail)
  refine name_wp ?_
  intro X0 hX
  have gbc : Blk X0 w.heap.size 27 (coA c m) := by rw [hX]; exact (blk_at (by simp)).alloc _
  have gbf : Blk X0 (w.heap.size + 1) 31 (flA f k) := by rw [hX]; exact blk_at (by simp)
  have HB0 : Below w.heap.size w X0 := by rw [hX]; (repeat (first | with_reducible assumption | with_reducible exact Below.refl _ _ | with_reducible refine below_drewN ?_ _ | with_reducible refine Below.drew ?_ | with_reducible refine below_alloc ?_ _ | with_reducible refine Below.setCell ?_ (by first | omega | (simp; done) | (simp; omega)) _ | with_reducible refine below_then ?_ (by with_reducible assumption) | (refine below_then (a := World.drew _) ?_ (by with_reducible assumption))))
  clear hX
  obtain ⟨bf, ebf⟩ : ∃ b, w.heap.size + 1 = b := ⟨_, rfl⟩
  obtain ⟨bc, ebc⟩ : ∃ b, w.heap.size = b := ⟨_, rfl⟩
  have lbc : w.heap.size ≤ bc := by omega
  have lbf : w.heap.size ≤ bf := by omega
  have nbcbf : bc ≠ bf := by omega
  rw [ebf] at gbf ⊢
  rw [ebc] at gbc ⊢
  clear ebc ebf
  go_upto_region 2 with ((go_at_call 8; (with_reducible refine (HH.out _ HB0).mono ?_); rintro e w1 ⟨rfl, hbw1⟩))
  have HH1 := hbw1
  have HB1 := below_then HB0 HH1
  have gbc_1 := gbc.then_ HH1
  have gbf_1 := gbf.then_ HH1
  clear gbc gbf HB0 HH1
  go_upto_region 4 with (first | (refine wpList_row_w (by rfl) 27 _ rfl bc rfl 27 _ gbc_1 ⟨_, Tryd.underlying27⟩ (by kernel_rfl) ?_; simp only [Act.put, List.setIfInBounds_toArray, List.set_cons_succ, List.set_cons_zero]) | (go_at_call 9; (with_reducible refine (HS1.out _ HB1).mono ?_); rintro e w2 ⟨rfl, hbw2⟩; have gf2 := gbf_1.then_ hbw2) | (refine wpList_row_w (by rfl) 31 _ rfl bf rfl 31 _ gf2 ⟨_, Tryd.underlying31⟩ (by kernel_rfl) ?_; simp only [Act.put, List.setIfInBounds_toArray, List.set_cons_succ, List.set_cons_zero]) | (go_at_call 10; (with_reducible refine (HS2.out _).mono ?_); rintro e w3 ⟨rfl, hbw3⟩))
  have HH2 := below_then hbw2 hbw3
  have HB2 := below_then HB1 HH2
  have gbc_2 := gbc_1.then_ HH2
  have gbf_2 := gbf_1.then_ HH2
  clear gbc_1 gbf_1 HB1 HH2
  go_upto_region 5 with (first | (refine wpList_row_w (by rfl) 31 _ rfl bf rfl 31 _ gbf_2 ⟨_, Tryd.underlying31⟩ (by kernel_rfl) ?_; simp only [Act.put, List.setIfInBounds_toArray, List.set_cons_succ, List.set_cons_zero]) | (go_at_call 19; (with_reducible refine (HOP.out _ HB2).mono ?_); rintro e w4 ⟨⟨ma, rfl, hFa, _⟩, hbw4⟩) | (refine wpList_store_all rfl 31 _ _ rfl w4.heap.size 31 [] zF.toList [] (flA A ma).toList rfl rfl (Blk.new _ _ _) rfl (by kernel_rfl) (by simp [Value.oneCell']) ?_; intro u4 gbu4 Uu4))
  have hsu4 : Below w4.heap.size w4 u4 := (wa1 _ _).trans (Uu4.b _ (Nat.le_refl _))
  have HH3 := below_then hbw4 hsu4
  have HB3 := below_then HB2 HH3
  have gbc_3 := gbc_2.then_ HH3
  have gbf_3 := gbf_2.then_ HH3
  clear gbc_2 gbf_2 HB2 HH3
  have hFA := hFa.then_ hsu4
  obtain ⟨bu4, ebu4⟩ : ∃ b, w4.heap.size = b := ⟨_, rfl⟩
  rw [ebu4] at gbu4 ⊢
  clear ebu4 Uu4 hsu4 hbw4 hFa
  have HFA := Lib.hid hFA
  have GF := Lib.hid gbf_3
  have GA := Lib.hid gbu4
  have HBB := Lib.hid HB3
  clear hFA HB3
  have f1 : u4.cell? ⟨bf, 1, none⟩ = some (.slice k.f f.facts.length k.fc) := gbf_3.cell 1
  have a1 : u4.cell? ⟨bu4, 1, none⟩ = some (.slice ma.f A.facts.length ma.fc) := gbu4.cell 1
  have HSF := Lib.hid ((HF.out.then_ HBB.out).sf)
  have HSA := Lib.hid HFA.out.sf
  clear gbf_3 gbu4
  go_upto_region 7 with (fail)
  go_loopw [9, 10] (fun y9 y10 WR => ∃ i n : Nat, i ≤ f.facts.length ∧ n ≤ i ∧ y9 = .int .i64 n ∧ y10 = .int .i64 i ∧ Hid (n = (f.facts.take i).countP fun x => !x.sec) ∧ WR = u4) (fun _ y10 _ => 2000000 - (intOf y10).toNat)
  case atStart => exact ⟨0, 0, by omega, by omega, rfl, rfl, rfl, rfl⟩
  case round =>
    obtain ⟨i, n, hi, hn, rfl, rfl, hc, rfl⟩ := hrel
    by_cases hlt : i < f.facts.length
    case pos =>
      obtain ⟨y, hy⟩ : ∃ y, f.facts[i]? = some y := ⟨_, List.getElem?_eq_getElem hlt⟩
      obtain ⟨b0, o0, e0, hb0, hc0⟩ := segAt HSF.out hy
      have hix := fun W => idx_at (t := 28) (size := 6) (cap := k.fc) (len := f.facts.length) e0 hlt (by kernel_rfl) (fun W => by kernel_rfl) W
      have tl : decide ((i : Int) < (f.facts.length : Int)) = true := decide_eq_true (by omega)
      have hcn := Lib.hid (cnt_next (p := fun x => !x.sec) hy)
      cases hs : y.sec with
      | true =>
        have y5 : wr.cell? ⟨b0, o0 + i * 6 + 5, none⟩ = some (.bool true) := (hc0 5 _ rfl).trans (by rw [hs])
        have hc2 : Hid (n = (f.facts.take (i + 1)).countP fun x => !x.sec) := by unfold Hid; rw [hcn.out, hc.out, hs]; simp
        clear hc hcn hs hc0 hy
        go_wp2
        go_roundw
        case rel => exact ⟨i + 1, n, by omega, by omega, rfl, by simp, hc2, by simp⟩
        case measure => simp [intOf]; omega
      | false =>
        have y5 : wr.cell? ⟨b0, o0 + i * 6 + 5, none⟩ = some (.bool false) := (hc0 5 _ rfl).trans (by rw [hs])
        have hc2 : Hid (n + 1 = (f.facts.take (i + 1)).countP fun x => !x.sec) := by unfold Hid; rw [hcn.out, hc.out, hs]; simp
        clear hc hcn hs hc0 hy
        go_wp2
        go_roundw
        case rel => exact ⟨i + 1, n + 1, by omega, by omega, by simp, by simp, hc2, by simp⟩
        case measure => simp [intOf]; omega
    case neg =>
      have tl : decide ((i : Int) < (f.facts.length : Int)) = false := decide_eq_false (by omega)
      have hnA : Hid (A.facts.length = n) := by unfold Hid; rw [hc.out, cnt_all (by omega)]; exact HCN.out.symm
      have lA : A.facts.length ≤ 200 := by have := hnA.out; omega
      clear hc
      go_upto_region 12 with (fail)
      clear tl
      go_loopw [11] (fun y11 WR => ∃ j : Nat, j ≤ A.facts.length ∧ y11 = .int .i64 j ∧ WR = wr) (fun y11 _ => 2000000 - (intOf y11).toNat)
      case atStart => exact ⟨0, by omega, rfl, rfl⟩
      case round =>
        obtain ⟨j, hj, rfl, rfl⟩ := hrel
        by_cases hlt2 : j < A.facts.length
        case pos =>
          obtain ⟨y, hy⟩ : ∃ y, A.facts[j]? = some y := ⟨_, List.getElem?_eq_getElem hlt2⟩
          obtain ⟨b0, o0, e0, hb0, hc0⟩ := segAt HSA.out hy
          have hix := fun W => idx_at (t := 28) (size := 6) (cap := ma.fc) (len := A.facts.length) e0 hlt2 (by kernel_rfl) (fun W => by kernel_rfl) W
          have tl : decide ((j : Int) < (A.facts.length : Int)) = true := decide_eq_true (by omega)
          have y5 : wr.cell? ⟨b0, o0 + j * 6 + 5, none⟩ = some (.bool false) := (hc0 5 _ rfl).trans (by rw [HAS.out y (List.mem_of_getElem? hy)])
          clear hc0 hy
          go_wp2
          go_roundw
          case rel => exact ⟨j + 1, by omega, by simp, by simp⟩
          case measure => simp [intOf]; omega
        case neg =>
          have tl : decide ((j : Int) < (A.facts.length : Int)) = false := decide_eq_false (by omega)
          go_upto_region 16 with (fail)
          clear tl
          have a1' : wr.cell? ⟨bu4, 1, none⟩ = some (.slice ma.f n ma.fc) := by rw [← hnA.out]; exact a1
          clear a1 f1
          have HB50 := HBB.out
          cases V with
          | true =>
            go_upto_region 18 with (first | (refine wpList_row_w (by rfl) 31 _ rfl bf rfl 31 _ GF.out ⟨_, Tryd.underlying31⟩ (by kernel_rfl) ?_; simp only [Act.put, List.setIfInBounds_toArray, List.set_cons_succ, List.set_cons_zero]) | (refine wpList_row_w (by rfl) 31 _ rfl bu4 rfl 31 _ GA.out ⟨_, Tryd.underlying31⟩ (by kernel_rfl) ?_; simp only [Act.put, List.setIfInBounds_toArray, List.set_cons_succ, List.set_cons_zero]) | (go_at_call 14; (with_reducible refine (has_true HAH.out (HF.out.then_ HB50) HFA.out).mono ?_); rintro e x1 ⟨rfl, hb1⟩; have gc1 := gbc_3.then_ hb1; have gf1 := GF.out.then_ hb1; have gA1 := GA.out.then_ hb1; have hA1 := HFA.out.then_ hb1; have B1 := below_then HB50 hb1) | (refine wpList_row_w (by rfl) 27 _ rfl bc rfl 27 _ gc1 ⟨_, Tryd.underlying27⟩ (by kernel_rfl) ?_; simp only [Act.put, List.setIfInBounds_toArray, List.set_cons_succ, List.set_cons_zero]) | (refine wpList_row_w (by rfl) 31 _ rfl bf rfl 31 _ gf1 ⟨_, Tryd.underlying31⟩ (by kernel_rfl) ?_; simp only [Act.put, List.setIfInBounds_toArray, List.set_cons_succ, List.set_cons_zero]) | (go_at_call 13; (with_reducible refine (HV.out _ B1).mono ?_); rintro e x2 ⟨rfl, hb2⟩; have gc2 := gc1.then_ hb2; have gA2 := gA1.then_ hb2; have hA2 := hA1.then_ hb2; have B2 := below_then B1 hb2) | (refine wpList_row_w (by rfl) 27 _ rfl bc rfl 27 _ gc2 ⟨_, Tryd.underlying27⟩ (by kernel_rfl) ?_; simp only [Act.put, List.setIfInBounds_toArray, List.set_cons_succ, List.set_cons_zero]) | (refine wpList_row_w (by rfl) 31 _ rfl bu4 rfl 31 _ gA2 ⟨_, Tryd.underlying31⟩ (by kernel_rfl) ?_; simp only [Act.put, List.setIfInBounds_toArray, List.set_cons_succ, List.set_cons_zero]) | (go_at_call 13; (with_reducible refine (fval_true (HVA.out (by trivial)) (HC.out.then_ B2) hA2).mono ?_); rintro e x3 ⟨rfl, hb3⟩))
            have hb1' : Below wr.heap.size wr x3 := below_then (below_then hb1 hb2) hb3
            clear gc1 gf1 gA1 hA1 B1 gc2 gA2 hA2 B2
            have HB61 := below_then HB50 hb1'
            have GF2 := GF.out.then_ hb1'
            have GA2 := GA.out.then_ hb1'
            have HFA2 := HFA.out.then_ hb1'
            refine wp_region_hb (fun w' => Hid (Below x3.heap.size x3 w')) [0, 1, 2, 3, 4, 5, 6, 7, 8, 9, 10, 11, 12, 13] [14, 15, 16, 17] (by kernel_rfl) (by kernel_rfl) (by repeat (first | with_reducible refine panOk_then ?_ | with_reducible refine panOk_block ?_ | exact panOk_body)) (Lib.hid (Below.drew (Below.refl _ _))) (fun hdir hsel hpan hHeld => ?_)
            refine wpHB_take (i := 0) (oi := ⟨some 75, _, _, _, _, _⟩) hdir hsel hpan rfl (by kernel_rfl) (by kernel_rfl) (by kernel_rfl) (Or.inl ⟨by rfl, fun _ _ => by rfl⟩) (by assumption) ?_
            try simp only [Act.put, List.setIfInBounds_toArray, List.set_cons_zero, List.set_cons_succ]
            refine wpHB_take (i := 1) (oi := ⟨some 76, _, _, _, _, _⟩) hdir hsel hpan rfl (by kernel_rfl) (by kernel_rfl) (by kernel_rfl) (Or.inl ⟨by rfl, fun _ _ => by rfl⟩) (by assumption) ?_
            try simp only [Act.put, List.setIfInBounds_toArray, List.set_cons_zero, List.set_cons_succ]
            refine wpHB_take (i := 2) (oi := ⟨some 77, _, _, _, _, _⟩) hdir hsel hpan rfl (by kernel_rfl) (by kernel_rfl) (by kernel_rfl) (yieldsIf_row (by rfl) 31 _ rfl bu4 rfl 31 _ (fun w hw => (GA2.then_ hw.out)) ⟨_, Tryd.underlying31⟩ (by kernel_rfl)) (by assumption) ?_
            try simp only [Act.put, List.setIfInBounds_toArray, List.set_cons_zero, List.set_cons_succ]
            refine wpHB_take (i := 4) (oi := ⟨some 79, _, _, _, _, _⟩) hdir hsel hpan rfl (by kernel_rfl) (by kernel_rfl) (by kernel_rfl) (yieldsIf_row (by rfl) 31 _ rfl bu4 rfl 31 _ (fun w hw => (GA2.then_ hw.out)) ⟨_, Tryd.underlying31⟩ (by kernel_rfl)) (by assumption) ?_
            try simp only [Act.put, List.setIfInBounds_toArray, List.set_cons_zero, List.set_cons_succ]
            refine wpHB_ready (rs := [3]) (by kernel_rfl) (by simp) ?_
            refine AllHB.cons (by kernel_rfl) (o := ⟨some 78, _, _, _, _, _⟩) rfl (fun K hK => ?_) AllHB.nil
            go_simp
            (go_at_call 19; (with_reducible refine (HOA.out _ ma (HFA2.then_ hHeld.out)).mono ?_); rintro e wa ⟨⟨mx, rfl, hFx, _⟩, hba⟩)
            refine hK.out _ _ (Lib.hid (below_then hHeld.out hba)) (fun hHeld2 => ?_)
            clear hK K hHeld
            have hHeld := hHeld2
            clear hHeld2
            try simp only [Act.put, List.setIfInBounds_toArray, List.set_cons_zero, List.set_cons_succ]
            refine wpHB_ready (rs := [5]) (by kernel_rfl) (by simp) ?_
            refine AllHB.cons (by kernel_rfl) (o := ⟨some 80, _, _, _, _, _⟩) rfl (fun K hK => ?_) AllHB.nil
            go_simp
            (go_at_call 17; (with_reducible refine (same_eq hFx (HFA2.then_ hHeld.out) rfl).mono ?_); rintro e wb ⟨rfl, hbb⟩)
            refine hK.out _ _ (Lib.hid (below_then hHeld.out hbb)) (fun hHeld2 => ?_)
            clear hK K hHeld
            have hHeld := hHeld2
            clear hHeld2
            try simp only [Act.put, List.setIfInBounds_toArray, List.set_cons_zero, List.set_cons_succ]
            refine wpHB_take (i := 6) (oi := ⟨some 81, _, _, _, _, _⟩) hdir hsel hpan rfl (by kernel_rfl) (by kernel_rfl) (by kernel_rfl) (Or.inl ⟨by rfl, fun _ _ => by rfl⟩) (by assumption) ?_
            try simp only [Act.put, List.setIfInBounds_toArray, List.set_cons_zero, List.set_cons_succ]
            refine wpHB_take (i := 7) (oi := ⟨some 82, _, _, _, _, _⟩) hdir hsel hpan rfl (by kernel_rfl) (by kernel_rfl) (by kernel_rfl) (Or.inl ⟨by rfl, fun _ _ => by rfl⟩) (by assumption) ?_
            try simp only [Act.put, List.setIfInBounds_toArray, List.set_cons_zero, List.set_cons_succ]
            refine wpHB_take (i := 8) (oi := ⟨some 83, _, _, _, _, _⟩) hdir hsel hpan rfl (by kernel_rfl) (by kernel_rfl) (by kernel_rfl) (yieldsIf_row (by rfl) 31 _ rfl bf rfl 31 _ (fun w hw => (GF2.then_ hw.out)) ⟨_, Tryd.underlying31⟩ (by kernel_rfl)) (by assumption) ?_
            try simp only [Act.put, List.setIfInBounds_toArray, List.set_cons_zero, List.set_cons_succ]
            refine wpHB_take (i := 9) (oi := ⟨some 84, _, _, _, _, _⟩) hdir hsel hpan rfl (by kernel_rfl) (by kernel_rfl) (by kernel_rfl) (Or.inl ⟨by rfl, fun _ _ => by rfl⟩) (by assumption) ?_
            try simp only [Act.put, List.setIfInBounds_toArray, List.set_cons_zero, List.set_cons_succ]
            refine wpHB_take (i := 12) (oi := ⟨some 87, _, _, _, _, _⟩) hdir hsel hpan rfl (by kernel_rfl) (by kernel_rfl) (by kernel_rfl) (yieldsIf_row (by rfl) 31 _ rfl bu4 rfl 31 _ (fun w hw => (GA2.then_ hw.out)) ⟨_, Tryd.underlying31⟩ (by kernel_rfl)) (by assumption) ?_
            try simp only [Act.put, List.setIfInBounds_toArray, List.set_cons_zero, List.set_cons_succ]
            refine wpHB_take (i := 13) (oi := ⟨some 88, _, _, _, _, _⟩) hdir hsel hpan rfl (by kernel_rfl) (by kernel_rfl) (by kernel_rfl) (Or.inl ⟨by rfl, fun _ _ => by rfl⟩) (by assumption) ?_
            try simp only [Act.put, List.setIfInBounds_toArray, List.set_cons_zero, List.set_cons_succ]
            refine wpHB_ready (rs := [10]) (by kernel_rfl) (by simp) ?_
            refine AllHB.cons (by kernel_rfl) (o := ⟨some 85, _, _, _, _, _⟩) rfl (fun K hK => ?_) AllHB.nil
            go_simp
            (go_at_call 18; (with_reducible refine (HAF.out _ (below_then HB61 hHeld.out)).mono ?_); rintro e wc ⟨⟨my, rfl, hFy, _⟩, hbc⟩)
            refine hK.out _ _ (Lib.hid (below_then hHeld.out hbc)) (fun hHeld2 => ?_)
            clear hK K hHeld
            have hHeld := hHeld2
            clear hHeld2
            try simp only [Act.put, List.setIfInBounds_toArray, List.set_cons_zero, List.set_cons_succ]
            refine wpHB_ready (rs := [11]) (by kernel_rfl) (by simp) ?_
            refine AllHB.cons (by kernel_rfl) (o := ⟨some 86, _, _, _, _, _⟩) rfl (fun K hK => ?_) AllHB.nil
            go_simp
            (go_at_call 19; (with_reducible refine (HO1.out _ my hFy).mono ?_); rintro e wd ⟨⟨mv, rfl, hFv, _⟩, hbd⟩)
            refine hK.out _ _ (Lib.hid (below_then hHeld.out hbd)) (fun hHeld2 => ?_)
            clear hK K hHeld
            have hHeld := hHeld2
            clear hHeld2
            try simp only [Act.put, List.setIfInBounds_toArray, List.set_cons_zero, List.set_cons_succ]
            refine wpHB_tail (by kernel_rfl) (by kernel_rfl) ?_
            clear hdir hsel hpan
            simp only [opsAt, List.getElem?_toArray, List.getElem?_cons_succ, List.getElem?_cons_zero, Option.toList_some, List.cons_append, List.nil_append]
            go_wp2_with (first | (go_at_call 18; (with_reducible refine (HAA.out _ ma (HFA2.then_ hHeld.out)).mono ?_); rintro e we ⟨⟨mw, rfl, hFw, _⟩, hbe⟩) | (go_at_call 17; (with_reducible refine (same_eq (hFv.then_ hbe) hFw rfl).mono ?_); rintro e wz ⟨rfl, hbz⟩))
            go_ret
            exact ⟨rfl, below_then (below_then (below_then HB61 hHeld.out) hbe) hbz⟩
          | false =>
            go_upto_region 18 with (first | (refine wpList_row_w (by rfl) 31 _ rfl bf rfl 31 _ GF.out ⟨_, Tryd.underlying31⟩ (by kernel_rfl) ?_; simp only [Act.put, List.setIfInBounds_toArray, List.set_cons_succ, List.set_cons_zero]) | (refine wpList_row_w (by rfl) 31 _ rfl bu4 rfl 31 _ GA.out ⟨_, Tryd.underlying31⟩ (by kernel_rfl) ?_; simp only [Act.put, List.setIfInBounds_toArray, List.set_cons_succ, List.set_cons_zero]) | (go_at_call 14; (with_reducible refine (has_true HAH.out (HF.out.then_ HB50) HFA.out).mono ?_); rintro e x1 ⟨rfl, hb1⟩; have gc1 := gbc_3.then_ hb1; have gf1 := GF.out.then_ hb1; have gA1 := GA.out.then_ hb1; have hA1 := HFA.out.then_ hb1; have B1 := below_then HB50 hb1) | (refine wpList_row_w (by rfl) 27 _ rfl bc rfl 27 _ gc1 ⟨_, Tryd.underlying27⟩ (by kernel_rfl) ?_; simp only [Act.put, List.setIfInBounds_toArray, List.set_cons_succ, List.set_cons_zero]) | (refine wpList_row_w (by rfl) 31 _ rfl bf rfl 31 _ gf1 ⟨_, Tryd.underlying31⟩ (by kernel_rfl) ?_; simp only [Act.put, List.setIfInBounds_toArray, List.set_cons_succ, List.set_cons_zero]) | (go_at_call 13; (with_reducible refine (HV.out _ B1).mono ?_); rintro e x2 ⟨rfl, hb2⟩))
            have hb1' : Below wr.heap.size wr x2 := below_then hb1 hb2
            clear gc1 gf1 gA1 hA1 B1
            have HB61 := below_then HB50 hb1'
            have GF2 := GF.out.then_ hb1'
            have GA2 := GA.out.then_ hb1'
            have HFA2 := HFA.out.then_ hb1'
            refine wp_region_hb (fun w' => Hid (Below x2.heap.size x2 w')) [0, 1, 2, 3, 4, 5, 6, 7, 8, 9, 10, 11, 12, 13] [14, 15, 16, 17] (by kernel_rfl) (by kernel_rfl) (by repeat (first | with_reducible refine panOk_then ?_ | with_reducible refine panOk_block ?_ | exact panOk_body)) (Lib.hid (Below.drew (Below.refl _ _))) (fun hdir hsel hpan hHeld => ?_)
            refine wpHB_take (i := 0) (oi := ⟨some 75, _, _, _, _, _⟩) hdir hsel hpan rfl (by kernel_rfl) (by kernel_rfl) (by kernel_rfl) (Or.inl ⟨by rfl, fun _ _ => by rfl⟩) (by assumption) ?_
            try simp only [Act.put, List.setIfInBounds_toArray, List.set_cons_zero, List.set_cons_succ]
            refine wpHB_take (i := 1) (oi := ⟨some 76, _, _, _, _, _⟩) hdir hsel hpan rfl (by kernel_rfl) (by kernel_rfl) (by kernel_rfl) (Or.inl ⟨by rfl, fun _ _ => by rfl⟩) (by assumption) ?_
            try simp only [Act.put, List.setIfInBounds_toArray, List.set_cons_zero, List.set_cons_succ]
            refine wpHB_take (i := 2) (oi := ⟨some 77, _, _, _, _, _⟩) hdir hsel hpan rfl (by kernel_rfl) (by kernel_rfl) (by kernel_rfl) (yieldsIf_row (by rfl) 31 _ rfl bu4 rfl 31 _ (fun w hw => (GA2.then_ hw.out)) ⟨_, Tryd.underlying31⟩ (by kernel_rfl)) (by assumption) ?_
            try simp only [Act.put, List.setIfInBounds_toArray, List.set_cons_zero, List.set_cons_succ]
            refine wpHB_take (i := 4) (oi := ⟨some 79, _, _, _, _, _⟩) hdir hsel hpan rfl (by kernel_rfl) (by kernel_rfl) (by kernel_rfl) (yieldsIf_row (by rfl) 31 _ rfl bu4 rfl 31 _ (fun w hw => (GA2.then_ hw.out)) ⟨_, Tryd.underlying31⟩ (by kernel_rfl)) (by assumption) ?_
            try simp only [Act.put, List.setIfInBounds_toArray, List.set_cons_zero, List.set_cons_succ]
            refine wpHB_ready (rs := [3]) (by kernel_rfl) (by simp) ?_
            refine AllHB.cons (by kernel_rfl) (o := ⟨some 78, _, _, _, _, _⟩) rfl (fun K hK => ?_) AllHB.nil
            go_simp
            (go_at_call 19; (with_reducible refine (HOA.out _ ma (HFA2.then_ hHeld.out)).mono ?_); rintro e wa ⟨⟨mx, rfl, hFx, _⟩, hba⟩)
            refine hK.out _ _ (Lib.hid (below_then hHeld.out hba)) (fun hHeld2 => ?_)
            clear hK K hHeld
            have hHeld := hHeld2
            clear hHeld2
            try simp only [Act.put, List.setIfInBounds_toArray, List.set_cons_zero, List.set_cons_succ]
            refine wpHB_ready (rs := [5]) (by kernel_rfl) (by simp) ?_
            refine AllHB.cons (by kernel_rfl) (o := ⟨some 80, _, _, _, _, _⟩) rfl (fun K hK => ?_) AllHB.nil
            go_simp
            (go_at_call 17; (with_reducible refine (same_eq hFx (HFA2.then_ hHeld.out) rfl).mono ?_); rintro e wb ⟨rfl, hbb⟩)
            refine hK.out _ _ (Lib.hid (below_then hHeld.out hbb)) (fun hHeld2 => ?_)
            clear hK K hHeld
            have hHeld := hHeld2
            clear hHeld2
            try simp only [Act.put, List.setIfInBounds_toArray, List.set_cons_zero, List.set_cons_succ]
            refine wpHB_take (i := 6) (oi := ⟨some 81, _, _, _, _, _⟩) hdir hsel hpan rfl (by kernel_rfl) (by kernel_rfl) (by kernel_rfl) (Or.inl ⟨by rfl, fun _ _ => by rfl⟩) (by assumption) ?_
            try simp only [Act.put, List.setIfInBounds_toArray, List.set_cons_zero, List.set_cons_succ]
            refine wpHB_take (i := 7) (oi := ⟨some 82, _, _, _, _, _⟩) hdir hsel hpan rfl (by kernel_rfl) (by kernel_rfl) (by kernel_rfl) (Or.inl ⟨by rfl, fun _ _ => by rfl⟩) (by assumption) ?_
            try simp only [Act.put, List.setIfInBounds_toArray, List.set_cons_zero, List.set_cons_succ]
            refine wpHB_take (i := 8) (oi := ⟨some 83, _, _, _, _, _⟩) hdir hsel hpan rfl (by kernel_rfl) (by kernel_rfl) (by kernel_rfl) (yieldsIf_row (by rfl) 31 _ rfl bf rfl 31 _ (fun w hw => (GF2.then_ hw.out)) ⟨_, Tryd.underlying31⟩ (by kernel_rfl)) (by assumption) ?_
            try simp only [Act.put, List.setIfInBounds_toArray, List.set_cons_zero, List.set_cons_succ]
            refine wpHB_take (i := 9) (oi := ⟨some 84, _, _, _, _, _⟩) hdir hsel hpan rfl (by kernel_rfl) (by kernel_rfl) (by kernel_rfl) (Or.inl ⟨by rfl, fun _ _ => by rfl⟩) (by assumption) ?_
            try simp only [Act.put, List.setIfInBounds_toArray, List.set_cons_zero, List.set_cons_succ]
            refine wpHB_take (i := 12) (oi := ⟨some 87, _, _, _, _, _⟩) hdir hsel hpan rfl (by kernel_rfl) (by kernel_rfl) (by kernel_rfl) (yieldsIf_row (by rfl) 31 _ rfl bu4 rfl 31 _ (fun w hw => (GA2.then_ hw.out)) ⟨_, Tryd.underlying31⟩ (by kernel_rfl)) (by assumption) ?_
            try simp only [Act.put, List.setIfInBounds_toArray, List.set_cons_zero, List.set_cons_succ]
            refine wpHB_take (i := 13) (oi := ⟨some 88, _, _, _, _, _⟩) hdir hsel hpan rfl (by kernel_rfl) (by kernel_rfl) (by kernel_rfl) (Or.inl ⟨by rfl, fun _ _ => by rfl⟩) (by assumption) ?_
            try simp only [Act.put, List.setIfInBounds_toArray, List.set_cons_zero, List.set_cons_succ]
            refine wpHB_ready (rs := [10]) (by kernel_rfl) (by simp) ?_
            refine AllHB.cons (by kernel_rfl) (o := ⟨some 85, _, _, _, _, _⟩) rfl (fun K hK => ?_) AllHB.nil
            go_simp
            (go_at_call 18; (with_reducible refine (HAF.out _ (below_then HB61 hHeld.out)).mono ?_); rintro e wc ⟨⟨my, rfl, hFy, _⟩, hbc⟩)
            refine hK.out _ _ (Lib.hid (below_then hHeld.out hbc)) (fun hHeld2 => ?_)
            clear hK K hHeld
            have hHeld := hHeld2
            clear hHeld2
            try simp only [Act.put, List.setIfInBounds_toArray, List.set_cons_zero, List.set_cons_succ]
            refine wpHB_ready (rs := [11]) (by kernel_rfl) (by simp) ?_
            refine AllHB.cons (by kernel_rfl) (o := ⟨some 86, _, _, _, _, _⟩) rfl (fun K hK => ?_) AllHB.nil
            go_simp
            (go_at_call 19; (with_reducible refine (HO1.out _ my hFy).mono ?_); rintro e wd ⟨⟨mv, rfl, hFv, _⟩, hbd⟩)
            refine hK.out _ _ (Lib.hid (below_then hHeld.out hbd)) (fun hHeld2 => ?_)
            clear hK K hHeld
            have hHeld := hHeld2
            clear hHeld2
            try simp only [Act.put, List.setIfInBounds_toArray, List.set_cons_zero, List.set_cons_succ]
            refine wpHB_tail (by kernel_rfl) (by kernel_rfl) ?_
            clear hdir hsel hpan
            simp only [opsAt, List.getElem?_toArray, List.getElem?_cons_succ, List.getElem?_cons_zero, Option.toList_some, List.cons_append, List.nil_append]
            go_wp2_with (first | (go_at_call 18; (with_reducible refine (HAA.out _ ma (HFA2.then_ hHeld.out)).mono ?_); rintro e we ⟨⟨mw, rfl, hFw, _⟩, hbe⟩) | (go_at_call 17; (with_reducible refine (same_eq (hFv.then_ hbe) hFw rfl).mono ?_); rintro e wz ⟨rfl, hbz⟩))
            go_ret
            exact ⟨rfl, below_then (below_then (below_then HB61 hHeld.out) hbe) hbz⟩
end Go.Proofs.YtemkghgcdpmlbaaDoor
