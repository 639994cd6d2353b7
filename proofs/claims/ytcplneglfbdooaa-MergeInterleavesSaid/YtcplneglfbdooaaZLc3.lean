/- The walk of MergeInterleaves. -/
import Derived.Test.YtcplneglfbdooaaZLc3a
namespace Go.Proofs.Ytcplneglfbdooaa
open Go.RowKit

set_option maxRecDepth 100000 in
set_option maxHeartbeats 6400000 in
theorem interleaves_any (c : Con) (m : Cm) (L1 L2 : List Pk) (A1 A2 : Option Addr) (k1 k2 u : Nat) (w : World) (hc : ContW w c m) (hl1 : PatsW w A1 L1 k1) (hl2 : PatsW w A2 L2 k2) (hu : u ≤ 65535) :
    Calls Try.prog 5 #[.agg (coA c m), .slice A1 L1.length k1, .slice A2 L2.length k2, .int .u16 u] w fun e w' => e = .returned (.bool true) ∧ Below w.heap.size w w' := by
  have HH := Lib.hid (fun W => head_any W)
  cases hs1 : smallA c (pats L1) with
  | false =>
    have HS := Lib.hid (fun W (hb : Below w.heap.size w W) => small_at c m L1 A1 k1 false hc hl1 hs1 W hb)
    clear hc hl1 hs1 hl2
    go_enter Try.func5, Try.ntmps5
    go_upto_region 1 with (fail)
    refine name_wp ?_
    intro X0 hX
    have gbc : Blk X0 w.heap.size 27 (coA c m) := by rw [hX]; exact blk_at (by simp)
    have HB0 : Below w.heap.size w X0 := by rw [hX]; (repeat (first | with_reducible assumption | with_reducible exact Below.refl _ _ | with_reducible refine below_drewN ?_ _ | with_reducible refine Below.drew ?_ | with_reducible refine below_alloc ?_ _ | with_reducible refine Below.setCell ?_ (by first | omega | (simp; done) | (simp; omega)) _ | with_reducible refine below_then ?_ (by with_reducible assumption) | (refine below_then (a := World.drew _) ?_ (by with_reducible assumption))))
    clear hX
    obtain ⟨bc, ebc⟩ : ∃ b, w.heap.size = b := ⟨_, rfl⟩
    have lbc : w.heap.size ≤ bc := by omega
    rw [ebc] at gbc ⊢
    clear ebc
    go_upto_region 2 with ((go_at_call 9; (with_reducible refine (HH.out _).mono ?_); rintro e w1 ⟨rfl, hbw1⟩))
    have HH1 := hbw1
    have HB1 := below_then HB0 HH1
    have gbc_1 := gbc.then_ HH1
    clear gbc HB0 HH1
    go_wp2_with (first | (refine wpList_row_w (by rfl) 27 _ rfl bc rfl 27 _ gbc_1 ⟨_, Try.underlying27⟩ (by kernel_rfl) ?_; simp only [Act.put, List.setIfInBounds_toArray, List.set_cons_succ, List.set_cons_zero]) | (go_at_call 10; (with_reducible refine (HS.out _ HB1).mono ?_); rintro e w2 ⟨rfl, hbw2⟩))
    go_ret
    exact ⟨rfl, below_then HB1 hbw2⟩
  | true =>
  have HS := Lib.hid (fun W (hb : Below w.heap.size w W) => small_at c m L1 A1 k1 true hc hl1 hs1 W hb)
  cases hs2 : smallA c (pats L2) with
  | false =>
    have HT := Lib.hid (fun W (hb : Below w.heap.size w W) => small_at c m L2 A2 k2 false hc hl2 hs2 W hb)
    clear hc hl1 hs1 hl2 hs2
    go_enter Try.func5, Try.ntmps5
    go_upto_region 1 with (fail)
    refine name_wp ?_
    intro X0 hX
    have gbc : Blk X0 w.heap.size 27 (coA c m) := by rw [hX]; exact blk_at (by simp)
    have HB0 : Below w.heap.size w X0 := by rw [hX]; (repeat (first | with_reducible assumption | with_reducible exact Below.refl _ _ | with_reducible refine below_drewN ?_ _ | with_reducible refine Below.drew ?_ | with_reducible refine below_alloc ?_ _ | with_reducible refine Below.setCell ?_ (by first | omega | (simp; done) | (simp; omega)) _ | with_reducible refine below_then ?_ (by with_reducible assumption) | (refine below_then (a := World.drew _) ?_ (by with_reducible assumption))))
    clear hX
    obtain ⟨bc, ebc⟩ : ∃ b, w.heap.size = b := ⟨_, rfl⟩
    have lbc : w.heap.size ≤ bc := by omega
    rw [ebc] at gbc ⊢
    clear ebc
    go_upto_region 2 with ((go_at_call 9; (with_reducible refine (HH.out _).mono ?_); rintro e w1 ⟨rfl, hbw1⟩))
    have HH1 := hbw1
    have HB1 := below_then HB0 HH1
    have gbc_1 := gbc.then_ HH1
    clear gbc HB0 HH1
    go_wp2_with (first | (refine wpList_row_w (by rfl) 27 _ rfl bc rfl 27 _ gbc_1 ⟨_, Try.underlying27⟩ (by kernel_rfl) ?_; simp only [Act.put, List.setIfInBounds_toArray, List.set_cons_succ, List.set_cons_zero]) | (go_at_call 10; (with_reducible refine (HS.out _ HB1).mono ?_); rintro e w2 ⟨rfl, hbw2⟩; have gw2 := gbc_1.then_ hbw2) | (refine wpList_row_w (by rfl) 27 _ rfl bc rfl 27 _ gw2 ⟨_, Try.underlying27⟩ (by kernel_rfl) ?_; simp only [Act.put, List.setIfInBounds_toArray, List.set_cons_succ, List.set_cons_zero]) | (go_at_call 10; (with_reducible refine (HT.out _ (below_then HB1 hbw2)).mono ?_); rintro e w3 ⟨rfl, hbw3⟩))
    go_ret
    exact ⟨rfl, below_then (below_then HB1 hbw2) hbw3⟩
  | true =>
  have HT := Lib.hid (fun W (hb : Below w.heap.size w W) => small_at c m L2 A2 k2 true hc hl2 hs2 W hb)
  obtain ⟨hC, hn⟩ := smallA_con hc hs1
  obtain ⟨hP1, h71, hk1⟩ := smallA_pats hl1 hs1
  obtain ⟨hP2, h72, hk2⟩ := smallA_pats hl2 hs2
  have hwr : IntKind.i64.wrap ((L1.length : Int) + (L2.length : Int)) = (L1.length : Int) + (L2.length : Int) := by rw [IntKind.wrap_i64]; omega
  clear hc hl1 hs1 hl2 hs2
  by_cases h60 : 12 < L1.length + L2.length
  · have t1 : decide ((12 : Int) < (L1.length : Int) + (L2.length : Int)) = true := decide_eq_true (by omega)
    clear h60 h71 h72 hk1 hk2 hn hC hP1 hP2
    go_enter Try.func5, Try.ntmps5
    go_upto_region 1 with (fail)
    refine name_wp ?_
    intro X0 hX
    have gbc : Blk X0 w.heap.size 27 (coA c m) := by rw [hX]; exact blk_at (by simp)
    have HB0 : Below w.heap.size w X0 := by rw [hX]; (repeat (first | with_reducible assumption | with_reducible exact Below.refl _ _ | with_reducible refine below_drewN ?_ _ | with_reducible refine Below.drew ?_ | with_reducible refine below_alloc ?_ _ | with_reducible refine Below.setCell ?_ (by first | omega | (simp; done) | (simp; omega)) _ | with_reducible refine below_then ?_ (by with_reducible assumption) | (refine below_then (a := World.drew _) ?_ (by with_reducible assumption))))
    clear hX
    obtain ⟨bc, ebc⟩ : ∃ b, w.heap.size = b := ⟨_, rfl⟩
    have lbc : w.heap.size ≤ bc := by omega
    rw [ebc] at gbc ⊢
    clear ebc
    go_upto_region 2 with ((go_at_call 9; (with_reducible refine (HH.out _).mono ?_); rintro e w1 ⟨rfl, hbw1⟩))
    have HH1 := hbw1
    have HB1 := below_then HB0 HH1
    have gbc_1 := gbc.then_ HH1
    clear gbc HB0 HH1
    go_wp2_with (first | (refine wpList_row_w (by rfl) 27 _ rfl bc rfl 27 _ gbc_1 ⟨_, Try.underlying27⟩ (by kernel_rfl) ?_; simp only [Act.put, List.setIfInBounds_toArray, List.set_cons_succ, List.set_cons_zero]) | (go_at_call 10; (with_reducible refine (HS.out _ HB1).mono ?_); rintro e w2 ⟨rfl, hbw2⟩; have gw2 := gbc_1.then_ hbw2) | (refine wpList_row_w (by rfl) 27 _ rfl bc rfl 27 _ gw2 ⟨_, Try.underlying27⟩ (by kernel_rfl) ?_; simp only [Act.put, List.setIfInBounds_toArray, List.set_cons_succ, List.set_cons_zero]) | (go_at_call 10; (with_reducible refine (HT.out _ (below_then HB1 hbw2)).mono ?_); rintro e w3 ⟨rfl, hbw3⟩))
    go_ret
    exact ⟨rfl, below_then (below_then HB1 hbw2) hbw3⟩
  have t1 : decide ((12 : Int) < (L1.length : Int) + (L2.length : Int)) = false := decide_eq_false (by omega)
  have h12 : (pats L1).length + (pats L2).length ≤ 12 := by rw [List.length_map, List.length_map]; omega
  obtain ⟨a1, ea1⟩ : ∃ a, addsN (pats L1) = a := ⟨_, rfl⟩
  obtain ⟨a2, ea2⟩ : ∃ a, addsN (pats L2) = a := ⟨_, rfl⟩
  have la1 : a1 ≤ 12 := by rw [← ea1]; exact Nat.le_trans (List.length_filter_le _ _) (by omega)
  have la2 : a2 ≤ 12 := by rw [← ea2]; exact Nat.le_trans (List.length_filter_le _ _) (by omega)
  have HD1 := Lib.hid (fun W (hb : Below w.heap.size w W) => adds_at (k := k1) hP1 ea1 W hb)
  have HD2 := Lib.hid (fun W (hb : Below w.heap.size w W) => adds_at (k := k2) hP2 ea2 W hb)
  have hwa : IntKind.i64.wrap ((a1 : Int) + (a2 : Int)) = (a1 : Int) + (a2 : Int) := by rw [IntKind.wrap_i64]; omega
  by_cases h0 : 0 < a1 + a2
  · have t2 : decide ((0 : Int) < (a1 : Int) + (a2 : Int)) = true := decide_eq_true (by omega)
    clear h60 h71 h72 hk1 hk2 hn hC hP1 hP2 ea1 ea2 la1 la2 h12 h0
    go_enter Try.func5, Try.ntmps5
    go_upto_region 1 with (fail)
    refine name_wp ?_
    intro X0 hX
    have gbc : Blk X0 w.heap.size 27 (coA c m) := by rw [hX]; exact blk_at (by simp)
    have HB0 : Below w.heap.size w X0 := by rw [hX]; (repeat (first | with_reducible assumption | with_reducible exact Below.refl _ _ | with_reducible refine below_drewN ?_ _ | with_reducible refine Below.drew ?_ | with_reducible refine below_alloc ?_ _ | with_reducible refine Below.setCell ?_ (by first | omega | (simp; done) | (simp; omega)) _ | with_reducible refine below_then ?_ (by with_reducible assumption) | (refine below_then (a := World.drew _) ?_ (by with_reducible assumption))))
    clear hX
    obtain ⟨bc, ebc⟩ : ∃ b, w.heap.size = b := ⟨_, rfl⟩
    have lbc : w.heap.size ≤ bc := by omega
    rw [ebc] at gbc ⊢
    clear ebc
    go_upto_region 2 with ((go_at_call 9; (with_reducible refine (HH.out _).mono ?_); rintro e w1 ⟨rfl, hbw1⟩))
    have HH1 := hbw1
    have HB1 := below_then HB0 HH1
    have gbc_1 := gbc.then_ HH1
    clear gbc HB0 HH1
    go_wp2_with (first | (refine wpList_row_w (by rfl) 27 _ rfl bc rfl 27 _ gbc_1 ⟨_, Try.underlying27⟩ (by kernel_rfl) ?_; simp only [Act.put, List.setIfInBounds_toArray, List.set_cons_succ, List.set_cons_zero]) | (go_at_call 10; (with_reducible refine (HS.out _ HB1).mono ?_); rintro e w2 ⟨rfl, hbw2⟩; have gw2 := gbc_1.then_ hbw2) | (refine wpList_row_w (by rfl) 27 _ rfl bc rfl 27 _ gw2 ⟨_, Try.underlying27⟩ (by kernel_rfl) ?_; simp only [Act.put, List.setIfInBounds_toArray, List.set_cons_succ, List.set_cons_zero]) | (go_at_call 10; (with_reducible refine (HT.out _ (below_then HB1 hbw2)).mono ?_); rintro e w3 ⟨rfl, hbw3⟩) | (go_at_call 15; (with_reducible refine (HD1.out _ (below_then (below_then HB1 hbw2) hbw3)).mono ?_); rintro e w4 ⟨rfl, hbw4⟩) | (go_at_call 15; (with_reducible refine (HD2.out _ (below_then (below_then (below_then HB1 hbw2) hbw3) hbw4)).mono ?_); rintro e w5 ⟨rfl, hbw5⟩))
    go_ret
    exact ⟨rfl, below_then (below_then (below_then (below_then HB1 hbw2) hbw3) hbw4) hbw5⟩
  have t2 : decide ((0 : Int) < (a1 : Int) + (a2 : Int)) = false := decide_eq_false (by omega)
  have z1 : addsN (pats L1) = 0 := by omega
  have z2 : addsN (pats L2) = 0 := by omega
  clear ea1 ea2 la1 la2 h0
  by_cases hE : (c.mrE (pats L1) (pats L2)).1 = 0
  · obtain ⟨C1, eC⟩ : ∃ C, c.allC (c.mrL (pats L1) (pats L2)) = C := ⟨_, rfl⟩
    have HM := Lib.hid (fun W (hb : Below w.heap.size w W) => mrg_to c m L1 L2 A1 A2 L1.length L2.length k1 k2 W 0 0 0 (c.mrL (pats L1) (pats L2)) (hC.then_ hb) (hP1.then_ hb) (hP2.then_ hb) rfl rfl hk1 (by rw [mr_pair (by omega), hE]; rfl) (by decide) (if_pos rfl))
    have HA1 := Lib.hid (fun W Ax kx (M : List Pk) (hM : pats M = c.mrL (pats L1) (pats L2)) (hP : Pats W Ax M) (hb : Below w.heap.size w W) => all_to c C1 m M Ax kx M.length 0 W (hC.then_ hb) hP rfl (by rw [hM]; exact (interleave_law (s := pats L1 ++ pats L2) h12 z1 z2 hE (shuf_app _ _)).1) (by rw [hM]; exact eC))
    have HA2 := Lib.hid (fun W Ax kx (M : List Pk) (hM : Shuf (pats L1) (pats L2) (pats M)) (hP : Pats W Ax M) (hb : Below w.heap.size w W) => all_to c C1 m M Ax kx M.length 0 W (hC.then_ hb) hP rfl (interleave_law h12 z1 z2 hE hM).2.1 (by rw [(interleave_law h12 z1 z2 hE hM).2.2]; exact eC))
    have HQ := Lib.hid (fun W m1 m2 (h1 : Cont W C1 m1) (h2 : Cont W C1 m2) => scon_to C1 C1 m1 m2 true W h1 h2 (by simp))
    have HP1 := Lib.hid hP1
    have HP2 := Lib.hid hP2
    obtain ⟨ri, hi, hz0, hz1, hz2⟩ := info_parts zero_pat
    clear hE eC hC hP1 hP2 hk1 hk2 hn z1 z2 h12
    go_enter Try.func5, Try.ntmps5
    go_upto_region 1 with (fail)
    refine name_wp ?_
    intro X0 hX
    have gbc : Blk X0 w.heap.size 27 (coA c m) := by rw [hX]; exact blk_at (by simp)
    have HB0 : Below w.heap.size w X0 := by rw [hX]; (repeat (first | with_reducible assumption | with_reducible exact Below.refl _ _ | with_reducible refine below_drewN ?_ _ | with_reducible refine Below.drew ?_ | with_reducible refine below_alloc ?_ _ | with_reducible refine Below.setCell ?_ (by first | omega | (simp; done) | (simp; omega)) _ | with_reducible refine below_then ?_ (by with_reducible assumption) | (refine below_then (a := World.drew _) ?_ (by with_reducible assumption))))
    clear hX
    obtain ⟨bc, ebc⟩ : ∃ b, w.heap.size = b := ⟨_, rfl⟩
    have lbc : w.heap.size ≤ bc := by omega
    rw [ebc] at gbc ⊢
    clear ebc
    go_upto_region 2 with ((go_at_call 9; (with_reducible refine (HH.out _).mono ?_); rintro e w1 ⟨rfl, hbw1⟩))
    have HH1 := hbw1
    have HB1 := below_then HB0 HH1
    have gbc_1 := gbc.then_ HH1
    clear gbc HB0 HH1
    go_upto_region 4 with (first | (refine wpList_row_w (by rfl) 27 _ rfl bc rfl 27 _ gbc_1 ⟨_, Try.underlying27⟩ (by kernel_rfl) ?_; simp only [Act.put, List.setIfInBounds_toArray, List.set_cons_succ, List.set_cons_zero]) | (go_at_call 10; (with_reducible refine (HS.out _ HB1).mono ?_); rintro e w2 ⟨rfl, hbw2⟩; have gw2 := gbc_1.then_ hbw2) | (refine wpList_row_w (by rfl) 27 _ rfl bc rfl 27 _ gw2 ⟨_, Try.underlying27⟩ (by kernel_rfl) ?_; simp only [Act.put, List.setIfInBounds_toArray, List.set_cons_succ, List.set_cons_zero]) | (go_at_call 10; (with_reducible refine (HT.out _ (below_then HB1 hbw2)).mono ?_); rintro e w3 ⟨rfl, hbw3⟩) | (go_at_call 15; (with_reducible refine (HD1.out _ (below_then (below_then HB1 hbw2) hbw3)).mono ?_); rintro e w4 ⟨rfl, hbw4⟩) | (go_at_call 15; (with_reducible refine (HD2.out _ (below_then (below_then (below_then HB1 hbw2) hbw3) hbw4)).mono ?_); rintro e w5 ⟨rfl, hbw5⟩))
    have HH2 := below_then (below_then (below_then hbw2 hbw3) hbw4) hbw5
    have HB2 := below_then HB1 HH2
    have gbc_2 := gbc_1.then_ HH2
    clear gbc_1 HB1 HH2
    try clear gw2
    go_upto_region 5 with (first | (refine wpList_row_w (by rfl) 27 _ rfl bc rfl 27 _ gbc_2 ⟨_, Try.underlying27⟩ (by kernel_rfl) ?_; simp only [Act.put, List.setIfInBounds_toArray, List.set_cons_succ, List.set_cons_zero]) | (go_at_call 13; (with_reducible refine (HM.out _ HB2).mono ?_); rintro e w6 ⟨⟨Ax, kx, Mx, rfl, ex, hx0, lx⟩, hbw6⟩) | (refine wpList_store_all rfl 36 _ _ rfl w6.heap.size 36 [] (pairA 0 0).toList [] (pairA 0 0).toList rfl rfl (Blk.new _ _ _) rfl (by kernel_rfl) (by simp [Value.oneCell']) ?_; intro WS gbWS UWS))
    have hsWS : Below w6.heap.size w6 WS := (wa1 _ _).trans (UWS.b _ (Nat.le_refl _))
    have HH3 := below_then hbw6 hsWS
    have HB3 := below_then HB2 HH3
    have gbc_3 := gbc_2.then_ HH3
    clear gbc_2 HB2 HH3
    have hx := hx0.then_ hsWS
    replace ex := Lib.hid ex
    obtain ⟨bWS, ebWS⟩ : ∃ b, w6.heap.size = b := ⟨_, rfl⟩
    rw [ebWS] at gbWS ⊢
    clear ebWS UWS hsWS hx0
    have HBS := Lib.hid HB3
    have GBS := Lib.hid gbc_3
    have HXS := Lib.hid hx
    clear HB3 gbc_3 hx gbWS
    go_upto_region 10 with (fail)
    go_loopw [3, 13, 14, 15] (fun x v y z WR => ∃ (U i j : Nat) (M : List Pk), U ≤ 65535 ∧ i ≤ L1.length ∧ j ≤ L2.length ∧ x = .int .u16 U ∧ y = .int .i64 i ∧ z = .int .i64 j ∧ M.length = i + j ∧ Hid (Shuf ((pats L1).take i) ((pats L2).take j) (pats M)) ∧ Hid (∀ x ∈ M, x ∈ L1 ∨ x ∈ L2) ∧ Hid (Own WR WS.heap.size 49 19 eP v M) ∧ Hid (Below WS.heap.size WS WR)) (fun _ _ y z _ => (L1.length - (intOf y).toNat) + (L2.length - (intOf z).toNat))
    case atStart => exact ⟨u, 0, 0, [], hu, by omega, by omega, rfl, rfl, rfl, rfl, Shuf.nil, (fun x hx => by cases hx), Own.nil _ _ _ _ _, Below.refl _ _⟩
    case round =>
      obtain ⟨U, i, j, M, hU, hi', hj', rfl, rfl, rfl, hml, hsh, hmem, hO, hB⟩ := hrel
      have lB := hB.out.size
      by_cases hlt : i < L1.length
      · by_cases hle : j = L2.length
        · have ti : decide ((i : Int) < (L1.length : Int)) = true := decide_eq_true (by omega)
          have te : ((j : Int) == (L2.length : Int)) = true := by simp; omega
          clear hle
          obtain ⟨x, hx⟩ : ∃ x, L1[i]? = some x := ⟨_, List.getElem?_eq_getElem (by omega)⟩
          obtain ⟨b0, o0, eA0, hb0, hc0⟩ := segAt (((HP1.out.then_ HBS.out).then_ hB.out).s) hx
          have hrg : wr.rangeAt b0 (o0 + i * 19) (eP x) := fun j v hv => hc0 j v hv
          have hix := fun W => idx_at (t := 28) (size := 19) (cap := k1) (len := L1.length) (k := i) eA0 (by omega) (by kernel_rfl) (fun W => by kernel_rfl) W
          have HX := Lib.hid hx
          have hwi := wrap_small (n := i) (by omega)
          clear hc0 hx eA0
          go_wp2_with (first | (refine wpList_load_mid rfl 49 _ rfl b0 _ rfl (eP x) _ hrg Try.underlying49 rfl (by kernel_rfl) ?_; simp only [Act.put, List.setIfInBounds_toArray, List.set_cons_succ, List.set_cons_zero]) | (at_builtin; go_loud (refine wpList_app _ rfl (.tmp 84) (.tmp 89) _ rfl WS.heap.size 49 ri _ 19 176 Try.underlying28 hi hz0 hz1 hz2 rfl (by omega) (by omega) eP eP_len one_pat _ M rfl (hO.out.alloc _) (by omega) wr.heap.size 1 x rfl (Blk.new _ _ _) (by simp; omega) ?_); intro v4 w4 hO4 hb4 hg4))
          go_roundw
          case rel => exact ⟨U / 2, i + 1, j, M ++ [x], by omega, by omega, by omega, congrArg (Value.int .u16) (by omega), by simp, by simp, by simp [hml]; omega, by unfold Hid; rw [take_snoc (l := pats L1) (i := i) (p := x.p) (by rw [List.getElem?_map, HX.out]; rfl), show pats (M ++ [x]) = pats M ++ [x.p] from by simp]; exact shuf_left _ hsh.out, (fun y hy => (List.mem_append.1 hy).elim (hmem.out y) (fun h => by cases h with | head => exact .inl (List.mem_of_getElem? HX.out) | tail _ h => cases h)), hO4, (hB.out.alloc lB _).trans hb4⟩
          case measure => simp [intOf]; omega
        · by_cases hev : U % 2 = 0
          · have ti : decide ((i : Int) < (L1.length : Int)) = true := decide_eq_true (by omega)
            have te : ((j : Int) == (L2.length : Int)) = false := by simp; omega
            have tu : ((U : Int) % 2 == 0) = true := by simp; omega
            have hjl : j < L2.length := by omega
            clear hev hle
            obtain ⟨x, hx⟩ : ∃ x, L1[i]? = some x := ⟨_, List.getElem?_eq_getElem (by omega)⟩
            obtain ⟨b0, o0, eA0, hb0, hc0⟩ := segAt (((HP1.out.then_ HBS.out).then_ hB.out).s) hx
            have hrg : wr.rangeAt b0 (o0 + i * 19) (eP x) := fun j v hv => hc0 j v hv
            have hix := fun W => idx_at (t := 28) (size := 19) (cap := k1) (len := L1.length) (k := i) eA0 (by omega) (by kernel_rfl) (fun W => by kernel_rfl) W
            have HX := Lib.hid hx
            have hwi := wrap_small (n := i) (by omega)
            clear hc0 hx eA0
            go_wp2_with (first | (refine wpList_load_mid rfl 49 _ rfl b0 _ rfl (eP x) _ hrg Try.underlying49 rfl (by kernel_rfl) ?_; simp only [Act.put, List.setIfInBounds_toArray, List.set_cons_succ, List.set_cons_zero]) | (at_builtin; go_loud (refine wpList_app _ rfl (.tmp 84) (.tmp 89) _ rfl WS.heap.size 49 ri _ 19 176 Try.underlying28 hi hz0 hz1 hz2 rfl (by omega) (by omega) eP eP_len one_pat _ M rfl (hO.out.alloc _) (by omega) wr.heap.size 1 x rfl (Blk.new _ _ _) (by simp; omega) ?_); intro v4 w4 hO4 hb4 hg4))
            go_roundw
            case rel => exact ⟨U / 2, i + 1, j, M ++ [x], by omega, by omega, by omega, congrArg (Value.int .u16) (by omega), by simp, by simp, by simp [hml]; omega, by unfold Hid; rw [take_snoc (l := pats L1) (i := i) (p := x.p) (by rw [List.getElem?_map, HX.out]; rfl), show pats (M ++ [x]) = pats M ++ [x.p] from by simp]; exact shuf_left _ hsh.out, (fun y hy => (List.mem_append.1 hy).elim (hmem.out y) (fun h => by cases h with | head => exact .inl (List.mem_of_getElem? HX.out) | tail _ h => cases h)), hO4, (hB.out.alloc lB _).trans hb4⟩
            case measure => simp [intOf]; omega
          · have ti : decide ((i : Int) < (L1.length : Int)) = true := decide_eq_true (by omega)
            have te : ((j : Int) == (L2.length : Int)) = false := by simp; omega
            have tu : ((U : Int) % 2 == 0) = false := by simp; omega
            have hjl : j < L2.length := by omega
            clear hev hle
            obtain ⟨x, hx⟩ : ∃ x, L2[j]? = some x := ⟨_, List.getElem?_eq_getElem (by omega)⟩
            obtain ⟨b0, o0, eA0, hb0, hc0⟩ := segAt (((HP2.out.then_ HBS.out).then_ hB.out).s) hx
            have hrg : wr.rangeAt b0 (o0 + j * 19) (eP x) := fun j v hv => hc0 j v hv
            have hix := fun W => idx_at (t := 28) (size := 19) (cap := k2) (len := L2.length) (k := j) eA0 (by omega) (by kernel_rfl) (fun W => by kernel_rfl) W
            have HX := Lib.hid hx
            have hwj := wrap_small (n := j) (by omega)
            clear hc0 hx eA0
            go_wp2_with (first | (refine wpList_load_mid rfl 49 _ rfl b0 _ rfl (eP x) _ hrg Try.underlying49 rfl (by kernel_rfl) ?_; simp only [Act.put, List.setIfInBounds_toArray, List.set_cons_succ, List.set_cons_zero]) | (at_builtin; go_loud (refine wpList_app _ rfl (.tmp 93) (.tmp 98) _ rfl WS.heap.size 49 ri _ 19 176 Try.underlying28 hi hz0 hz1 hz2 rfl (by omega) (by omega) eP eP_len one_pat _ M rfl (hO.out.alloc _) (by omega) wr.heap.size 1 x rfl (Blk.new _ _ _) (by simp; omega) ?_); intro v4 w4 hO4 hb4 hg4))
            go_roundw
            case rel => exact ⟨U / 2, i, j + 1, M ++ [x], by omega, by omega, by omega, congrArg (Value.int .u16) (by omega), by simp, by simp, by simp [hml]; omega, by unfold Hid; rw [take_snoc (l := pats L2) (i := j) (p := x.p) (by rw [List.getElem?_map, HX.out]; rfl), show pats (M ++ [x]) = pats M ++ [x.p] from by simp]; exact shuf_right _ hsh.out, (fun y hy => (List.mem_append.1 hy).elim (hmem.out y) (fun h => by cases h with | head => exact .inr (List.mem_of_getElem? HX.out) | tail _ h => cases h)), hO4, (hB.out.alloc lB _).trans hb4⟩
            case measure => simp [intOf]; omega
      · by_cases hle : j < L2.length
        · have ti : decide ((i : Int) < (L1.length : Int)) = false := decide_eq_false (by omega)
          have tj : decide ((j : Int) < (L2.length : Int)) = true := decide_eq_true (by omega)
          have te : ((j : Int) == (L2.length : Int)) = false := by simp; omega
          obtain ⟨x, hx⟩ : ∃ x, L2[j]? = some x := ⟨_, List.getElem?_eq_getElem (by omega)⟩
          obtain ⟨b0, o0, eA0, hb0, hc0⟩ := segAt (((HP2.out.then_ HBS.out).then_ hB.out).s) hx
          have hrg : wr.rangeAt b0 (o0 + j * 19) (eP x) := fun j v hv => hc0 j v hv
          have hix := fun W => idx_at (t := 28) (size := 19) (cap := k2) (len := L2.length) (k := j) eA0 (by omega) (by kernel_rfl) (fun W => by kernel_rfl) W
          have HX := Lib.hid hx
          have hwj := wrap_small (n := j) (by omega)
          clear hc0 hx eA0
          go_wp2_with (first | (refine wpList_load_mid rfl 49 _ rfl b0 _ rfl (eP x) _ hrg Try.underlying49 rfl (by kernel_rfl) ?_; simp only [Act.put, List.setIfInBounds_toArray, List.set_cons_succ, List.set_cons_zero]) | (at_builtin; go_loud (refine wpList_app _ rfl (.tmp 93) (.tmp 98) _ rfl WS.heap.size 49 ri _ 19 176 Try.underlying28 hi hz0 hz1 hz2 rfl (by omega) (by omega) eP eP_len one_pat _ M rfl (hO.out.alloc _) (by omega) wr.heap.size 1 x rfl (Blk.new _ _ _) (by simp; omega) ?_); intro v4 w4 hO4 hb4 hg4))
          go_roundw
          case rel => exact ⟨U / 2, i, j + 1, M ++ [x], by omega, by omega, by omega, congrArg (Value.int .u16) (by omega), by simp, by simp, by simp [hml]; omega, by unfold Hid; rw [take_snoc (l := pats L2) (i := j) (p := x.p) (by rw [List.getElem?_map, HX.out]; rfl), show pats (M ++ [x]) = pats M ++ [x.p] from by simp]; exact shuf_right _ hsh.out, (fun y hy => (List.mem_append.1 hy).elim (hmem.out y) (fun h => by cases h with | head => exact .inr (List.mem_of_getElem? HX.out) | tail _ h => cases h)), hO4, (hB.out.alloc lB _).trans hb4⟩
          case measure => simp [intOf]; omega
        · obtain rfl : i = L1.length := by omega
          obtain rfl : j = L2.length := by omega
          have ti : decide ((L1.length : Int) < (L1.length : Int)) = false := decide_eq_false (by omega)
          have tj : decide ((L2.length : Int) < (L2.length : Int)) = false := decide_eq_false (by omega)
          obtain ⟨A3, k3, rfl, hk3, hs3⟩ := hO.out.seg eP_len
          have hshf : Hid (Shuf (pats L1) (pats L2) (pats M)) := by have := hsh.out; rw [List.take_of_length_le (by simp), List.take_of_length_le (by simp)] at this; exact this
          have hPM := Lib.hid (pats_of HP1.out HP2.out (below_then HBS.out hB.out) hmem.out (by omega) hs3)
          have HBR := Lib.hid (below_then HBS.out hB.out)
          have gR := GBS.out.then_ hB.out
          have HXR := Lib.hid (HXS.out.then_ hB.out)
          clear hO hs3 hsh hmem hml hB HBS GBS HXS
          have HB20 := HBR.out
          have hxr := HXR.out
          have hpm := hPM.out
          clear HBR HXR hPM
          go_upto_region 18 with (first | (refine wpList_row_w (by rfl) 27 _ rfl bc rfl 27 _ gR ⟨_, Try.underlying27⟩ (by kernel_rfl) ?_; simp only [Act.put, List.setIfInBounds_toArray, List.set_cons_succ, List.set_cons_zero]) | (go_at_call 11; (with_reducible refine (HA1.out _ _ _ Mx ex.out hxr HB20).mono ?_); rintro e x1 ⟨⟨ma, rfl, hcx1⟩, hbx1⟩) | (refine wpList_store_all rfl 27 _ _ rfl x1.heap.size 27 [] coZ.toList [] (coA C1 ma).toList rfl rfl (Blk.new _ _ _) rfl (by kernel_rfl) (by simp [Value.oneCell']) ?_; intro x2 gbx2 Ux2))
          have hsx2 : Below x1.heap.size x1 x2 := (wa1 _ _).trans (Ux2.b _ (Nat.le_refl _))
          have HH21 := below_then hbx1 hsx2
          have HB21 := below_then HB20 HH21
          have gbc_21 := gR.then_ HH21
          have hxr_21 := hxr.then_ HH21
          have hpm_21 := hpm.then_ HH21
          clear gR hxr hpm HB20 HH21
          have hca := hcx1.then_ hsx2
          obtain ⟨bx2, ebx2⟩ : ∃ b, x1.heap.size = b := ⟨_, rfl⟩
          rw [ebx2] at gbx2 ⊢
          clear ebx2 Ux2 hsx2 hcx1
          go_upto_region 19 with (first | (refine wpList_row_w (by rfl) 27 _ rfl bc rfl 27 _ gbc_21 ⟨_, Try.underlying27⟩ (by kernel_rfl) ?_; simp only [Act.put, List.setIfInBounds_toArray, List.set_cons_succ, List.set_cons_zero]) | (go_at_call 11; (with_reducible refine (HA2.out _ _ _ M hshf.out hpm_21 HB21).mono ?_); rintro e x3 ⟨⟨mb, rfl, hcx3⟩, hbx3⟩) | (refine wpList_store_all rfl 27 _ _ rfl x3.heap.size 27 [] coZ.toList [] (coA C1 mb).toList rfl rfl (Blk.new _ _ _) rfl (by kernel_rfl) (by simp [Value.oneCell']) ?_; intro x4 gbx4 Ux4))
          have hsx4 : Below x3.heap.size x3 x4 := (wa1 _ _).trans (Ux4.b _ (Nat.le_refl _))
          have HH22 := below_then hbx3 hsx4
          have HB22 := below_then HB21 HH22
          have gbc_22 := gbc_21.then_ HH22
          have hxr_22 := hxr_21.then_ HH22
          have hpm_22 := hpm_21.then_ HH22
          have gbx2_22 := gbx2.then_ HH22
          have hca_22 := hca.then_ HH22
          clear gbc_21 hxr_21 hpm_21 gbx2 hca HB21 HH22
          have hcb := hcx3.then_ hsx4
          obtain ⟨bx4, ebx4⟩ : ∃ b, x3.heap.size = b := ⟨_, rfl⟩
          rw [ebx4] at gbx4 ⊢
          clear ebx4 Ux4 hsx4 hcx3
          go_wp2_with (first | (refine wpList_row_w (by rfl) 27 _ rfl bx2 rfl 27 _ gbx2_22 ⟨_, Try.underlying27⟩ (by kernel_rfl) ?_; simp only [Act.put, List.setIfInBounds_toArray, List.set_cons_succ, List.set_cons_zero]) | (refine wpList_row_w (by rfl) 27 _ rfl bx4 rfl 27 _ gbx4 ⟨_, Try.underlying27⟩ (by kernel_rfl) ?_; simp only [Act.put, List.setIfInBounds_toArray, List.set_cons_succ, List.set_cons_zero]) | (go_at_call 12; (with_reducible refine (HQ.out _ ma mb hca_22 hcb).mono ?_); rintro e x5 ⟨rfl, hbx5⟩))
          go_ret
          exact ⟨rfl, below_then HB22 hbx5⟩
  · by_cases h16 : (c.mrE (pats L1) (pats L2)).1 = 16
    · obtain ⟨i, j, e16⟩ : ∃ i j : Nat, c.mrE (pats L1) (pats L2) = (16, i, j) := ⟨_, _, by rw [← h16]⟩
      have HM := Lib.hid (fun W (hb : Below w.heap.size w W) => mrg_to c m L1 L2 A1 A2 L1.length L2.length k1 k2 W 16 i j [] (hC.then_ hb) (hP1.then_ hb) (hP2.then_ hb) rfl rfl hk1 (by rw [e16]; rfl) (by omega) (if_neg (by decide)))
      clear hE h16 e16 hC hP1 hP2 hk1 hk2 hn z1 z2 h12
      go_enter Try.func5, Try.ntmps5
      go_upto_region 1 with (fail)
      refine name_wp ?_
      intro X0 hX
      have gbc : Blk X0 w.heap.size 27 (coA c m) := by rw [hX]; exact blk_at (by simp)
      have HB0 : Below w.heap.size w X0 := by rw [hX]; (repeat (first | with_reducible assumption | with_reducible exact Below.refl _ _ | with_reducible refine below_drewN ?_ _ | with_reducible refine Below.drew ?_ | with_reducible refine below_alloc ?_ _ | with_reducible refine Below.setCell ?_ (by first | omega | (simp; done) | (simp; omega)) _ | with_reducible refine below_then ?_ (by with_reducible assumption) | (refine below_then (a := World.drew _) ?_ (by with_reducible assumption))))
      clear hX
      obtain ⟨bc, ebc⟩ : ∃ b, w.heap.size = b := ⟨_, rfl⟩
      have lbc : w.heap.size ≤ bc := by omega
      rw [ebc] at gbc ⊢
      clear ebc
      go_upto_region 2 with ((go_at_call 9; (with_reducible refine (HH.out _).mono ?_); rintro e w1 ⟨rfl, hbw1⟩))
      have HH1 := hbw1
      have HB1 := below_then HB0 HH1
      have gbc_1 := gbc.then_ HH1
      clear gbc HB0 HH1
      go_upto_region 4 with (first | (refine wpList_row_w (by rfl) 27 _ rfl bc rfl 27 _ gbc_1 ⟨_, Try.underlying27⟩ (by kernel_rfl) ?_; simp only [Act.put, List.setIfInBounds_toArray, List.set_cons_succ, List.set_cons_zero]) | (go_at_call 10; (with_reducible refine (HS.out _ HB1).mono ?_); rintro e w2 ⟨rfl, hbw2⟩; have gw2 := gbc_1.then_ hbw2) | (refine wpList_row_w (by rfl) 27 _ rfl bc rfl 27 _ gw2 ⟨_, Try.underlying27⟩ (by kernel_rfl) ?_; simp only [Act.put, List.setIfInBounds_toArray, List.set_cons_succ, List.set_cons_zero]) | (go_at_call 10; (with_reducible refine (HT.out _ (below_then HB1 hbw2)).mono ?_); rintro e w3 ⟨rfl, hbw3⟩) | (go_at_call 15; (with_reducible refine (HD1.out _ (below_then (below_then HB1 hbw2) hbw3)).mono ?_); rintro e w4 ⟨rfl, hbw4⟩) | (go_at_call 15; (with_reducible refine (HD2.out _ (below_then (below_then (below_then HB1 hbw2) hbw3) hbw4)).mono ?_); rintro e w5 ⟨rfl, hbw5⟩))
      have HH2 := below_then (below_then (below_then hbw2 hbw3) hbw4) hbw5
      have HB2 := below_then HB1 HH2
      have gbc_2 := gbc_1.then_ HH2
      clear gbc_1 HB1 HH2
      try clear gw2
      go_wp2_with (first | (refine wpList_row_w (by rfl) 27 _ rfl bc rfl 27 _ gbc_2 ⟨_, Try.underlying27⟩ (by kernel_rfl) ?_; simp only [Act.put, List.setIfInBounds_toArray, List.set_cons_succ, List.set_cons_zero]) | (go_at_call 13; (with_reducible refine (HM.out _ HB2).mono ?_); rintro e w6 ⟨⟨Ax, kx, Mx, rfl, ex, hx, lx⟩, hbw6⟩) | (refine wpList_store_all rfl 36 _ _ rfl w6.heap.size 36 [] (pairA 0 0).toList [] (pairA i j).toList rfl rfl (Blk.new _ _ _) rfl (by kernel_rfl) (by simp [Value.oneCell']) ?_; intro w7 g7 U7))
      go_ret
      exact ⟨rfl, below_then HB2 (below_then hbw6 ((wa1 _ _).trans (U7.b _ (Nat.le_refl _))))⟩
    · obtain ⟨E, eE⟩ : ∃ E, (c.mrE (pats L1) (pats L2)).1 = E := ⟨_, rfl⟩
      have hp := mr_pair h16
      rw [eE] at hE hp
      have HM := Lib.hid (fun W (hb : Below w.heap.size w W) => mrg_to c m L1 L2 A1 A2 L1.length L2.length k1 k2 W E 0 0 [] (hC.then_ hb) (hP1.then_ hb) (hP2.then_ hb) rfl rfl hk1 (by rw [hp]; rfl) (by decide) (if_neg hE))
      have tE : (E != 0) = true := by rw [bne_iff_ne]; exact hE
      clear hE h16 eE hp hC hP1 hP2 hk1 hk2 hn z1 z2 h12
      go_enter Try.func5, Try.ntmps5
      go_upto_region 1 with (fail)
      refine name_wp ?_
      intro X0 hX
      have gbc : Blk X0 w.heap.size 27 (coA c m) := by rw [hX]; exact blk_at (by simp)
      have HB0 : Below w.heap.size w X0 := by rw [hX]; (repeat (first | with_reducible assumption | with_reducible exact Below.refl _ _ | with_reducible refine below_drewN ?_ _ | with_reducible refine Below.drew ?_ | with_reducible refine below_alloc ?_ _ | with_reducible refine Below.setCell ?_ (by first | omega | (simp; done) | (simp; omega)) _ | with_reducible refine below_then ?_ (by with_reducible assumption) | (refine below_then (a := World.drew _) ?_ (by with_reducible assumption))))
      clear hX
      obtain ⟨bc, ebc⟩ : ∃ b, w.heap.size = b := ⟨_, rfl⟩
      have lbc : w.heap.size ≤ bc := by omega
      rw [ebc] at gbc ⊢
      clear ebc
      go_upto_region 2 with ((go_at_call 9; (with_reducible refine (HH.out _).mono ?_); rintro e w1 ⟨rfl, hbw1⟩))
      have HH1 := hbw1
      have HB1 := below_then HB0 HH1
      have gbc_1 := gbc.then_ HH1
      clear gbc HB0 HH1
      go_upto_region 4 with (first | (refine wpList_row_w (by rfl) 27 _ rfl bc rfl 27 _ gbc_1 ⟨_, Try.underlying27⟩ (by kernel_rfl) ?_; simp only [Act.put, List.setIfInBounds_toArray, List.set_cons_succ, List.set_cons_zero]) | (go_at_call 10; (with_reducible refine (HS.out _ HB1).mono ?_); rintro e w2 ⟨rfl, hbw2⟩; have gw2 := gbc_1.then_ hbw2) | (refine wpList_row_w (by rfl) 27 _ rfl bc rfl 27 _ gw2 ⟨_, Try.underlying27⟩ (by kernel_rfl) ?_; simp only [Act.put, List.setIfInBounds_toArray, List.set_cons_succ, List.set_cons_zero]) | (go_at_call 10; (with_reducible refine (HT.out _ (below_then HB1 hbw2)).mono ?_); rintro e w3 ⟨rfl, hbw3⟩) | (go_at_call 15; (with_reducible refine (HD1.out _ (below_then (below_then HB1 hbw2) hbw3)).mono ?_); rintro e w4 ⟨rfl, hbw4⟩) | (go_at_call 15; (with_reducible refine (HD2.out _ (below_then (below_then (below_then HB1 hbw2) hbw3) hbw4)).mono ?_); rintro e w5 ⟨rfl, hbw5⟩))
      have HH2 := below_then (below_then (below_then hbw2 hbw3) hbw4) hbw5
      have HB2 := below_then HB1 HH2
      have gbc_2 := gbc_1.then_ HH2
      clear gbc_1 HB1 HH2
      try clear gw2
      go_wp2_with (first | (refine wpList_row_w (by rfl) 27 _ rfl bc rfl 27 _ gbc_2 ⟨_, Try.underlying27⟩ (by kernel_rfl) ?_; simp only [Act.put, List.setIfInBounds_toArray, List.set_cons_succ, List.set_cons_zero]) | (go_at_call 13; (with_reducible refine (HM.out _ HB2).mono ?_); rintro e w6 ⟨⟨Ax, kx, Mx, rfl, ex, hx, lx⟩, hbw6⟩) | (refine wpList_store_all rfl 36 _ _ rfl w6.heap.size 36 [] (pairA 0 0).toList [] (pairA 0 0).toList rfl rfl (Blk.new _ _ _) rfl (by kernel_rfl) (by simp [Value.oneCell']) ?_; intro w7 g7 U7))
      go_ret
      exact ⟨rfl, below_then HB2 (below_then hbw6 ((wa1 _ _).trans (U7.b _ (Nat.le_refl _))))⟩
end Go.Proofs.Ytcplneglfbdooaa
