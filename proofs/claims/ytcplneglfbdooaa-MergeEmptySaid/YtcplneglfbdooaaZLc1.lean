/- The walk of MergeEmpty. -/
import Derived.Test.YtcplneglfbdooaaMb30
namespace Go.Proofs.Ytcplneglfbdooaa
open Go.RowKit

set_option maxRecDepth 100000 in
set_option maxHeartbeats 6400000 in
theorem empty_any (c : Con) (m : Cm) (L : List Pk) (A : Option Addr) (k : Nat) (w : World) (hc : ContW w c m) (hl : PatsW w A L k) :
    Calls Try.prog 7 #[.agg (coA c m), .slice A L.length k] w fun e w' => e = .returned (.bool true) ∧ Below w.heap.size w w' := by
  have HH := Lib.hid (fun W => head_any W)
  cases hs : smallA c (pats L) with
  | false =>
    have HS := Lib.hid (fun W (hb : Below w.heap.size w W) => small_at c m L A k false hc hl hs W hb)
    clear hc hl hs
    go_enter Try.func7, Try.ntmps7
    go_upto_region 1 with (fail)
    refine name_wp ?_
    intro X0 hX
    have gbc : Blk X0 w.heap.size 27 (coA c m) := by rw [hX]; exact blk_at (by simp)
    have HB0 : Below w.heap.size w X0 := by rw [hX]; (repeat (first | with_reducible assumption | with_reducible exact Below.refl _ _ | with_reducible refine below_drewN ?_ _ | with_reducible refine Below.drew ?_ | with_reducible refine below_alloc ?_ _ | with_reducible refine Below.setCell ?_ (by first | omega | (simp; done) | (simp; omega)) _ | with_reducible refine below_then ?_ (by with_reducible assumption) | (refine below_then (a := World.drew _) ?_ (by with_reducible assumption))))
    clear hX
    obtain ⟨bc, ebc⟩ : ∃ b, w.heap.size = b := ⟨_, rfl⟩
    have lbc : w.heap.size ≤ bc := by omega
    rw [ebc] at gbc ⊢
    clear ebc
    go_upto_region 2 with ((go_at_call 9; (with_reducible refine (HH.out _).mono ?_); rintro e w1 ⟨rfl, hbw1⟩))
    have HH1 := hbw1
    have HB1 := below_then HB0 HH1
    have gbc_1 := gbc.then_ HH1
    clear gbc HB0 HH1
    go_wp2_with (first | (refine wpList_row_w (by rfl) 27 _ rfl bc rfl 27 _ gbc_1 ⟨_, Try.underlying27⟩ (by kernel_rfl) ?_; simp only [Act.put, List.setIfInBounds_toArray, List.set_cons_succ, List.set_cons_zero]) | (go_at_call 10; (with_reducible refine (HS.out _ HB1).mono ?_); rintro e w2 ⟨rfl, hbw2⟩))
    go_ret
    exact ⟨rfl, below_then HB1 hbw2⟩
  | true =>
  obtain ⟨hC, hn⟩ := smallA_con hc hs
  obtain ⟨hP, h70, hk⟩ := smallA_pats hl hs
  have HS := Lib.hid (fun W (hb : Below w.heap.size w W) => small_at c m L A k true hc hl hs W hb)
  clear hc hl hs
  by_cases h60 : 60 < L.length
  · have t1 : decide ((60 : Int) < (L.length : Int)) = true := decide_eq_true (by omega)
    clear h60 h70 hk hn hC hP
    go_enter Try.func7, Try.ntmps7
    go_upto_region 1 with (fail)
    refine name_wp ?_
    intro X0 hX
    have gbc : Blk X0 w.heap.size 27 (coA c m) := by rw [hX]; exact blk_at (by simp)
    have HB0 : Below w.heap.size w X0 := by rw [hX]; (repeat (first | with_reducible assumption | with_reducible exact Below.refl _ _ | with_reducible refine below_drewN ?_ _ | with_reducible refine Below.drew ?_ | with_reducible refine below_alloc ?_ _ | with_reducible refine Below.setCell ?_ (by first | omega | (simp; done) | (simp; omega)) _ | with_reducible refine below_then ?_ (by with_reducible assumption) | (refine below_then (a := World.drew _) ?_ (by with_reducible assumption))))
    clear hX
    obtain ⟨bc, ebc⟩ : ∃ b, w.heap.size = b := ⟨_, rfl⟩
    have lbc : w.heap.size ≤ bc := by omega
    rw [ebc] at gbc ⊢
    clear ebc
    go_upto_region 2 with ((go_at_call 9; (with_reducible refine (HH.out _).mono ?_); rintro e w1 ⟨rfl, hbw1⟩))
    have HH1 := hbw1
    have HB1 := below_then HB0 HH1
    have gbc_1 := gbc.then_ HH1
    clear gbc HB0 HH1
    go_wp2_with (first | (refine wpList_row_w (by rfl) 27 _ rfl bc rfl 27 _ gbc_1 ⟨_, Try.underlying27⟩ (by kernel_rfl) ?_; simp only [Act.put, List.setIfInBounds_toArray, List.set_cons_succ, List.set_cons_zero]) | (go_at_call 10; (with_reducible refine (HS.out _ HB1).mono ?_); rintro e w2 ⟨rfl, hbw2⟩))
    go_ret
    exact ⟨rfl, below_then HB1 hbw2⟩
  have t1 : decide ((60 : Int) < (L.length : Int)) = false := decide_eq_false (by omega)
  have hE := empty_law (c := c) (l := pats L) (by rw [List.length_map]; omega) hn
  obtain ⟨E, eE⟩ : ∃ E, c.allE (pats L) = E := ⟨_, rfl⟩
  obtain ⟨C1, eC⟩ : ∃ C, c.allC (pats L) = C := ⟨_, rfl⟩
  have HA := Lib.hid (fun W (hb : Below w.heap.size w W) => all_to c C1 m L A k L.length E W (hC.then_ hb) (hP.then_ hb) rfl eE eC)
  have HM1 := Lib.hid (fun W (hb : Below w.heap.size w W) => mrg_to c m L [] A none L.length 0 k 0 W E 0 0 (if E = 0 then pats L else []) (hC.then_ hb) (hP.then_ hb) (pats_nil W) rfl rfl hk (by rw [← eE]; exact hE.1) (by decide) (by rw [show pats [] = [] from rfl, hE.2.2.1]))
  have HM2 := Lib.hid (fun W (hb : Below w.heap.size w W) => mrg_to c m [] L none A 0 L.length 0 k W E 0 0 (if E = 0 then pats L else []) (hC.then_ hb) (pats_nil W) (hP.then_ hb) rfl rfl (Nat.le_refl _) (by rw [← eE]; exact hE.2.1) (by decide) (by rw [show pats [] = [] from rfl, hE.2.2.2]))
  have HQ := Lib.hid (fun W A1 c1 (M : List Pk) (hM : pats M = pats L) (h1 : Pats W A1 M) (hb : Below w.heap.size w W) => same_to M L A1 A c1 k M.length L.length true W h1 (hP.then_ hb) rfl rfl (decide_eq_true hM))
  have he2 := fun W => eqP2 0 0 0 0 W
  have hz2 : ∀ W : World, (zeroValue 36).run Try.prog W = .ok (.agg #[.int .i64 0, .int .i64 0]) W := fun W => by kernel_rfl
  simp only [and_self, decide_true] at he2
  clear h60 h70 hk hn hC hP hE eE eC
  by_cases hz : E = 0
  · subst hz
    simp only [↓reduceIte] at HM1 HM2
    go_enter Try.func7, Try.ntmps7
    go_upto_region 1 with (fail)
    refine name_wp ?_
    intro X0 hX
    have gbc : Blk X0 w.heap.size 27 (coA c m) := by rw [hX]; exact blk_at (by simp)
    have HB0 : Below w.heap.size w X0 := by rw [hX]; (repeat (first | with_reducible assumption | with_reducible exact Below.refl _ _ | with_reducible refine below_drewN ?_ _ | with_reducible refine Below.drew ?_ | with_reducible refine below_alloc ?_ _ | with_reducible refine Below.setCell ?_ (by first | omega | (simp; done) | (simp; omega)) _ | with_reducible refine below_then ?_ (by with_reducible assumption) | (refine below_then (a := World.drew _) ?_ (by with_reducible assumption))))
    clear hX
    obtain ⟨bc, ebc⟩ : ∃ b, w.heap.size = b := ⟨_, rfl⟩
    have lbc : w.heap.size ≤ bc := by omega
    rw [ebc] at gbc ⊢
    clear ebc
    go_upto_region 2 with ((go_at_call 9; (with_reducible refine (HH.out _).mono ?_); rintro e w1 ⟨rfl, hbw1⟩))
    have HH1 := hbw1
    have HB1 := below_then HB0 HH1
    have gbc_1 := gbc.then_ HH1
    clear gbc HB0 HH1
    go_upto_region 4 with (first | (refine wpList_row_w (by rfl) 27 _ rfl bc rfl 27 _ gbc_1 ⟨_, Try.underlying27⟩ (by kernel_rfl) ?_; simp only [Act.put, List.setIfInBounds_toArray, List.set_cons_succ, List.set_cons_zero]) | (go_at_call 10; (with_reducible refine (HS.out _ HB1).mono ?_); rintro e w2 ⟨rfl, hbw2⟩))
    have HH2 := hbw2
    have HB2 := below_then HB1 HH2
    have gbc_2 := gbc_1.then_ HH2
    clear gbc_1 HB1 HH2
    go_upto_region 5 with (first | (refine wpList_row_w (by rfl) 27 _ rfl bc rfl 27 _ gbc_2 ⟨_, Try.underlying27⟩ (by kernel_rfl) ?_; simp only [Act.put, List.setIfInBounds_toArray, List.set_cons_succ, List.set_cons_zero]) | (go_at_call 11; (with_reducible refine (HA.out _ HB2).mono ?_); rintro e w3 ⟨⟨ma, rfl, hcw3⟩, hbw3⟩) | (refine wpList_store_all rfl 27 _ _ rfl w3.heap.size 27 [] coZ.toList [] (coA C1 ma).toList rfl rfl (Blk.new _ _ _) rfl (by kernel_rfl) (by simp [Value.oneCell']) ?_; intro w4 gbw4 Uw4))
    have hsw4 : Below w3.heap.size w3 w4 := (wa1 _ _).trans (Uw4.b _ (Nat.le_refl _))
    have HH3 := below_then hbw3 hsw4
    have HB3 := below_then HB2 HH3
    have gbc_3 := gbc_2.then_ HH3
    clear gbc_2 HB2 HH3
    have hca := hcw3.then_ hsw4
    obtain ⟨bw4, ebw4⟩ : ∃ b, w3.heap.size = b := ⟨_, rfl⟩
    rw [ebw4] at gbw4 ⊢
    clear ebw4 Uw4 hsw4 hcw3
    go_upto_region 6 with (first | (refine wpList_row_w (by rfl) 27 _ rfl bc rfl 27 _ gbc_3 ⟨_, Try.underlying27⟩ (by kernel_rfl) ?_; simp only [Act.put, List.setIfInBounds_toArray, List.set_cons_succ, List.set_cons_zero]) | (go_at_call 13; (with_reducible refine (HM1.out _ HB3).mono ?_); rintro e w5 ⟨⟨Ax, kx, Mx, rfl, ex, hx0, lx⟩, hbw5⟩) | (refine wpList_store_all rfl 36 _ _ rfl w5.heap.size 36 [] (pairA 0 0).toList [] (pairA 0 0).toList rfl rfl (Blk.new _ _ _) rfl (by kernel_rfl) (by simp [Value.oneCell']) ?_; intro w6 gbw6 Uw6))
    have hsw6 : Below w5.heap.size w5 w6 := (wa1 _ _).trans (Uw6.b _ (Nat.le_refl _))
    have HH4 := below_then hbw5 hsw6
    have HB4 := below_then HB3 HH4
    have gbc_4 := gbc_3.then_ HH4
    have gbw4_4 := gbw4.then_ HH4
    have hca_4 := hca.then_ HH4
    clear gbc_3 gbw4 hca HB3 HH4
    have hx := hx0.then_ hsw6
    replace ex := Lib.hid ex
    obtain ⟨bw6, ebw6⟩ : ∃ b, w5.heap.size = b := ⟨_, rfl⟩
    rw [ebw6] at gbw6 ⊢
    clear ebw6 Uw6 hsw6 hx0
    go_upto_region 7 with (first | (refine wpList_row_w (by rfl) 27 _ rfl bc rfl 27 _ gbc_4 ⟨_, Try.underlying27⟩ (by kernel_rfl) ?_; simp only [Act.put, List.setIfInBounds_toArray, List.set_cons_succ, List.set_cons_zero]) | (go_at_call 13; (with_reducible refine (HM2.out _ HB4).mono ?_); rintro e w7 ⟨⟨Ay, ky, My, rfl, ey, hy0, ly⟩, hbw7⟩) | (refine wpList_store_all rfl 36 _ _ rfl w7.heap.size 36 [] (pairA 0 0).toList [] (pairA 0 0).toList rfl rfl (Blk.new _ _ _) rfl (by kernel_rfl) (by simp [Value.oneCell']) ?_; intro w8 gbw8 Uw8))
    have hsw8 : Below w7.heap.size w7 w8 := (wa1 _ _).trans (Uw8.b _ (Nat.le_refl _))
    have HH5 := below_then hbw7 hsw8
    have HB5 := below_then HB4 HH5
    have gbc_5 := gbc_4.then_ HH5
    have gbw4_5 := gbw4_4.then_ HH5
    have hca_5 := hca_4.then_ HH5
    have gbw6_5 := gbw6.then_ HH5
    have hx_5 := hx.then_ HH5
    clear gbc_4 gbw4_4 hca_4 gbw6 hx HB4 HH5
    have hy := hy0.then_ hsw8
    replace ey := Lib.hid ey
    obtain ⟨bw8, ebw8⟩ : ∃ b, w7.heap.size = b := ⟨_, rfl⟩
    rw [ebw8] at gbw8 ⊢
    clear ebw8 Uw8 hsw8 hy0
    go_wp2_with (first | (refine wpList_arr (by rfl) 36 _ rfl bw6 rfl 36 (pairA 0 0) gbw6_5 Try.underlying36 (by kernel_rfl) ?_; simp only [Act.put, List.setIfInBounds_toArray, List.set_cons_succ, List.set_cons_zero]) | (refine wpList_arr (by rfl) 36 _ rfl bw8 rfl 36 (pairA 0 0) gbw8 Try.underlying36 (by kernel_rfl) ?_; simp only [Act.put, List.setIfInBounds_toArray, List.set_cons_succ, List.set_cons_zero]) | (go_at_call 14; (with_reducible refine (HQ.out _ _ _ Mx ex.out hx_5 HB5).mono ?_); rintro e w9 ⟨rfl, hbw9⟩) | (go_at_call 14; (with_reducible refine (HQ.out _ _ _ My ey.out (hy.then_ hbw9) (below_then HB5 hbw9)).mono ?_); rintro e wa ⟨rfl, hbwa⟩))
    go_ret
    exact ⟨rfl, below_then (below_then HB5 hbw9) hbwa⟩
  · have t2 : (E != 0) = true := by rw [bne_iff_ne]; exact hz
    have t3 : (E == E) = true := beq_self_eq_true E
    have t4 : (E != E) = false := by simp
    simp only [if_neg hz] at HM1 HM2
    clear hz
    go_enter Try.func7, Try.ntmps7
    go_upto_region 1 with (fail)
    refine name_wp ?_
    intro X0 hX
    have gbc : Blk X0 w.heap.size 27 (coA c m) := by rw [hX]; exact blk_at (by simp)
    have HB0 : Below w.heap.size w X0 := by rw [hX]; (repeat (first | with_reducible assumption | with_reducible exact Below.refl _ _ | with_reducible refine below_drewN ?_ _ | with_reducible refine Below.drew ?_ | with_reducible refine below_alloc ?_ _ | with_reducible refine Below.setCell ?_ (by first | omega | (simp; done) | (simp; omega)) _ | with_reducible refine below_then ?_ (by with_reducible assumption) | (refine below_then (a := World.drew _) ?_ (by with_reducible assumption))))
    clear hX
    obtain ⟨bc, ebc⟩ : ∃ b, w.heap.size = b := ⟨_, rfl⟩
    have lbc : w.heap.size ≤ bc := by omega
    rw [ebc] at gbc ⊢
    clear ebc
    go_upto_region 2 with ((go_at_call 9; (with_reducible refine (HH.out _).mono ?_); rintro e w1 ⟨rfl, hbw1⟩))
    have HH1 := hbw1
    have HB1 := below_then HB0 HH1
    have gbc_1 := gbc.then_ HH1
    clear gbc HB0 HH1
    go_upto_region 4 with (first | (refine wpList_row_w (by rfl) 27 _ rfl bc rfl 27 _ gbc_1 ⟨_, Try.underlying27⟩ (by kernel_rfl) ?_; simp only [Act.put, List.setIfInBounds_toArray, List.set_cons_succ, List.set_cons_zero]) | (go_at_call 10; (with_reducible refine (HS.out _ HB1).mono ?_); rintro e w2 ⟨rfl, hbw2⟩))
    have HH2 := hbw2
    have HB2 := below_then HB1 HH2
    have gbc_2 := gbc_1.then_ HH2
    clear gbc_1 HB1 HH2
    go_upto_region 5 with (first | (refine wpList_row_w (by rfl) 27 _ rfl bc rfl 27 _ gbc_2 ⟨_, Try.underlying27⟩ (by kernel_rfl) ?_; simp only [Act.put, List.setIfInBounds_toArray, List.set_cons_succ, List.set_cons_zero]) | (go_at_call 11; (with_reducible refine (HA.out _ HB2).mono ?_); rintro e w3 ⟨⟨ma, rfl, hcw3⟩, hbw3⟩) | (refine wpList_store_all rfl 27 _ _ rfl w3.heap.size 27 [] coZ.toList [] (coA C1 ma).toList rfl rfl (Blk.new _ _ _) rfl (by kernel_rfl) (by simp [Value.oneCell']) ?_; intro w4 gbw4 Uw4))
    have hsw4 : Below w3.heap.size w3 w4 := (wa1 _ _).trans (Uw4.b _ (Nat.le_refl _))
    have HH3 := below_then hbw3 hsw4
    have HB3 := below_then HB2 HH3
    have gbc_3 := gbc_2.then_ HH3
    clear gbc_2 HB2 HH3
    have hca := hcw3.then_ hsw4
    obtain ⟨bw4, ebw4⟩ : ∃ b, w3.heap.size = b := ⟨_, rfl⟩
    rw [ebw4] at gbw4 ⊢
    clear ebw4 Uw4 hsw4 hcw3
    go_upto_region 6 with (first | (refine wpList_row_w (by rfl) 27 _ rfl bc rfl 27 _ gbc_3 ⟨_, Try.underlying27⟩ (by kernel_rfl) ?_; simp only [Act.put, List.setIfInBounds_toArray, List.set_cons_succ, List.set_cons_zero]) | (go_at_call 13; (with_reducible refine (HM1.out _ HB3).mono ?_); rintro e w5 ⟨⟨Ax, kx, Mx, rfl, ex, hx0, lx⟩, hbw5⟩) | (refine wpList_store_all rfl 36 _ _ rfl w5.heap.size 36 [] (pairA 0 0).toList [] (pairA 0 0).toList rfl rfl (Blk.new _ _ _) rfl (by kernel_rfl) (by simp [Value.oneCell']) ?_; intro w6 gbw6 Uw6))
    have hsw6 : Below w5.heap.size w5 w6 := (wa1 _ _).trans (Uw6.b _ (Nat.le_refl _))
    have HH4 := below_then hbw5 hsw6
    have HB4 := below_then HB3 HH4
    have gbc_4 := gbc_3.then_ HH4
    have gbw4_4 := gbw4.then_ HH4
    have hca_4 := hca.then_ HH4
    clear gbc_3 gbw4 hca HB3 HH4
    have hx := hx0.then_ hsw6
    replace ex := Lib.hid ex
    obtain ⟨bw6, ebw6⟩ : ∃ b, w5.heap.size = b := ⟨_, rfl⟩
    rw [ebw6] at gbw6 ⊢
    clear ebw6 Uw6 hsw6 hx0
    go_upto_region 7 with (first | (refine wpList_row_w (by rfl) 27 _ rfl bc rfl 27 _ gbc_4 ⟨_, Try.underlying27⟩ (by kernel_rfl) ?_; simp only [Act.put, List.setIfInBounds_toArray, List.set_cons_succ, List.set_cons_zero]) | (go_at_call 13; (with_reducible refine (HM2.out _ HB4).mono ?_); rintro e w7 ⟨⟨Ay, ky, My, rfl, ey, hy0, ly⟩, hbw7⟩) | (refine wpList_store_all rfl 36 _ _ rfl w7.heap.size 36 [] (pairA 0 0).toList [] (pairA 0 0).toList rfl rfl (Blk.new _ _ _) rfl (by kernel_rfl) (by simp [Value.oneCell']) ?_; intro w8 gbw8 Uw8))
    have hsw8 : Below w7.heap.size w7 w8 := (wa1 _ _).trans (Uw8.b _ (Nat.le_refl _))
    have HH5 := below_then hbw7 hsw8
    have HB5 := below_then HB4 HH5
    have gbc_5 := gbc_4.then_ HH5
    have gbw4_5 := gbw4_4.then_ HH5
    have hca_5 := hca_4.then_ HH5
    have gbw6_5 := gbw6.then_ HH5
    have hx_5 := hx.then_ HH5
    clear gbc_4 gbw4_4 hca_4 gbw6 hx HB4 HH5
    have hy := hy0.then_ hsw8
    replace ey := Lib.hid ey
    obtain ⟨bw8, ebw8⟩ : ∃ b, w7.heap.size = b := ⟨_, rfl⟩
    rw [ebw8] at gbw8 ⊢
    clear ebw8 Uw8 hsw8 hy0
    obtain rfl : Mx = [] := List.map_eq_nil_iff.1 ex.out
    obtain rfl : My = [] := List.map_eq_nil_iff.1 ey.out
    clear ex ey
    go_wp2_with (first | (refine wpList_arr (by rfl) 36 _ rfl bw6 rfl 36 (pairA 0 0) gbw6_5 Try.underlying36 (by kernel_rfl) ?_; simp only [Act.put, List.setIfInBounds_toArray, List.set_cons_succ, List.set_cons_zero]) | (refine wpList_arr (by rfl) 36 _ rfl bw8 rfl 36 (pairA 0 0) gbw8 Try.underlying36 (by kernel_rfl) ?_; simp only [Act.put, List.setIfInBounds_toArray, List.set_cons_succ, List.set_cons_zero]))
    go_ret
    exact ⟨rfl, HB5⟩
end Go.Proofs.Ytcplneglfbdooaa
