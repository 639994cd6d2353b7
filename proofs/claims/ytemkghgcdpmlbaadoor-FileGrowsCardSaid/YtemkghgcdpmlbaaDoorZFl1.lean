/- The walk of FileGrows. -/
import Derived.Test.YtemkghgcdpmlbaaDoorZFl1a
import Derived.Test.YtemkghgcdpmlbaaDoorZFl1b
import Derived.Test.YtemkghgcdpmlbaaDoorZFl1c
import Derived.Test.YtemkghgcdpmlbaaDoorZFl1d
namespace Go.Proofs.YtemkghgcdpmlbaaDoor
open Go.RowKit Go.Sort

set_option maxRecDepth 100000 in
set_option maxHeartbeats 6400000 in
theorem grows_law (c : Con) (m : Cm) (f : Fil) (k : Fm) (x : Fac) (b : Int × Int) (w : World) (hL : Lw w) (hc : ContW w c m) (hf : FilW w f k) :
    Calls Tryd.prog 3 #[.agg (coA c m), .agg (flA f k), .agg (fA x), .agg (bA b)] w fun e w' => e = .returned (.bool true) ∧ Below w.heap.size w w' := by
  have HH := Lib.hid (fun W (hb : Below w.heap.size w W) => head_any W (hL.below hb))
  cases hs1 : c.small 60 with
  | false =>
    have HS1 := Lib.hid (fun W (hb : Below w.heap.size w W) => smallc_at c m false hc hs1 W hb)
    clear hc hf hs1 hL
    go_enter Tryd.func3, Tryd.ntmps3
    go_upto_region 1 with (fail)
    refine name_wp ?_
    intro X0 hX
    have gbc : Blk X0 w.heap.size 27 (coA c m) := by rw [hX]; exact (((blk_at (by simp)).alloc _).alloc _).alloc _
    have gbf : Blk X0 (w.heap.size + 1) 31 (flA f k) := by rw [hX]; exact ((blk_at (by simp)).alloc _).alloc _
    have gbx : Blk X0 (w.heap.size + 2) 33 (fA x) := by rw [hX]; exact (blk_at (by simp)).alloc _
    have gbo : Blk X0 (w.heap.size + 3) 35 (bA b) := by rw [hX]; exact blk_at (by simp)
    have HB0 : Below w.heap.size w X0 := by rw [hX]; (repeat (first | with_reducible assumption | with_reducible exact Below.refl _ _ | with_reducible refine below_drewN ?_ _ | with_reducible refine Below.drew ?_ | with_reducible refine below_alloc ?_ _ | with_reducible refine Below.setCell ?_ (by first | omega | (simp; done) | (simp; omega)) _ | with_reducible refine below_then ?_ (by with_reducible assumption) | (refine below_then (a := World.drew _) ?_ (by with_reducible assumption))))
    clear hX
    obtain ⟨bo, ebo⟩ : ∃ b, w.heap.size + 3 = b := ⟨_, rfl⟩
    obtain ⟨bx, ebx⟩ : ∃ b, w.heap.size + 2 = b := ⟨_, rfl⟩
    obtain ⟨bf, ebf⟩ : ∃ b, w.heap.size + 1 = b := ⟨_, rfl⟩
    obtain ⟨bc, ebc⟩ : ∃ b, w.heap.size = b := ⟨_, rfl⟩
    have lbc : w.heap.size ≤ bc := by omega
    have lbf : w.heap.size ≤ bf := by omega
    have lbx : w.heap.size ≤ bx := by omega
    have lbo : w.heap.size ≤ bo := by omega
    have nbcbf : bc ≠ bf := by omega
    have nbcbx : bc ≠ bx := by omega
    have nbcbo : bc ≠ bo := by omega
    have nbfbx : bf ≠ bx := by omega
    have nbfbo : bf ≠ bo := by omega
    have nbxbo : bx ≠ bo := by omega
    rw [ebo] at gbo ⊢
    rw [ebx] at gbx ⊢
    rw [ebf] at gbf ⊢
    rw [ebc] at gbc ⊢
    clear ebc ebf ebx ebo
    go_upto_region 2 with ((go_at_call 8; (with_reducible refine (HH.out _ HB0).mono ?_); rintro e w1 ⟨rfl, hbw1⟩))
    have HH1 := hbw1
    have HB1 := below_then HB0 HH1
    have gbc_1 := gbc.then_ HH1
    have gbf_1 := gbf.then_ HH1
    have gbx_1 := gbx.then_ HH1
    have gbo_1 := gbo.then_ HH1
    clear gbc gbf gbx gbo HB0 HH1
    go_wp2_with (first | (refine wpList_row_w (by rfl) 27 _ rfl bc rfl 27 _ gbc_1 ⟨_, Tryd.underlying27⟩ (by kernel_rfl) ?_; simp only [Act.put, List.setIfInBounds_toArray, List.set_cons_succ, List.set_cons_zero]) | (go_at_call 9; (with_reducible refine (HS1.out _ HB1).mono ?_); rintro e w2 ⟨rfl, hbw2⟩; have gf2 := gbf_1.then_ hbw2))
    go_ret
    exact ⟨rfl, below_then HB1 hbw2⟩
  | true =>
  have HS1 := Lib.hid (fun W (hb : Below w.heap.size w W) => smallc_at c m true hc hs1 W hb)
  cases hs2 : f.small 200 with
  | false =>
    have HS2 := Lib.hid (fun W => smallf_at f k false hs2 W)
    clear hc hf hs1 hs2 hL
    go_enter Tryd.func3, Tryd.ntmps3
    go_upto_region 1 with (fail)
    refine name_wp ?_
    intro X0 hX
    have gbc : Blk X0 w.heap.size 27 (coA c m) := by rw [hX]; exact (((blk_at (by simp)).alloc _).alloc _).alloc _
    have gbf : Blk X0 (w.heap.size + 1) 31 (flA f k) := by rw [hX]; exact ((blk_at (by simp)).alloc _).alloc _
    have gbx : Blk X0 (w.heap.size + 2) 33 (fA x) := by rw [hX]; exact (blk_at (by simp)).alloc _
    have gbo : Blk X0 (w.heap.size + 3) 35 (bA b) := by rw [hX]; exact blk_at (by simp)
    have HB0 : Below w.heap.size w X0 := by rw [hX]; (repeat (first | with_reducible assumption | with_reducible exact Below.refl _ _ | with_reducible refine below_drewN ?_ _ | with_reducible refine Below.drew ?_ | with_reducible refine below_alloc ?_ _ | with_reducible refine Below.setCell ?_ (by first | omega | (simp; done) | (simp; omega)) _ | with_reducible refine below_then ?_ (by with_reducible assumption) | (refine below_then (a := World.drew _) ?_ (by with_reducible assumption))))
    clear hX
    obtain ⟨bo, ebo⟩ : ∃ b, w.heap.size + 3 = b := ⟨_, rfl⟩
    obtain ⟨bx, ebx⟩ : ∃ b, w.heap.size + 2 = b := ⟨_, rfl⟩
    obtain ⟨bf, ebf⟩ : ∃ b, w.heap.size + 1 = b := ⟨_, rfl⟩
    obtain ⟨bc, ebc⟩ : ∃ b, w.heap.size = b := ⟨_, rfl⟩
    have lbc : w.heap.size ≤ bc := by omega
    have lbf : w.heap.size ≤ bf := by omega
    have lbx : w.heap.size ≤ bx := by omega
    have lbo : w.heap.size ≤ bo := by omega
    have nbcbf : bc ≠ bf := by omega
    have nbcbx : bc ≠ bx := by omega
    have nbcbo : bc ≠ bo := by omega
    have nbfbx : bf ≠ bx := by omega
    have nbfbo : bf ≠ bo := by omega
    have nbxbo : bx ≠ bo := by omega
    rw [ebo] at gbo ⊢
    rw [ebx] at gbx ⊢
    rw [ebf] at gbf ⊢
    rw [ebc] at gbc ⊢
    clear ebc ebf ebx ebo
    go_upto_region 2 with ((go_at_call 8; (with_reducible refine (HH.out _ HB0).mono ?_); rintro e w1 ⟨rfl, hbw1⟩))
    have HH1 := hbw1
    have HB1 := below_then HB0 HH1
    have gbc_1 := gbc.then_ HH1
    have gbf_1 := gbf.then_ HH1
    have gbx_1 := gbx.then_ HH1
    have gbo_1 := gbo.then_ HH1
    clear gbc gbf gbx gbo HB0 HH1
    go_wp2_with (first | (refine wpList_row_w (by rfl) 27 _ rfl bc rfl 27 _ gbc_1 ⟨_, Tryd.underlying27⟩ (by kernel_rfl) ?_; simp only [Act.put, List.setIfInBounds_toArray, List.set_cons_succ, List.set_cons_zero]) | (go_at_call 9; (with_reducible refine (HS1.out _ HB1).mono ?_); rintro e w2 ⟨rfl, hbw2⟩; have gf2 := gbf_1.then_ hbw2) | (refine wpList_row_w (by rfl) 31 _ rfl bf rfl 31 _ gf2 ⟨_, Tryd.underlying31⟩ (by kernel_rfl) ?_; simp only [Act.put, List.setIfInBounds_toArray, List.set_cons_succ, List.set_cons_zero]) | (go_at_call 10; (with_reducible refine (HS2.out _).mono ?_); rintro e w3 ⟨rfl, hbw3⟩))
    go_ret
    exact ⟨rfl, below_then (below_then HB1 hbw2) hbw3⟩
  | true =>
  by_cases hE : f.putE c x = 0
  · by_cases hG : f.ordE c b = 0
    · exact grows_11 c m f k x b w hL hc hf hs1 hs2 hE hG
    · exact grows_10 c m f k x b w hL hc hf hs1 hs2 hE hG
  · by_cases hG : f.ordE c b = 0
    · exact grows_01 c m f k x b w hL hc hf hs1 hs2 hE hG
    · cases hV : f.ok c with
      | true => exact grows_00 c m f k x b w hL hc hf hs1 hs2 hE hG hV
      | false => exact grows_bad c m f k x b w hL hc hf hs1 hs2 hV
end Go.Proofs.YtemkghgcdpmlbaaDoor
