/- The walk of ValidateMeaning. -/
import Derived.Test.YtginnonjdbpamaaGreatDoorMb37
namespace Go.Proofs.YtginnonjdbpamaaGreatDoor
open Go.RowKit Go.Sort
set_option maxRecDepth 100000 in
set_option maxHeartbeats 6400000 in
theorem mean_law (c : Con) (m : Cm) (l : List Int) (A : Option Addr) (cap : Nat) (w : World) (hL : Lw w) (hc : ContW w c m) (hl : LstM w eI 1 (fun y => I64 y) A l cap) :
  Calls Tryz.prog 3 #[.agg (coA c m), .slice A l.length cap] w fun e w' => e = .returned (.bool true) ∧ Below w.heap.size w w' := by
 have HH := Lib.hid (fun W (hb : Below w.heap.size w W) => head_any W (hL.below hb))
 cases hs1 : c.fewL l with
 | false =>
  have HS1 := Lib.hid (fun W (hb : Below w.heap.size w W) => few_at c m l A cap false hc hs1 W hb)
  clear hc hl hs1 hL
  go_enter Tryz.func3, Tryz.ntmps3
  go_upto_region 1 with (fail)
  refine name_wp ?_
  intro X0 hX
  have gbc : Blk X0 w.heap.size 27 (coA c m) := by rw [hX]; exact blk_at (by simp)
  have HB0 : Below w.heap.size w X0 := by rw [hX]; (repeat (first | exact Below.refl _ _ | refine below_alloc ?_ _))
  clear hX
  obtain ⟨bc, ebc⟩ : ∃ b, w.heap.size = b := ⟨_, rfl⟩
  have lbc : w.heap.size ≤ bc := by omega
  rw [ebc] at gbc ⊢
  clear ebc
  go_upto_region 2 with ((go_at_call 11; (with_reducible refine (HH.out _ HB0).mono ?_); rintro e w1 ⟨rfl, hbw1⟩))
  have HH1 := hbw1
  have HB1 := below_then HB0 HH1
  have gbc_1 := gbc.then_ HH1
  clear gbc HB0 HH1
  go_wp2_with (first | (refine wpList_row_w (by rfl) 27 _ rfl bc rfl 27 _ gbc_1 ⟨_, Tryz.underlying27⟩ (by kernel_rfl) ?_; simp only [Act.put, List.setIfInBounds_toArray, List.set_cons_succ, List.set_cons_zero]) | (go_at_call 12; (with_reducible refine (HS1.out _ HB1).mono ?_); rintro e w2 ⟨rfl, hbw2⟩))
  go_ret
  exact ⟨rfl, below_then HB1 hbw2⟩
 | true =>
 have HS1 := Lib.hid (fun W (hb : Below w.heap.size w W) => few_at c m l A cap true hc hs1 W hb)
 obtain ⟨hC, nl, hf8⟩ := fewL_cont hc hs1
 have hA := hl.2.2.2
 have nl2 : l.length ≤ 1000000 := by omega
 have HR := Lib.hid (fun W (hb : Below w.heap.size w W) => run_sl c m l A cap hC hA nl2 W hb)
 have HC := Lib.hid hC
 have HA := Lib.hid hA
 have HG := Lib.hid (fun (rows : List (Sta × Qm)) (Av : Option Addr) (capv : Nat) (hr : rows.map (·.1) = c.runS l) (hn : rows.length ≤ 1000000) (W : World) (hb : Below w.heap.size w W) (hS : Stl W Av rows) => agr_sl c m l A cap hC hA nl2 Av capv rows (-1, decide (c.runE l = 0)) (by rw [hr]; exact meaning_law c l) hn W hb hS)
 obtain ⟨E, eE⟩ : ∃ E, c.runE l = E := ⟨_, rfl⟩
 rw [eE] at HR HG
 obtain ⟨b, hb⟩ : ∃ b, decide (E = 0) = b := ⟨_, rfl⟩
 rw [hb] at HG
 have hE : Hid ((E == 0) = b) := hb
 clear hb hC hA hc hl hs1 hL nl nl2 hf8
 go_enter Tryz.func3, Tryz.ntmps3
 go_upto_region 1 with (fail)
 refine name_wp ?_
 intro X0 hX
 have gbc : Blk X0 w.heap.size 27 (coA c m) := by rw [hX]; exact blk_at (by simp)
 have HB0 : Below w.heap.size w X0 := by rw [hX]; (repeat (first | exact Below.refl _ _ | refine below_alloc ?_ _))
 clear hX
 obtain ⟨bc, ebc⟩ : ∃ b, w.heap.size = b := ⟨_, rfl⟩
 have lbc : w.heap.size ≤ bc := by omega
 rw [ebc] at gbc ⊢
 clear ebc
 go_upto_region 2 with ((go_at_call 11; (with_reducible refine (HH.out _ HB0).mono ?_); rintro e w1 ⟨rfl, hbw1⟩))
 have HH1 := hbw1
 have HB1 := below_then HB0 HH1
 have gbc_1 := gbc.then_ HH1
 clear gbc HB0 HH1
 go_upto_region 4 with (first | (refine wpList_row_w (by rfl) 27 _ rfl bc rfl 27 _ gbc_1 ⟨_, Tryz.underlying27⟩ (by kernel_rfl) ?_; simp only [Act.put, List.setIfInBounds_toArray, List.set_cons_succ, List.set_cons_zero]) | (go_at_call 12; (with_reducible refine (HS1.out _ HB1).mono ?_); rintro e w2 ⟨rfl, hbw2⟩))
 have HH2 := hbw2
 have HB2 := below_then HB1 HH2
 have gbc_2 := gbc_1.then_ HH2
 clear gbc_1 HB1 HH2
 go_upto_region 5 with (first | (refine wpList_row_w (by rfl) 27 _ rfl bc rfl 27 _ gbc_2 ⟨_, Tryz.underlying27⟩ (by kernel_rfl) ?_; simp only [Act.put, List.setIfInBounds_toArray, List.set_cons_succ, List.set_cons_zero]) | (go_at_call 13; (with_reducible refine (HR.out _ HB2).mono ?_); rintro e w3 ⟨⟨Av, capv, rows, rfl, hrr, hS, hcv, hnr⟩, hbw3⟩))
 have HH3 := hbw3
 have HB3 := below_then HB2 HH3
 have gbc_3 := gbc_2.then_ HH3
 clear gbc_2 HB2 HH3
 have HAG := Lib.hid (HG.out rows Av capv hrr.out hnr.out w3 HB3 hS)
 go_upto_region 6 with (first | (refine wpList_row_w (by rfl) 27 _ rfl bc rfl 27 _ gbc_3 ⟨_, Tryz.underlying27⟩ (by kernel_rfl) ?_; simp only [Act.put, List.setIfInBounds_toArray, List.set_cons_succ, List.set_cons_zero]) | (go_at_call 14; (with_reducible refine (HAG.out).mono ?_); rintro e w4 ⟨rfl, hbw4⟩))
 have HH4 := hbw4
 have HB4 := below_then HB3 HH4
 have gbc_4 := gbc_3.then_ HH4
 clear gbc_3 HB3 HH4
 clear hcv hnr hrr HAG HG HR hS
 cases b
 all_goals go_wp2
 all_goals go_ret
 all_goals exact ⟨ret_bool (by simp [hE.out]), HB4⟩
end Go.Proofs.YtginnonjdbpamaaGreatDoor
