/- The walk of ValidateErrors. -/
import Derived.Test.YtginnonjdbpamaaGreatDoorMb37
namespace Go.Proofs.YtginnonjdbpamaaGreatDoor
open Go.RowKit Go.Sort
theorem fewr_at {w : World} (c : Con) (m : Cm) (B : Bool) (h : ContW w c m) (hB : c.few 8 = B) (W : World) (hb : Below w.heap.size w W) :
  Calls Tryz.prog 15 #[.agg (coA c m), .int .i64 8] W fun e w' => e = .returned (.bool B) ∧ Below W.heap.size W w' := by
 subst hB
 exact rfew_any c m 8 W ((h.u.2.2.2.below hb).more hb.size) ((h.k.2.2.2.below hb).more hb.size) h.e (by omega)
set_option maxRecDepth 100000 in
set_option maxHeartbeats 6400000 in
theorem errors_law (c : Con) (m : Cm) (l : List Int) (A : Option Addr) (cap : Nat) (w : World) (hL : Lw w) (hc : ContW w c m) (hl : LstM w eI 1 (fun y => I64 y) A l cap) :
  Calls Tryz.prog 4 #[.agg (coA c m), .slice A l.length cap] w fun e w' => e = .returned (.bool true) ∧ Below w.heap.size w w' := by
 have HH := Lib.hid (fun W (hb : Below w.heap.size w W) => head_any W (hL.below hb))
 cases hs1 : c.few 8 with
 | false =>
  have HF := Lib.hid (fun W (hb : Below w.heap.size w W) => fewr_at c m false hc hs1 W hb)
  clear hc hl hs1 hL
  go_enter Tryz.func4, Tryz.ntmps4
  go_upto_region 1 with (fail)
  refine name_wp ?_
  intro X0 hX
  have gbc : Blk X0 w.heap.size 27 (coA c m) := by rw [hX]; exact blk_at (by simp)
  have HB0 : Below w.heap.size w X0 := by rw [hX]; (repeat (first | exact Below.refl _ _ | refine below_alloc ?_ _))
  clear hX
  obtain ⟨bc, ebc⟩ : ∃ b, w.heap.size = b := ⟨_, rfl⟩
  have lbc : w.heap.size ≤ bc := by omega
  rw [ebc] at gbc ⊢
  clear ebc
  go_upto_region 2 with ((go_at_call 11; (with_reducible refine (HH.out _ HB0).mono ?_); rintro e w1 ⟨rfl, hbw1⟩))
  have HH1 := hbw1
  have HB1 := below_then HB0 HH1
  have gbc_1 := gbc.then_ HH1
  clear gbc HB0 HH1
  go_wp2_with (first | (refine wpList_row_w (by rfl) 27 _ rfl bc rfl 27 _ gbc_1 ⟨_, Tryz.underlying27⟩ (by kernel_rfl) ?_; simp only [Act.put, List.setIfInBounds_toArray, List.set_cons_succ, List.set_cons_zero]) | (go_at_call 15; (with_reducible refine (HF.out _ HB1).mono ?_); rintro e w2 ⟨rfl, hbw2⟩))
  go_ret
  exact ⟨rfl, below_then HB1 hbw2⟩
 | true =>
 have HF := Lib.hid (fun W (hb : Below w.heap.size w W) => fewr_at c m true hc hs1 W hb)
 have hC := few_cont hc hs1
 have hA := hl.2.2.2
 by_cases h1 : 4100 < l.length
 ·have d1 : decide ((4100 : Int) < (l.length : Int)) = true := decide_eq_true (by omega)
  clear hc hl hs1 hL hC hA
  go_enter Tryz.func4, Tryz.ntmps4
  go_upto_region 1 with (fail)
  refine name_wp ?_
  intro X0 hX
  have gbc : Blk X0 w.heap.size 27 (coA c m) := by rw [hX]; exact blk_at (by simp)
  have HB0 : Below w.heap.size w X0 := by rw [hX]; (repeat (first | exact Below.refl _ _ | refine below_alloc ?_ _))
  clear hX
  obtain ⟨bc, ebc⟩ : ∃ b, w.heap.size = b := ⟨_, rfl⟩
  have lbc : w.heap.size ≤ bc := by omega
  rw [ebc] at gbc ⊢
  clear ebc
  go_upto_region 2 with ((go_at_call 11; (with_reducible refine (HH.out _ HB0).mono ?_); rintro e w1 ⟨rfl, hbw1⟩))
  have HH1 := hbw1
  have HB1 := below_then HB0 HH1
  have gbc_1 := gbc.then_ HH1
  clear gbc HB0 HH1
  go_wp2_with (first | (refine wpList_row_w (by rfl) 27 _ rfl bc rfl 27 _ gbc_1 ⟨_, Tryz.underlying27⟩ (by kernel_rfl) ?_; simp only [Act.put, List.setIfInBounds_toArray, List.set_cons_succ, List.set_cons_zero]) | (go_at_call 15; (with_reducible refine (HF.out _ HB1).mono ?_); rintro e w2 ⟨rfl, hbw2⟩))
  go_ret
  exact ⟨rfl, below_then HB1 hbw2⟩
 have d1 : decide ((4100 : Int) < (l.length : Int)) = false := decide_eq_false (by omega)
 by_cases h2 : 60 < l.length ∧ l.length ≤ 4000
 ·have d2 : decide ((60 : Int) < (l.length : Int)) = true := decide_eq_true (by omega)
  have d3 : decide ((l.length : Int) ≤ 4000) = true := decide_eq_true (by omega)
  clear hc hl hs1 hL hC hA h2
  go_enter Tryz.func4, Tryz.ntmps4
  go_upto_region 1 with (fail)
  refine name_wp ?_
  intro X0 hX
  have gbc : Blk X0 w.heap.size 27 (coA c m) := by rw [hX]; exact blk_at (by simp)
  have HB0 : Below w.heap.size w X0 := by rw [hX]; (repeat (first | exact Below.refl _ _ | refine below_alloc ?_ _))
  clear hX
  obtain ⟨bc, ebc⟩ : ∃ b, w.heap.size = b := ⟨_, rfl⟩
  have lbc : w.heap.size ≤ bc := by omega
  rw [ebc] at gbc ⊢
  clear ebc
  go_upto_region 2 with ((go_at_call 11; (with_reducible refine (HH.out _ HB0).mono ?_); rintro e w1 ⟨rfl, hbw1⟩))
  have HH1 := hbw1
  have HB1 := below_then HB0 HH1
  have gbc_1 := gbc.then_ HH1
  clear gbc HB0 HH1
  go_wp2_with (first | (refine wpList_row_w (by rfl) 27 _ rfl bc rfl 27 _ gbc_1 ⟨_, Tryz.underlying27⟩ (by kernel_rfl) ?_; simp only [Act.put, List.setIfInBounds_toArray, List.set_cons_succ, List.set_cons_zero]) | (go_at_call 15; (with_reducible refine (HF.out _ HB1).mono ?_); rintro e w2 ⟨rfl, hbw2⟩))
  go_ret
  exact ⟨rfl, below_then HB1 hbw2⟩
 have nl2 : l.length ≤ 1000000 := by omega
 have HR := Lib.hid (fun W (hb : Below w.heap.size w W) => run_sl c m l A cap hC hA nl2 W hb)
 have HO := Lib.hid (fun W (hb : Below w.heap.size w W) => out_sl c m l A cap hC hA nl2 W hb)
 obtain ⟨E, eE⟩ : ∃ E, c.runE l = E := ⟨_, rfl⟩
 have HE := Lib.hid eE
 have EE := fun (rows : List (Sta × Qm)) (h : rows.map (·.1) = c.runS l) => runS_nil h
 have HN := Lib.hid EE
 rw [eE] at HR HO HN
 clear eE EE hC hA hc hl hs1 hL nl2
 by_cases h3 : 60 < l.length
 ·have d2 : decide ((60 : Int) < (l.length : Int)) = true := decide_eq_true (by omega)
  have d3 : decide ((l.length : Int) ≤ 4000) = false := decide_eq_false (by omega)
  clear h1 h2 h3
  go_enter Tryz.func4, Tryz.ntmps4
  go_upto_region 1 with (fail)
  refine name_wp ?_
  intro X0 hX
  have gbc : Blk X0 w.heap.size 27 (coA c m) := by rw [hX]; exact blk_at (by simp)
  have HB0 : Below w.heap.size w X0 := by rw [hX]; (repeat (first | exact Below.refl _ _ | refine below_alloc ?_ _))
  clear hX
  obtain ⟨bc, ebc⟩ : ∃ b, w.heap.size = b := ⟨_, rfl⟩
  have lbc : w.heap.size ≤ bc := by omega
  rw [ebc] at gbc ⊢
  clear ebc
  go_upto_region 2 with ((go_at_call 11; (with_reducible refine (HH.out _ HB0).mono ?_); rintro e w1 ⟨rfl, hbw1⟩))
  have HH1 := hbw1
  have HB1 := below_then HB0 HH1
  have gbc_1 := gbc.then_ HH1
  clear gbc HB0 HH1
  go_upto_region 4 with (first | (refine wpList_row_w (by rfl) 27 _ rfl bc rfl 27 _ gbc_1 ⟨_, Tryz.underlying27⟩ (by kernel_rfl) ?_; simp only [Act.put, List.setIfInBounds_toArray, List.set_cons_succ, List.set_cons_zero]) | (go_at_call 15; (with_reducible refine (HF.out _ HB1).mono ?_); rintro e w2 ⟨rfl, hbw2⟩))
  have HH2 := hbw2
  have HB2 := below_then HB1 HH2
  have gbc_2 := gbc_1.then_ HH2
  clear gbc_1 HB1 HH2
  go_upto_region 5 with (first | (refine wpList_row_w (by rfl) 27 _ rfl bc rfl 27 _ gbc_2 ⟨_, Tryz.underlying27⟩ (by kernel_rfl) ?_; simp only [Act.put, List.setIfInBounds_toArray, List.set_cons_succ, List.set_cons_zero]) | (go_at_call 13; (with_reducible refine (HR.out _ HB2).mono ?_); rintro e w3 ⟨⟨Av, capv, rows, rfl, hrr, hS, hcv, hnr⟩, hbw3⟩))
  have HH3 := hbw3
  have HB3 := below_then HB2 HH3
  have gbc_3 := gbc_2.then_ HH3
  clear gbc_2 HB2 HH3
  go_upto_region 6 with (first | (refine wpList_row_w (by rfl) 27 _ rfl bc rfl 27 _ gbc_3 ⟨_, Tryz.underlying27⟩ (by kernel_rfl) ?_; simp only [Act.put, List.setIfInBounds_toArray, List.set_cons_succ, List.set_cons_zero]) | (go_at_call 16; (with_reducible refine (HO.out _ HB3).mono ?_); rintro e w4 ⟨⟨Bo, no, co, rfl, hoo⟩, hbw4⟩))
  have HH4 := hbw4
  have HB4 := below_then HB3 HH4
  have gbc_4 := gbc_3.then_ HH4
  clear gbc_3 HB3 HH4
  have hlen := HN.out rows hrr.out
  clear hcv hnr hrr HR HO hS hoo HN HE HF HH
  by_cases h0 : E = 0
  ·have z : ((rows.length : Int) == 0) = false := by rw [beq_eq_false_iff_ne]; intro h; exact hlen.1 h h0
   subst h0
   clear hlen
   go_wp2
   go_ret
   exact ⟨ret_bool (by simp), HB4⟩
  ·have z : (rows.length : Int) = 0 := hlen.2 h0
   have z2 : (E == 0) = false := by rw [beq_eq_false_iff_ne]; exact h0
   have HN0 := Lib.hid h0
   have HZ := Lib.hid z
   clear hlen h0 z
   go_wp2
   go_ret
   exact ⟨ret_bool (by have h0 := HN0.out; have hz := HZ.out; simp [hz, h0]), HB4⟩
 have d2 : decide ((60 : Int) < (l.length : Int)) = false := decide_eq_false (by omega)
 clear h1 h2 h3
 go_enter Tryz.func4, Tryz.ntmps4
 go_upto_region 1 with (fail)
 refine name_wp ?_
 intro X0 hX
 have gbc : Blk X0 w.heap.size 27 (coA c m) := by rw [hX]; exact blk_at (by simp)
 have HB0 : Below w.heap.size w X0 := by rw [hX]; (repeat (first | exact Below.refl _ _ | refine below_alloc ?_ _))
 clear hX
 obtain ⟨bc, ebc⟩ : ∃ b, w.heap.size = b := ⟨_, rfl⟩
 have lbc : w.heap.size ≤ bc := by omega
 rw [ebc] at gbc ⊢
 clear ebc
 go_upto_region 2 with ((go_at_call 11; (with_reducible refine (HH.out _ HB0).mono ?_); rintro e w1 ⟨rfl, hbw1⟩))
 have HH1 := hbw1
 have HB1 := below_then HB0 HH1
 have gbc_1 := gbc.then_ HH1
 clear gbc HB0 HH1
 go_upto_region 4 with (first | (refine wpList_row_w (by rfl) 27 _ rfl bc rfl 27 _ gbc_1 ⟨_, Tryz.underlying27⟩ (by kernel_rfl) ?_; simp only [Act.put, List.setIfInBounds_toArray, List.set_cons_succ, List.set_cons_zero]) | (go_at_call 15; (with_reducible refine (HF.out _ HB1).mono ?_); rintro e w2 ⟨rfl, hbw2⟩))
 have HH2 := hbw2
 have HB2 := below_then HB1 HH2
 have gbc_2 := gbc_1.then_ HH2
 clear gbc_1 HB1 HH2
 go_upto_region 5 with (first | (refine wpList_row_w (by rfl) 27 _ rfl bc rfl 27 _ gbc_2 ⟨_, Tryz.underlying27⟩ (by kernel_rfl) ?_; simp only [Act.put, List.setIfInBounds_toArray, List.set_cons_succ, List.set_cons_zero]) | (go_at_call 13; (with_reducible refine (HR.out _ HB2).mono ?_); rintro e w3 ⟨⟨Av, capv, rows, rfl, hrr, hS, hcv, hnr⟩, hbw3⟩))
 have HH3 := hbw3
 have HB3 := below_then HB2 HH3
 have gbc_3 := gbc_2.then_ HH3
 clear gbc_2 HB2 HH3
 go_upto_region 6 with (first | (refine wpList_row_w (by rfl) 27 _ rfl bc rfl 27 _ gbc_3 ⟨_, Tryz.underlying27⟩ (by kernel_rfl) ?_; simp only [Act.put, List.setIfInBounds_toArray, List.set_cons_succ, List.set_cons_zero]) | (go_at_call 16; (with_reducible refine (HO.out _ HB3).mono ?_); rintro e w4 ⟨⟨Bo, no, co, rfl, hoo⟩, hbw4⟩))
 have HH4 := hbw4
 have HB4 := below_then HB3 HH4
 have gbc_4 := gbc_3.then_ HH4
 clear gbc_3 HB3 HH4
 have hlen := HN.out rows hrr.out
 clear hcv hnr hrr HR HO hS hoo HN HE HF HH
 by_cases h0 : E = 0
 ·have z : ((rows.length : Int) == 0) = false := by rw [beq_eq_false_iff_ne]; intro h; exact hlen.1 h h0
  subst h0
  clear hlen
  go_wp2
  go_ret
  exact ⟨ret_bool (by simp), HB4⟩
 ·have z : (rows.length : Int) = 0 := hlen.2 h0
  have z2 : (E == 0) = false := by rw [beq_eq_false_iff_ne]; exact h0
  have HN0 := Lib.hid h0
  have HZ := Lib.hid z
  clear hlen h0 z
  go_wp2
  go_ret
  exact ⟨ret_bool (by have h0 := HN0.out; have hz := HZ.out; simp [hz, h0]), HB4⟩
end Go.Proofs.YtginnonjdbpamaaGreatDoor
