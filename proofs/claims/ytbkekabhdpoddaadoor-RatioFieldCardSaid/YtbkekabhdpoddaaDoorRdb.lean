/- The walk of RatioField at valid ratios. -/
import Derived.Test.YtbkekabhdpoddaaDoorRd0
namespace Go.Proofs.YtbkekabhdpoddaaDoor
open Go.RowKit

set_option maxRecDepth 100000 in
set_option maxHeartbeats 6400000 in
theorem field_key (n1 d1 n2 d2 n3 d3 sN sD sE pN pD pE uN uD uE vN vD vE qN qD qE xN xD xE yN yD yE zN zD zE : Int) (w : World)
    (HH : Hid (∀ W, Below w.heap.size w W → Calls Tryd.prog 11 #[] W fun e w' => e = .returned (.bool true) ∧ Below W.heap.size W w'))
    (HV1 : Hid (∀ W, Calls Tryd.prog 15 #[.agg #[.int .i64 n1, .int .i64 d1]] W fun e w' => e = .returned (.bool true) ∧ Below W.heap.size W w'))
    (HV2 : Hid (∀ W, Calls Tryd.prog 15 #[.agg #[.int .i64 n2, .int .i64 d2]] W fun e w' => e = .returned (.bool true) ∧ Below W.heap.size W w'))
    (HV3 : Hid (∀ W, Calls Tryd.prog 15 #[.agg #[.int .i64 n3, .int .i64 d3]] W fun e w' => e = .returned (.bool true) ∧ Below W.heap.size W w'))
    (HA12 : Hid (∀ W, Calls Tryd.prog 17 #[.agg #[.int .i64 n1, .int .i64 d1], .agg #[.int .i64 n2, .int .i64 d2]] W fun e w' => e = .returned (.tuple #[.agg #[.int .i64 sN, .int .i64 sD], .int .i64 sE]) ∧ Below W.heap.size W w'))
    (HA21 : Hid (∀ W, Calls Tryd.prog 17 #[.agg #[.int .i64 n2, .int .i64 d2], .agg #[.int .i64 n1, .int .i64 d1]] W fun e w' => e = .returned (.tuple #[.agg #[.int .i64 sN, .int .i64 sD], .int .i64 sE]) ∧ Below W.heap.size W w'))
    (HM12 : Hid (∀ W, Calls Tryd.prog 18 #[.agg #[.int .i64 n1, .int .i64 d1], .agg #[.int .i64 n2, .int .i64 d2]] W fun e w' => e = .returned (.tuple #[.agg #[.int .i64 pN, .int .i64 pD], .int .i64 pE]) ∧ Below W.heap.size W w'))
    (HM21 : Hid (∀ W, Calls Tryd.prog 18 #[.agg #[.int .i64 n2, .int .i64 d2], .agg #[.int .i64 n1, .int .i64 d1]] W fun e w' => e = .returned (.tuple #[.agg #[.int .i64 pN, .int .i64 pD], .int .i64 pE]) ∧ Below W.heap.size W w'))
    (HA23 : Hid (∀ W, Calls Tryd.prog 17 #[.agg #[.int .i64 n2, .int .i64 d2], .agg #[.int .i64 n3, .int .i64 d3]] W fun e w' => e = .returned (.tuple #[.agg #[.int .i64 uN, .int .i64 uD], .int .i64 uE]) ∧ Below W.heap.size W w'))
    (HM23 : Hid (∀ W, Calls Tryd.prog 18 #[.agg #[.int .i64 n2, .int .i64 d2], .agg #[.int .i64 n3, .int .i64 d3]] W fun e w' => e = .returned (.tuple #[.agg #[.int .i64 vN, .int .i64 vD], .int .i64 vE]) ∧ Below W.heap.size W w'))
    (HM13 : Hid (∀ W, Calls Tryd.prog 18 #[.agg #[.int .i64 n1, .int .i64 d1], .agg #[.int .i64 n3, .int .i64 d3]] W fun e w' => e = .returned (.tuple #[.agg #[.int .i64 qN, .int .i64 qD], .int .i64 qE]) ∧ Below W.heap.size W w'))
    (HS : Hid (∀ W, sE = 0 → Calls Tryd.prog 28 #[.agg #[.int .i64 sN, .int .i64 sD], .agg #[.int .i64 n2, .int .i64 d2]] W fun e w' => e = .returned (.tuple #[.agg #[.int .i64 n1, .int .i64 d1], .int .i64 0]) ∧ Below W.heap.size W w'))
    (HD : Hid (∀ W, pE = 0 → n2 ≠ 0 → Calls Tryd.prog 31 #[.agg #[.int .i64 pN, .int .i64 pD], .agg #[.int .i64 n2, .int .i64 d2]] W fun e w' => e = .returned (.tuple #[.agg #[.int .i64 n1, .int .i64 d1], .int .i64 0]) ∧ Below W.heap.size W w'))
    (HX1 : Hid (∀ W, sE = 0 → uE = 0 → Calls Tryd.prog 17 #[.agg #[.int .i64 sN, .int .i64 sD], .agg #[.int .i64 n3, .int .i64 d3]] W fun e w' => e = .returned (.tuple #[.agg #[.int .i64 xN, .int .i64 xD], .int .i64 xE]) ∧ Below W.heap.size W w'))
    (HX2 : Hid (∀ W, sE = 0 → uE = 0 → Calls Tryd.prog 17 #[.agg #[.int .i64 n1, .int .i64 d1], .agg #[.int .i64 uN, .int .i64 uD]] W fun e w' => e = .returned (.tuple #[.agg #[.int .i64 xN, .int .i64 xD], .int .i64 xE]) ∧ Below W.heap.size W w'))
    (HY1 : Hid (∀ W, pE = 0 → vE = 0 → Calls Tryd.prog 18 #[.agg #[.int .i64 pN, .int .i64 pD], .agg #[.int .i64 n3, .int .i64 d3]] W fun e w' => e = .returned (.tuple #[.agg #[.int .i64 yN, .int .i64 yD], .int .i64 yE]) ∧ Below W.heap.size W w'))
    (HY2 : Hid (∀ W, pE = 0 → vE = 0 → Calls Tryd.prog 18 #[.agg #[.int .i64 n1, .int .i64 d1], .agg #[.int .i64 vN, .int .i64 vD]] W fun e w' => e = .returned (.tuple #[.agg #[.int .i64 yN, .int .i64 yD], .int .i64 yE]) ∧ Below W.heap.size W w'))
    (HZ1 : Hid (∀ W, pE = 0 → uE = 0 → qE = 0 → Calls Tryd.prog 18 #[.agg #[.int .i64 n1, .int .i64 d1], .agg #[.int .i64 uN, .int .i64 uD]] W fun e w' => e = .returned (.tuple #[.agg #[.int .i64 zN, .int .i64 zD], .int .i64 zE]) ∧ Below W.heap.size W w'))
    (HZ2 : Hid (∀ W, pE = 0 → uE = 0 → qE = 0 → Calls Tryd.prog 17 #[.agg #[.int .i64 pN, .int .i64 pD], .agg #[.int .i64 qN, .int .i64 qD]] W fun e w' => e = .returned (.tuple #[.agg #[.int .i64 zN, .int .i64 zD], .int .i64 zE]) ∧ Below W.heap.size W w')) :
    Calls Tryd.prog 9 #[.agg #[.int .i64 n1, .int .i64 d1], .agg #[.int .i64 n2, .int .i64 d2], .agg #[.int .i64 n3, .int .i64 d3]] w fun e w' => e = .returned (.bool true) ∧ Below w.heap.size w w' := by
  go_enter Tryd.func9, Tryd.ntmps9
  go_upto_region 1 with (fail)
  refine name_wp ?_
  intro X0 hX
  have ga : Blk X0 (w.heap.size) 25 #[.int .i64 n1, .int .i64 d1] := by rw [hX]; exact (((blk_at (by simp))).alloc _).alloc _
  have gb : Blk X0 (w.heap.size + 1) 25 #[.int .i64 n2, .int .i64 d2] := by rw [hX]; exact ((blk_at (by simp))).alloc _
  have gc : Blk X0 (w.heap.size + 2) 25 #[.int .i64 n3, .int .i64 d3] := by rw [hX]; exact (blk_at (by simp))
  have HB : Below w.heap.size w X0 := by rw [hX]; (repeat (first | with_reducible assumption | with_reducible exact Below.refl _ _ | with_reducible refine below_drewN ?_ _ | with_reducible refine Below.drew ?_ | with_reducible refine below_alloc ?_ _ | with_reducible refine Below.setCell ?_ (by first | omega | (simp; done) | (simp; omega)) _ | with_reducible refine below_then ?_ (by with_reducible assumption) | (refine below_then (a := World.drew _) ?_ (by with_reducible assumption))))
  clear hX
  obtain ⟨bc, eb⟩ : ∃ b, w.heap.size + 2 = b := ⟨_, rfl⟩
  rw [eb] at gc ⊢
  clear eb
  obtain ⟨bb, eb⟩ : ∃ b, w.heap.size + 1 = b := ⟨_, rfl⟩
  rw [eb] at gb ⊢
  clear eb
  obtain ⟨ba, eb⟩ : ∃ b, w.heap.size = b := ⟨_, rfl⟩
  rw [eb] at ga ⊢
  clear eb
  have hz := Below.refl X0.heap.size X0
  go_upto_region 2 with ((go_at_call 11; (with_reducible refine (HH.out _ HB).mono ?_); rintro e w1 ⟨rfl, hbw1⟩))
  refine name_wp ?_
  intro X1 hX
  have na : Blk X1 ba 25 #[.int .i64 n1, .int .i64 d1] := by rw [hX]; (repeat (first | with_reducible assumption | with_reducible exact Blk.new _ _ _ | with_reducible refine Blk.drew ?_ | with_reducible refine Blk.alloc ?_ _ | with_reducible refine Blk.drewN ?_ _ | with_reducible apply Blk.setT0 | with_reducible apply Blk.setT1 | with_reducible refine Blk.far ?_ (by first | (simp; done) | omega | (simp; omega)) _ | with_reducible refine Blk.then_ ?_ (by with_reducible assumption)))
  have nb : Blk X1 bb 25 #[.int .i64 n2, .int .i64 d2] := by rw [hX]; (repeat (first | with_reducible assumption | with_reducible exact Blk.new _ _ _ | with_reducible refine Blk.drew ?_ | with_reducible refine Blk.alloc ?_ _ | with_reducible refine Blk.drewN ?_ _ | with_reducible apply Blk.setT0 | with_reducible apply Blk.setT1 | with_reducible refine Blk.far ?_ (by first | (simp; done) | omega | (simp; omega)) _ | with_reducible refine Blk.then_ ?_ (by with_reducible assumption)))
  have nc : Blk X1 bc 25 #[.int .i64 n3, .int .i64 d3] := by rw [hX]; (repeat (first | with_reducible assumption | with_reducible exact Blk.new _ _ _ | with_reducible refine Blk.drew ?_ | with_reducible refine Blk.alloc ?_ _ | with_reducible refine Blk.drewN ?_ _ | with_reducible apply Blk.setT0 | with_reducible apply Blk.setT1 | with_reducible refine Blk.far ?_ (by first | (simp; done) | omega | (simp; omega)) _ | with_reducible refine Blk.then_ ?_ (by with_reducible assumption)))
  have NB : Below w.heap.size w X1 := by rw [hX]; (repeat (first | with_reducible assumption | with_reducible exact Below.refl _ _ | with_reducible refine below_drewN ?_ _ | with_reducible refine Below.drew ?_ | with_reducible refine below_alloc ?_ _ | with_reducible refine Below.setCell ?_ (by first | omega | (simp; done) | (simp; omega)) _ | with_reducible refine below_then ?_ (by with_reducible assumption) | (refine below_then (a := World.drew _) ?_ (by with_reducible assumption))))
  clear hX ga gb gc HB
  have ga := na
  clear na
  have gb := nb
  clear nb
  have gc := nc
  clear nc
  have HB := NB
  clear NB
  have hz := Below.refl X1.heap.size X1
  have ca0 : X1.cell? ⟨ba, 0, none⟩ = some (.int .i64 n1) := (ga).cell 0
  have ca1 : X1.cell? ⟨ba, 1, none⟩ = some (.int .i64 d1) := (ga).cell 1
  have cb0 : X1.cell? ⟨bb, 0, none⟩ = some (.int .i64 n2) := (gb).cell 0
  have cb1 : X1.cell? ⟨bb, 1, none⟩ = some (.int .i64 d2) := (gb).cell 1
  have cc0 : X1.cell? ⟨bc, 0, none⟩ = some (.int .i64 n3) := (gc).cell 0
  have cc1 : X1.cell? ⟨bc, 1, none⟩ = some (.int .i64 d3) := (gc).cell 1
  go_upto_region 4 with (first | (go_at_call 15; (with_reducible refine (HV1.out _).mono ?_); rintro e w1 ⟨rfl, hbw1⟩; have k1a0 : w1.cell? ⟨ba, 0, none⟩ = some (.int .i64 n1) := ((ga.then_ hbw1)).cell 0; have k1a1 : w1.cell? ⟨ba, 1, none⟩ = some (.int .i64 d1) := ((ga.then_ hbw1)).cell 1; have k1b0 : w1.cell? ⟨bb, 0, none⟩ = some (.int .i64 n2) := ((gb.then_ hbw1)).cell 0; have k1b1 : w1.cell? ⟨bb, 1, none⟩ = some (.int .i64 d2) := ((gb.then_ hbw1)).cell 1; have k1c0 : w1.cell? ⟨bc, 0, none⟩ = some (.int .i64 n3) := ((gc.then_ hbw1)).cell 0; have k1c1 : w1.cell? ⟨bc, 1, none⟩ = some (.int .i64 d3) := ((gc.then_ hbw1)).cell 1) | (go_at_call 15; (with_reducible refine (HV2.out _).mono ?_); rintro e w2 ⟨rfl, hbw2⟩; have k2a0 : w2.cell? ⟨ba, 0, none⟩ = some (.int .i64 n1) := (((ga.then_ hbw1).then_ hbw2)).cell 0; have k2a1 : w2.cell? ⟨ba, 1, none⟩ = some (.int .i64 d1) := (((ga.then_ hbw1).then_ hbw2)).cell 1; have k2b0 : w2.cell? ⟨bb, 0, none⟩ = some (.int .i64 n2) := (((gb.then_ hbw1).then_ hbw2)).cell 0; have k2b1 : w2.cell? ⟨bb, 1, none⟩ = some (.int .i64 d2) := (((gb.then_ hbw1).then_ hbw2)).cell 1; have k2c0 : w2.cell? ⟨bc, 0, none⟩ = some (.int .i64 n3) := (((gc.then_ hbw1).then_ hbw2)).cell 0; have k2c1 : w2.cell? ⟨bc, 1, none⟩ = some (.int .i64 d3) := (((gc.then_ hbw1).then_ hbw2)).cell 1) | (go_at_call 15; (with_reducible refine (HV3.out _).mono ?_); rintro e w3 ⟨rfl, hbw3⟩; have k3a0 : w3.cell? ⟨ba, 0, none⟩ = some (.int .i64 n1) := ((((ga.then_ hbw1).then_ hbw2).then_ hbw3)).cell 0; have k3a1 : w3.cell? ⟨ba, 1, none⟩ = some (.int .i64 d1) := ((((ga.then_ hbw1).then_ hbw2).then_ hbw3)).cell 1; have k3b0 : w3.cell? ⟨bb, 0, none⟩ = some (.int .i64 n2) := ((((gb.then_ hbw1).then_ hbw2).then_ hbw3)).cell 0; have k3b1 : w3.cell? ⟨bb, 1, none⟩ = some (.int .i64 d2) := ((((gb.then_ hbw1).then_ hbw2).then_ hbw3)).cell 1; have k3c0 : w3.cell? ⟨bc, 0, none⟩ = some (.int .i64 n3) := ((((gc.then_ hbw1).then_ hbw2).then_ hbw3)).cell 0; have k3c1 : w3.cell? ⟨bc, 1, none⟩ = some (.int .i64 d3) := ((((gc.then_ hbw1).then_ hbw2).then_ hbw3)).cell 1))
  clear HV1 HV2 HV3
  clear ca0 ca1 cb0 cb1 cc0 cc1
  try clear k1a0 k1a1 k1b0 k1b1 k1c0 k1c1
  try clear k2a0 k2a1 k2b0 k2b1 k2c0 k2c1
  try clear k3a0 k3a1 k3b0 k3b1 k3c0 k3c1
  refine name_wp ?_
  intro X2 hX
  have na : Blk X2 ba 25 #[.int .i64 n1, .int .i64 d1] := by rw [hX]; (repeat (first | with_reducible assumption | with_reducible exact Blk.new _ _ _ | with_reducible refine Blk.drew ?_ | with_reducible refine Blk.alloc ?_ _ | with_reducible refine Blk.drewN ?_ _ | with_reducible apply Blk.setT0 | with_reducible apply Blk.setT1 | with_reducible refine Blk.far ?_ (by first | (simp; done) | omega | (simp; omega)) _ | with_reducible refine Blk.then_ ?_ (by with_reducible assumption)))
  have nb : Blk X2 bb 25 #[.int .i64 n2, .int .i64 d2] := by rw [hX]; (repeat (first | with_reducible assumption | with_reducible exact Blk.new _ _ _ | with_reducible refine Blk.drew ?_ | with_reducible refine Blk.alloc ?_ _ | with_reducible refine Blk.drewN ?_ _ | with_reducible apply Blk.setT0 | with_reducible apply Blk.setT1 | with_reducible refine Blk.far ?_ (by first | (simp; done) | omega | (simp; omega)) _ | with_reducible refine Blk.then_ ?_ (by with_reducible assumption)))
  have nc : Blk X2 bc 25 #[.int .i64 n3, .int .i64 d3] := by rw [hX]; (repeat (first | with_reducible assumption | with_reducible exact Blk.new _ _ _ | with_reducible refine Blk.drew ?_ | with_reducible refine Blk.alloc ?_ _ | with_reducible refine Blk.drewN ?_ _ | with_reducible apply Blk.setT0 | with_reducible apply Blk.setT1 | with_reducible refine Blk.far ?_ (by first | (simp; done) | omega | (simp; omega)) _ | with_reducible refine Blk.then_ ?_ (by with_reducible assumption)))
  have NB : Below w.heap.size w X2 := by rw [hX]; (repeat (first | with_reducible assumption | with_reducible exact Below.refl _ _ | with_reducible refine below_drewN ?_ _ | with_reducible refine Below.drew ?_ | with_reducible refine below_alloc ?_ _ | with_reducible refine Below.setCell ?_ (by first | omega | (simp; done) | (simp; omega)) _ | with_reducible refine below_then ?_ (by with_reducible assumption) | (refine below_then (a := World.drew _) ?_ (by with_reducible assumption))))
  clear hX ga gb gc HB
  have ga := na
  clear na
  have gb := nb
  clear nb
  have gc := nc
  clear nc
  have HB := NB
  clear NB
  have hz := Below.refl X2.heap.size X2
  have ca0 : X2.cell? ⟨ba, 0, none⟩ = some (.int .i64 n1) := (ga).cell 0
  have ca1 : X2.cell? ⟨ba, 1, none⟩ = some (.int .i64 d1) := (ga).cell 1
  have cb0 : X2.cell? ⟨bb, 0, none⟩ = some (.int .i64 n2) := (gb).cell 0
  have cb1 : X2.cell? ⟨bb, 1, none⟩ = some (.int .i64 d2) := (gb).cell 1
  go_upto_region 5 with ((go_at_call 17; (with_reducible refine (HA12.out _).mono ?_); rintro e w1 ⟨rfl, hbw1⟩))
  clear HA12
  clear ca0 ca1 cb0 cb1
  refine name_wp ?_
  intro X3 hX
  have na : Blk X3 ba 25 #[.int .i64 n1, .int .i64 d1] := by rw [hX]; (repeat (first | with_reducible assumption | with_reducible exact Blk.new _ _ _ | with_reducible refine Blk.drew ?_ | with_reducible refine Blk.alloc ?_ _ | with_reducible refine Blk.drewN ?_ _ | with_reducible apply Blk.setT0 | with_reducible apply Blk.setT1 | with_reducible refine Blk.far ?_ (by first | (simp; done) | omega | (simp; omega)) _ | with_reducible refine Blk.then_ ?_ (by with_reducible assumption)))
  have nb : Blk X3 bb 25 #[.int .i64 n2, .int .i64 d2] := by rw [hX]; (repeat (first | with_reducible assumption | with_reducible exact Blk.new _ _ _ | with_reducible refine Blk.drew ?_ | with_reducible refine Blk.alloc ?_ _ | with_reducible refine Blk.drewN ?_ _ | with_reducible apply Blk.setT0 | with_reducible apply Blk.setT1 | with_reducible refine Blk.far ?_ (by first | (simp; done) | omega | (simp; omega)) _ | with_reducible refine Blk.then_ ?_ (by with_reducible assumption)))
  have nc : Blk X3 bc 25 #[.int .i64 n3, .int .i64 d3] := by rw [hX]; (repeat (first | with_reducible assumption | with_reducible exact Blk.new _ _ _ | with_reducible refine Blk.drew ?_ | with_reducible refine Blk.alloc ?_ _ | with_reducible refine Blk.drewN ?_ _ | with_reducible apply Blk.setT0 | with_reducible apply Blk.setT1 | with_reducible refine Blk.far ?_ (by first | (simp; done) | omega | (simp; omega)) _ | with_reducible refine Blk.then_ ?_ (by with_reducible assumption)))
  have ns : Blk X3 (w1.heap.size) 25 #[.int .i64 sN, .int .i64 sD] := by rw [hX]; exact Blk.new _ _ _
  have ls : w.heap.size ≤ w1.heap.size := (below_then HB hbw1).size
  have oas : ba < w1.heap.size := (ga.then_ hbw1).lt
  have obs : bb < w1.heap.size := (gb.then_ hbw1).lt
  have ocs : bc < w1.heap.size := (gc.then_ hbw1).lt
  have NB : Below w.heap.size w X3 := by rw [hX]; (repeat (first | with_reducible assumption | with_reducible exact Below.refl _ _ | with_reducible refine below_drewN ?_ _ | with_reducible refine Below.drew ?_ | with_reducible refine below_alloc ?_ _ | with_reducible refine Below.setCell ?_ (by first | omega | (simp; done) | (simp; omega)) _ | with_reducible refine below_then ?_ (by with_reducible assumption) | (refine below_then (a := World.drew _) ?_ (by with_reducible assumption))))
  clear hX ga gb gc HB
  obtain ⟨bs, eb⟩ : ∃ b, w1.heap.size = b := ⟨_, rfl⟩
  rw [eb] at ns ls oas obs ocs ⊢
  clear eb
  have ga := na
  clear na
  have gb := nb
  clear nb
  have gc := nc
  clear nc
  have gs := ns
  clear ns
  have HB := NB
  clear NB
  have hz := Below.refl X3.heap.size X3
  have ca0 : X3.cell? ⟨ba, 0, none⟩ = some (.int .i64 n1) := (ga).cell 0
  have ca1 : X3.cell? ⟨ba, 1, none⟩ = some (.int .i64 d1) := (ga).cell 1
  have cb0 : X3.cell? ⟨bb, 0, none⟩ = some (.int .i64 n2) := (gb).cell 0
  have cb1 : X3.cell? ⟨bb, 1, none⟩ = some (.int .i64 d2) := (gb).cell 1
  go_upto_region 6 with ((go_at_call 17; (with_reducible refine (HA21.out _).mono ?_); rintro e w1 ⟨rfl, hbw1⟩))
  clear HA21
  clear ca0 ca1 cb0 cb1
  refine name_wp ?_
  intro X4 hX
  have na : Blk X4 ba 25 #[.int .i64 n1, .int .i64 d1] := by rw [hX]; (repeat (first | with_reducible assumption | with_reducible exact Blk.new _ _ _ | with_reducible refine Blk.drew ?_ | with_reducible refine Blk.alloc ?_ _ | with_reducible refine Blk.drewN ?_ _ | with_reducible apply Blk.setT0 | with_reducible apply Blk.setT1 | with_reducible refine Blk.far ?_ (by first | (simp; done) | omega | (simp; omega)) _ | with_reducible refine Blk.then_ ?_ (by with_reducible assumption)))
  have nb : Blk X4 bb 25 #[.int .i64 n2, .int .i64 d2] := by rw [hX]; (repeat (first | with_reducible assumption | with_reducible exact Blk.new _ _ _ | with_reducible refine Blk.drew ?_ | with_reducible refine Blk.alloc ?_ _ | with_reducible refine Blk.drewN ?_ _ | with_reducible apply Blk.setT0 | with_reducible apply Blk.setT1 | with_reducible refine Blk.far ?_ (by first | (simp; done) | omega | (simp; omega)) _ | with_reducible refine Blk.then_ ?_ (by with_reducible assumption)))
  have nc : Blk X4 bc 25 #[.int .i64 n3, .int .i64 d3] := by rw [hX]; (repeat (first | with_reducible assumption | with_reducible exact Blk.new _ _ _ | with_reducible refine Blk.drew ?_ | with_reducible refine Blk.alloc ?_ _ | with_reducible refine Blk.drewN ?_ _ | with_reducible apply Blk.setT0 | with_reducible apply Blk.setT1 | with_reducible refine Blk.far ?_ (by first | (simp; done) | omega | (simp; omega)) _ | with_reducible refine Blk.then_ ?_ (by with_reducible assumption)))
  have ns : Blk X4 bs 25 #[.int .i64 sN, .int .i64 sD] := by rw [hX]; (repeat (first | with_reducible assumption | with_reducible exact Blk.new _ _ _ | with_reducible refine Blk.drew ?_ | with_reducible refine Blk.alloc ?_ _ | with_reducible refine Blk.drewN ?_ _ | with_reducible apply Blk.setT0 | with_reducible apply Blk.setT1 | with_reducible refine Blk.far ?_ (by first | (simp; done) | omega | (simp; omega)) _ | with_reducible refine Blk.then_ ?_ (by with_reducible assumption)))
  have nt : Blk X4 (w1.heap.size) 25 #[.int .i64 sN, .int .i64 sD] := by rw [hX]; exact Blk.new _ _ _
  have lt : w.heap.size ≤ w1.heap.size := (below_then HB hbw1).size
  have oat : ba < w1.heap.size := (ga.then_ hbw1).lt
  have obt : bb < w1.heap.size := (gb.then_ hbw1).lt
  have oct : bc < w1.heap.size := (gc.then_ hbw1).lt
  have ost : bs < w1.heap.size := (gs.then_ hbw1).lt
  have NB : Below w.heap.size w X4 := by rw [hX]; (repeat (first | with_reducible assumption | with_reducible exact Below.refl _ _ | with_reducible refine below_drewN ?_ _ | with_reducible refine Below.drew ?_ | with_reducible refine below_alloc ?_ _ | with_reducible refine Below.setCell ?_ (by first | omega | (simp; done) | (simp; omega)) _ | with_reducible refine below_then ?_ (by with_reducible assumption) | (refine below_then (a := World.drew _) ?_ (by with_reducible assumption))))
  clear hX ga gb gc gs HB
  obtain ⟨bt, eb⟩ : ∃ b, w1.heap.size = b := ⟨_, rfl⟩
  rw [eb] at nt lt oat obt oct ost ⊢
  clear eb
  have ga := na
  clear na
  have gb := nb
  clear nb
  have gc := nc
  clear nc
  have gs := ns
  clear ns
  have gt := nt
  clear nt
  have HB := NB
  clear NB
  have hz := Below.refl X4.heap.size X4
  have ca0 : X4.cell? ⟨ba, 0, none⟩ = some (.int .i64 n1) := (ga).cell 0
  have ca1 : X4.cell? ⟨ba, 1, none⟩ = some (.int .i64 d1) := (ga).cell 1
  have cb0 : X4.cell? ⟨bb, 0, none⟩ = some (.int .i64 n2) := (gb).cell 0
  have cb1 : X4.cell? ⟨bb, 1, none⟩ = some (.int .i64 d2) := (gb).cell 1
  go_upto_region 7 with ((go_at_call 18; (with_reducible refine (HM12.out _).mono ?_); rintro e w1 ⟨rfl, hbw1⟩))
  clear HM12
  clear ca0 ca1 cb0 cb1
  refine name_wp ?_
  intro X5 hX
  have na : Blk X5 ba 25 #[.int .i64 n1, .int .i64 d1] := by rw [hX]; (repeat (first | with_reducible assumption | with_reducible exact Blk.new _ _ _ | with_reducible refine Blk.drew ?_ | with_reducible refine Blk.alloc ?_ _ | with_reducible refine Blk.drewN ?_ _ | with_reducible apply Blk.setT0 | with_reducible apply Blk.setT1 | with_reducible refine Blk.far ?_ (by first | (simp; done) | omega | (simp; omega)) _ | with_reducible refine Blk.then_ ?_ (by with_reducible assumption)))
  have nb : Blk X5 bb 25 #[.int .i64 n2, .int .i64 d2] := by rw [hX]; (repeat (first | with_reducible assumption | with_reducible exact Blk.new _ _ _ | with_reducible refine Blk.drew ?_ | with_reducible refine Blk.alloc ?_ _ | with_reducible refine Blk.drewN ?_ _ | with_reducible apply Blk.setT0 | with_reducible apply Blk.setT1 | with_reducible refine Blk.far ?_ (by first | (simp; done) | omega | (simp; omega)) _ | with_reducible refine Blk.then_ ?_ (by with_reducible assumption)))
  have nc : Blk X5 bc 25 #[.int .i64 n3, .int .i64 d3] := by rw [hX]; (repeat (first | with_reducible assumption | with_reducible exact Blk.new _ _ _ | with_reducible refine Blk.drew ?_ | with_reducible refine Blk.alloc ?_ _ | with_reducible refine Blk.drewN ?_ _ | with_reducible apply Blk.setT0 | with_reducible apply Blk.setT1 | with_reducible refine Blk.far ?_ (by first | (simp; done) | omega | (simp; omega)) _ | with_reducible refine Blk.then_ ?_ (by with_reducible assumption)))
  have ns : Blk X5 bs 25 #[.int .i64 sN, .int .i64 sD] := by rw [hX]; (repeat (first | with_reducible assumption | with_reducible exact Blk.new _ _ _ | with_reducible refine Blk.drew ?_ | with_reducible refine Blk.alloc ?_ _ | with_reducible refine Blk.drewN ?_ _ | with_reducible apply Blk.setT0 | with_reducible apply Blk.setT1 | with_reducible refine Blk.far ?_ (by first | (simp; done) | omega | (simp; omega)) _ | with_reducible refine Blk.then_ ?_ (by with_reducible assumption)))
  have nt : Blk X5 bt 25 #[.int .i64 sN, .int .i64 sD] := by rw [hX]; (repeat (first | with_reducible assumption | with_reducible exact Blk.new _ _ _ | with_reducible refine Blk.drew ?_ | with_reducible refine Blk.alloc ?_ _ | with_reducible refine Blk.drewN ?_ _ | with_reducible apply Blk.setT0 | with_reducible apply Blk.setT1 | with_reducible refine Blk.far ?_ (by first | (simp; done) | omega | (simp; omega)) _ | with_reducible refine Blk.then_ ?_ (by with_reducible assumption)))
  have np : Blk X5 (w1.heap.size) 25 #[.int .i64 pN, .int .i64 pD] := by rw [hX]; exact Blk.new _ _ _
  have lp : w.heap.size ≤ w1.heap.size := (below_then HB hbw1).size
  have oap : ba < w1.heap.size := (ga.then_ hbw1).lt
  have obp : bb < w1.heap.size := (gb.then_ hbw1).lt
  have ocp : bc < w1.heap.size := (gc.then_ hbw1).lt
  have osp : bs < w1.heap.size := (gs.then_ hbw1).lt
  have otp : bt < w1.heap.size := (gt.then_ hbw1).lt
  have NB : Below w.heap.size w X5 := by rw [hX]; (repeat (first | with_reducible assumption | with_reducible exact Below.refl _ _ | with_reducible refine below_drewN ?_ _ | with_reducible refine Below.drew ?_ | with_reducible refine below_alloc ?_ _ | with_reducible refine Below.setCell ?_ (by first | omega | (simp; done) | (simp; omega)) _ | with_reducible refine below_then ?_ (by with_reducible assumption) | (refine below_then (a := World.drew _) ?_ (by with_reducible assumption))))
  clear hX ga gb gc gs gt HB
  obtain ⟨bp, eb⟩ : ∃ b, w1.heap.size = b := ⟨_, rfl⟩
  rw [eb] at np lp oap obp ocp osp otp ⊢
  clear eb
  have ga := na
  clear na
  have gb := nb
  clear nb
  have gc := nc
  clear nc
  have gs := ns
  clear ns
  have gt := nt
  clear nt
  have gp := np
  clear np
  have HB := NB
  clear NB
  have hz := Below.refl X5.heap.size X5
  have ca0 : X5.cell? ⟨ba, 0, none⟩ = some (.int .i64 n1) := (ga).cell 0
  have ca1 : X5.cell? ⟨ba, 1, none⟩ = some (.int .i64 d1) := (ga).cell 1
  have cb0 : X5.cell? ⟨bb, 0, none⟩ = some (.int .i64 n2) := (gb).cell 0
  have cb1 : X5.cell? ⟨bb, 1, none⟩ = some (.int .i64 d2) := (gb).cell 1
  go_upto_region 8 with ((go_at_call 18; (with_reducible refine (HM21.out _).mono ?_); rintro e w1 ⟨rfl, hbw1⟩))
  clear HM21
  clear ca0 ca1 cb0 cb1
  refine name_wp ?_
  intro X6 hX
  have na : Blk X6 ba 25 #[.int .i64 n1, .int .i64 d1] := by rw [hX]; (repeat (first | with_reducible assumption | with_reducible exact Blk.new _ _ _ | with_reducible refine Blk.drew ?_ | with_reducible refine Blk.alloc ?_ _ | with_reducible refine Blk.drewN ?_ _ | with_reducible apply Blk.setT0 | with_reducible apply Blk.setT1 | with_reducible refine Blk.far ?_ (by first | (simp; done) | omega | (simp; omega)) _ | with_reducible refine Blk.then_ ?_ (by with_reducible assumption)))
  have nb : Blk X6 bb 25 #[.int .i64 n2, .int .i64 d2] := by rw [hX]; (repeat (first | with_reducible assumption | with_reducible exact Blk.new _ _ _ | with_reducible refine Blk.drew ?_ | with_reducible refine Blk.alloc ?_ _ | with_reducible refine Blk.drewN ?_ _ | with_reducible apply Blk.setT0 | with_reducible apply Blk.setT1 | with_reducible refine Blk.far ?_ (by first | (simp; done) | omega | (simp; omega)) _ | with_reducible refine Blk.then_ ?_ (by with_reducible assumption)))
  have nc : Blk X6 bc 25 #[.int .i64 n3, .int .i64 d3] := by rw [hX]; (repeat (first | with_reducible assumption | with_reducible exact Blk.new _ _ _ | with_reducible refine Blk.drew ?_ | with_reducible refine Blk.alloc ?_ _ | with_reducible refine Blk.drewN ?_ _ | with_reducible apply Blk.setT0 | with_reducible apply Blk.setT1 | with_reducible refine Blk.far ?_ (by first | (simp; done) | omega | (simp; omega)) _ | with_reducible refine Blk.then_ ?_ (by with_reducible assumption)))
  have ns : Blk X6 bs 25 #[.int .i64 sN, .int .i64 sD] := by rw [hX]; (repeat (first | with_reducible assumption | with_reducible exact Blk.new _ _ _ | with_reducible refine Blk.drew ?_ | with_reducible refine Blk.alloc ?_ _ | with_reducible refine Blk.drewN ?_ _ | with_reducible apply Blk.setT0 | with_reducible apply Blk.setT1 | with_reducible refine Blk.far ?_ (by first | (simp; done) | omega | (simp; omega)) _ | with_reducible refine Blk.then_ ?_ (by with_reducible assumption)))
  have nt : Blk X6 bt 25 #[.int .i64 sN, .int .i64 sD] := by rw [hX]; (repeat (first | with_reducible assumption | with_reducible exact Blk.new _ _ _ | with_reducible refine Blk.drew ?_ | with_reducible refine Blk.alloc ?_ _ | with_reducible refine Blk.drewN ?_ _ | with_reducible apply Blk.setT0 | with_reducible apply Blk.setT1 | with_reducible refine Blk.far ?_ (by first | (simp; done) | omega | (simp; omega)) _ | with_reducible refine Blk.then_ ?_ (by with_reducible assumption)))
  have np : Blk X6 bp 25 #[.int .i64 pN, .int .i64 pD] := by rw [hX]; (repeat (first | with_reducible assumption | with_reducible exact Blk.new _ _ _ | with_reducible refine Blk.drew ?_ | with_reducible refine Blk.alloc ?_ _ | with_reducible refine Blk.drewN ?_ _ | with_reducible apply Blk.setT0 | with_reducible apply Blk.setT1 | with_reducible refine Blk.far ?_ (by first | (simp; done) | omega | (simp; omega)) _ | with_reducible refine Blk.then_ ?_ (by with_reducible assumption)))
  have nh : Blk X6 (w1.heap.size) 25 #[.int .i64 pN, .int .i64 pD] := by rw [hX]; exact Blk.new _ _ _
  have lh : w.heap.size ≤ w1.heap.size := (below_then HB hbw1).size
  have oah : ba < w1.heap.size := (ga.then_ hbw1).lt
  have obh : bb < w1.heap.size := (gb.then_ hbw1).lt
  have och : bc < w1.heap.size := (gc.then_ hbw1).lt
  have osh : bs < w1.heap.size := (gs.then_ hbw1).lt
  have oth : bt < w1.heap.size := (gt.then_ hbw1).lt
  have oph : bp < w1.heap.size := (gp.then_ hbw1).lt
  have NB : Below w.heap.size w X6 := by rw [hX]; (repeat (first | with_reducible assumption | with_reducible exact Below.refl _ _ | with_reducible refine below_drewN ?_ _ | with_reducible refine Below.drew ?_ | with_reducible refine below_alloc ?_ _ | with_reducible refine Below.setCell ?_ (by first | omega | (simp; done) | (simp; omega)) _ | with_reducible refine below_then ?_ (by with_reducible assumption) | (refine below_then (a := World.drew _) ?_ (by with_reducible assumption))))
  clear hX ga gb gc gs gt gp HB
  obtain ⟨bh, eb⟩ : ∃ b, w1.heap.size = b := ⟨_, rfl⟩
  rw [eb] at nh lh oah obh och osh oth oph ⊢
  clear eb
  have ga := na
  clear na
  have gb := nb
  clear nb
  have gc := nc
  clear nc
  have gs := ns
  clear ns
  have gt := nt
  clear nt
  have gp := np
  clear np
  have gh := nh
  clear nh
  have HB := NB
  clear NB
  have hz := Below.refl X6.heap.size X6
  have cs0 : X6.cell? ⟨bs, 0, none⟩ = some (.int .i64 sN) := (gs).cell 0
  have cs1 : X6.cell? ⟨bs, 1, none⟩ = some (.int .i64 sD) := (gs).cell 1
  have ct0 : X6.cell? ⟨bt, 0, none⟩ = some (.int .i64 sN) := (gt).cell 0
  have ct1 : X6.cell? ⟨bt, 1, none⟩ = some (.int .i64 sD) := (gt).cell 1
  have cp0 : X6.cell? ⟨bp, 0, none⟩ = some (.int .i64 pN) := (gp).cell 0
  have cp1 : X6.cell? ⟨bp, 1, none⟩ = some (.int .i64 pD) := (gp).cell 1
  have ch0 : X6.cell? ⟨bh, 0, none⟩ = some (.int .i64 pN) := (gh).cell 0
  have ch1 : X6.cell? ⟨bh, 1, none⟩ = some (.int .i64 pD) := (gh).cell 1
  have heq1 := fun W => eqv_yes sN sD W
  have heq2 := fun W => eqv_yes pN pD W
  go_upto_region 10 with (fail)
  clear heq1 heq2
  clear cs0 cs1 ct0 ct1 cp0 cp1 ch0 ch1
  refine name_wp ?_
  intro X7 hX
  have na : Blk X7 ba 25 #[.int .i64 n1, .int .i64 d1] := by rw [hX]; (repeat (first | with_reducible assumption | with_reducible exact Blk.new _ _ _ | with_reducible refine Blk.drew ?_ | with_reducible refine Blk.alloc ?_ _ | with_reducible refine Blk.drewN ?_ _ | with_reducible apply Blk.setT0 | with_reducible apply Blk.setT1 | with_reducible refine Blk.far ?_ (by first | (simp; done) | omega | (simp; omega)) _ | with_reducible refine Blk.then_ ?_ (by with_reducible assumption)))
  have nb : Blk X7 bb 25 #[.int .i64 n2, .int .i64 d2] := by rw [hX]; (repeat (first | with_reducible assumption | with_reducible exact Blk.new _ _ _ | with_reducible refine Blk.drew ?_ | with_reducible refine Blk.alloc ?_ _ | with_reducible refine Blk.drewN ?_ _ | with_reducible apply Blk.setT0 | with_reducible apply Blk.setT1 | with_reducible refine Blk.far ?_ (by first | (simp; done) | omega | (simp; omega)) _ | with_reducible refine Blk.then_ ?_ (by with_reducible assumption)))
  have nc : Blk X7 bc 25 #[.int .i64 n3, .int .i64 d3] := by rw [hX]; (repeat (first | with_reducible assumption | with_reducible exact Blk.new _ _ _ | with_reducible refine Blk.drew ?_ | with_reducible refine Blk.alloc ?_ _ | with_reducible refine Blk.drewN ?_ _ | with_reducible apply Blk.setT0 | with_reducible apply Blk.setT1 | with_reducible refine Blk.far ?_ (by first | (simp; done) | omega | (simp; omega)) _ | with_reducible refine Blk.then_ ?_ (by with_reducible assumption)))
  have ns : Blk X7 bs 25 #[.int .i64 sN, .int .i64 sD] := by rw [hX]; (repeat (first | with_reducible assumption | with_reducible exact Blk.new _ _ _ | with_reducible refine Blk.drew ?_ | with_reducible refine Blk.alloc ?_ _ | with_reducible refine Blk.drewN ?_ _ | with_reducible apply Blk.setT0 | with_reducible apply Blk.setT1 | with_reducible refine Blk.far ?_ (by first | (simp; done) | omega | (simp; omega)) _ | with_reducible refine Blk.then_ ?_ (by with_reducible assumption)))
  have np : Blk X7 bp 25 #[.int .i64 pN, .int .i64 pD] := by rw [hX]; (repeat (first | with_reducible assumption | with_reducible exact Blk.new _ _ _ | with_reducible refine Blk.drew ?_ | with_reducible refine Blk.alloc ?_ _ | with_reducible refine Blk.drewN ?_ _ | with_reducible apply Blk.setT0 | with_reducible apply Blk.setT1 | with_reducible refine Blk.far ?_ (by first | (simp; done) | omega | (simp; omega)) _ | with_reducible refine Blk.then_ ?_ (by with_reducible assumption)))
  have NB : Below w.heap.size w X7 := by rw [hX]; (repeat (first | with_reducible assumption | with_reducible exact Below.refl _ _ | with_reducible refine below_drewN ?_ _ | with_reducible refine Below.drew ?_ | with_reducible refine below_alloc ?_ _ | with_reducible refine Below.setCell ?_ (by first | omega | (simp; done) | (simp; omega)) _ | with_reducible refine below_then ?_ (by with_reducible assumption) | (refine below_then (a := World.drew _) ?_ (by with_reducible assumption))))
  clear hX ga gb gc gs gt gp gh HB
  have ga := na
  clear na
  have gb := nb
  clear nb
  have gc := nc
  clear nc
  have gs := ns
  clear ns
  have gp := np
  clear np
  have HB := NB
  clear NB
  have hz := Below.refl X7.heap.size X7
  have HCC : ∃ c : Bool, Hid (c = decide (sE = 0)) := ⟨_, rfl⟩
  obtain ⟨c, HCC⟩ := HCC
  have ca0 : X7.cell? ⟨ba, 0, none⟩ = some (.int .i64 n1) := (ga).cell 0
  have ca1 : X7.cell? ⟨ba, 1, none⟩ = some (.int .i64 d1) := (ga).cell 1
  have cb0 : X7.cell? ⟨bb, 0, none⟩ = some (.int .i64 n2) := (gb).cell 0
  have cb1 : X7.cell? ⟨bb, 1, none⟩ = some (.int .i64 d2) := (gb).cell 1
  have cc0 : X7.cell? ⟨bc, 0, none⟩ = some (.int .i64 n3) := (gc).cell 0
  have cc1 : X7.cell? ⟨bc, 1, none⟩ = some (.int .i64 d3) := (gc).cell 1
  have cs0 : X7.cell? ⟨bs, 0, none⟩ = some (.int .i64 sN) := (gs).cell 0
  have cs1 : X7.cell? ⟨bs, 1, none⟩ = some (.int .i64 sD) := (gs).cell 1
  have cp0 : X7.cell? ⟨bp, 0, none⟩ = some (.int .i64 pN) := (gp).cell 0
  have cp1 : X7.cell? ⟨bp, 1, none⟩ = some (.int .i64 pD) := (gp).cell 1
  go_upto_region 10 with (fail)
  clear ca0 ca1 cb0 cb1 cc0 cc1 cs0 cs1 cp0 cp1
  go_cut [96] from 95 to 96 (fun v96 W => v96 = .bool c ∧ Blk W ba 25 #[.int .i64 n1, .int .i64 d1] ∧ Blk W bb 25 #[.int .i64 n2, .int .i64 d2] ∧ Blk W bc 25 #[.int .i64 n3, .int .i64 d3] ∧ Blk W bs 25 #[.int .i64 sN, .int .i64 sD] ∧ Blk W bp 25 #[.int .i64 pN, .int .i64 pD] ∧ Below w.heap.size w W)
  case first =>
    by_cases h2 : sE = 0
    · have th2a : (sE == 0) = true := by simp [h2]
      have th2b : (sE != 0) = false := by simp [h2]
      have hcv : c = true := by rw [HCC.out]; simp [h2]
      clear h2
      have ca0 : X7.cell? ⟨ba, 0, none⟩ = some (.int .i64 n1) := (ga).cell 0
      have ca1 : X7.cell? ⟨ba, 1, none⟩ = some (.int .i64 d1) := (ga).cell 1
      have cb0 : X7.cell? ⟨bb, 0, none⟩ = some (.int .i64 n2) := (gb).cell 0
      have cb1 : X7.cell? ⟨bb, 1, none⟩ = some (.int .i64 d2) := (gb).cell 1
      have cc0 : X7.cell? ⟨bc, 0, none⟩ = some (.int .i64 n3) := (gc).cell 0
      have cc1 : X7.cell? ⟨bc, 1, none⟩ = some (.int .i64 d3) := (gc).cell 1
      have cs0 : X7.cell? ⟨bs, 0, none⟩ = some (.int .i64 sN) := (gs).cell 0
      have cs1 : X7.cell? ⟨bs, 1, none⟩ = some (.int .i64 sD) := (gs).cell 1
      have cp0 : X7.cell? ⟨bp, 0, none⟩ = some (.int .i64 pN) := (gp).cell 0
      have cp1 : X7.cell? ⟨bp, 1, none⟩ = some (.int .i64 pD) := (gp).cell 1
      go_wp2
      go_meet
      case rel => exact ⟨by first | (rw [hcv]; done) | (rw [hcv]; rfl) | simp [hcv, *], by (repeat (first | with_reducible assumption | with_reducible exact Blk.new _ _ _ | with_reducible refine Blk.drew ?_ | with_reducible refine Blk.alloc ?_ _ | with_reducible refine Blk.drewN ?_ _ | with_reducible apply Blk.setT0 | with_reducible apply Blk.setT1 | with_reducible refine Blk.far ?_ (by first | (simp; done) | omega | (simp; omega)) _ | with_reducible refine Blk.then_ ?_ (by with_reducible assumption))), by (repeat (first | with_reducible assumption | with_reducible exact Blk.new _ _ _ | with_reducible refine Blk.drew ?_ | with_reducible refine Blk.alloc ?_ _ | with_reducible refine Blk.drewN ?_ _ | with_reducible apply Blk.setT0 | with_reducible apply Blk.setT1 | with_reducible refine Blk.far ?_ (by first | (simp; done) | omega | (simp; omega)) _ | with_reducible refine Blk.then_ ?_ (by with_reducible assumption))), by (repeat (first | with_reducible assumption | with_reducible exact Blk.new _ _ _ | with_reducible refine Blk.drew ?_ | with_reducible refine Blk.alloc ?_ _ | with_reducible refine Blk.drewN ?_ _ | with_reducible apply Blk.setT0 | with_reducible apply Blk.setT1 | with_reducible refine Blk.far ?_ (by first | (simp; done) | omega | (simp; omega)) _ | with_reducible refine Blk.then_ ?_ (by with_reducible assumption))), by (repeat (first | with_reducible assumption | with_reducible exact Blk.new _ _ _ | with_reducible refine Blk.drew ?_ | with_reducible refine Blk.alloc ?_ _ | with_reducible refine Blk.drewN ?_ _ | with_reducible apply Blk.setT0 | with_reducible apply Blk.setT1 | with_reducible refine Blk.far ?_ (by first | (simp; done) | omega | (simp; omega)) _ | with_reducible refine Blk.then_ ?_ (by with_reducible assumption))), by (repeat (first | with_reducible assumption | with_reducible exact Blk.new _ _ _ | with_reducible refine Blk.drew ?_ | with_reducible refine Blk.alloc ?_ _ | with_reducible refine Blk.drewN ?_ _ | with_reducible apply Blk.setT0 | with_reducible apply Blk.setT1 | with_reducible refine Blk.far ?_ (by first | (simp; done) | omega | (simp; omega)) _ | with_reducible refine Blk.then_ ?_ (by with_reducible assumption))), by (repeat (first | with_reducible assumption | with_reducible exact Below.refl _ _ | with_reducible refine below_drewN ?_ _ | with_reducible refine Below.drew ?_ | with_reducible refine below_alloc ?_ _ | with_reducible refine Below.setCell ?_ (by first | omega | (simp; done) | (simp; omega)) _ | with_reducible refine below_then ?_ (by with_reducible assumption) | (refine below_then (a := World.drew _) ?_ (by with_reducible assumption))))⟩
    · have th2a : (sE == 0) = false := by simp [h2]
      have th2b : (sE != 0) = true := by simp [h2]
      have hcv : c = false := by rw [HCC.out]; simp [h2]
      clear h2
      have ca0 : X7.cell? ⟨ba, 0, none⟩ = some (.int .i64 n1) := (ga).cell 0
      have ca1 : X7.cell? ⟨ba, 1, none⟩ = some (.int .i64 d1) := (ga).cell 1
      have cb0 : X7.cell? ⟨bb, 0, none⟩ = some (.int .i64 n2) := (gb).cell 0
      have cb1 : X7.cell? ⟨bb, 1, none⟩ = some (.int .i64 d2) := (gb).cell 1
      have cc0 : X7.cell? ⟨bc, 0, none⟩ = some (.int .i64 n3) := (gc).cell 0
      have cc1 : X7.cell? ⟨bc, 1, none⟩ = some (.int .i64 d3) := (gc).cell 1
      have cs0 : X7.cell? ⟨bs, 0, none⟩ = some (.int .i64 sN) := (gs).cell 0
      have cs1 : X7.cell? ⟨bs, 1, none⟩ = some (.int .i64 sD) := (gs).cell 1
      have cp0 : X7.cell? ⟨bp, 0, none⟩ = some (.int .i64 pN) := (gp).cell 0
      have cp1 : X7.cell? ⟨bp, 1, none⟩ = some (.int .i64 pD) := (gp).cell 1
      go_wp2
      go_meet
      case rel => exact ⟨by first | (rw [hcv]; done) | (rw [hcv]; rfl) | simp [hcv, *], by (repeat (first | with_reducible assumption | with_reducible exact Blk.new _ _ _ | with_reducible refine Blk.drew ?_ | with_reducible refine Blk.alloc ?_ _ | with_reducible refine Blk.drewN ?_ _ | with_reducible apply Blk.setT0 | with_reducible apply Blk.setT1 | with_reducible refine Blk.far ?_ (by first | (simp; done) | omega | (simp; omega)) _ | with_reducible refine Blk.then_ ?_ (by with_reducible assumption))), by (repeat (first | with_reducible assumption | with_reducible exact Blk.new _ _ _ | with_reducible refine Blk.drew ?_ | with_reducible refine Blk.alloc ?_ _ | with_reducible refine Blk.drewN ?_ _ | with_reducible apply Blk.setT0 | with_reducible apply Blk.setT1 | with_reducible refine Blk.far ?_ (by first | (simp; done) | omega | (simp; omega)) _ | with_reducible refine Blk.then_ ?_ (by with_reducible assumption))), by (repeat (first | with_reducible assumption | with_reducible exact Blk.new _ _ _ | with_reducible refine Blk.drew ?_ | with_reducible refine Blk.alloc ?_ _ | with_reducible refine Blk.drewN ?_ _ | with_reducible apply Blk.setT0 | with_reducible apply Blk.setT1 | with_reducible refine Blk.far ?_ (by first | (simp; done) | omega | (simp; omega)) _ | with_reducible refine Blk.then_ ?_ (by with_reducible assumption))), by (repeat (first | with_reducible assumption | with_reducible exact Blk.new _ _ _ | with_reducible refine Blk.drew ?_ | with_reducible refine Blk.alloc ?_ _ | with_reducible refine Blk.drewN ?_ _ | with_reducible apply Blk.setT0 | with_reducible apply Blk.setT1 | with_reducible refine Blk.far ?_ (by first | (simp; done) | omega | (simp; omega)) _ | with_reducible refine Blk.then_ ?_ (by with_reducible assumption))), by (repeat (first | with_reducible assumption | with_reducible exact Blk.new _ _ _ | with_reducible refine Blk.drew ?_ | with_reducible refine Blk.alloc ?_ _ | with_reducible refine Blk.drewN ?_ _ | with_reducible apply Blk.setT0 | with_reducible apply Blk.setT1 | with_reducible refine Blk.far ?_ (by first | (simp; done) | omega | (simp; omega)) _ | with_reducible refine Blk.then_ ?_ (by with_reducible assumption))), by (repeat (first | with_reducible assumption | with_reducible exact Below.refl _ _ | with_reducible refine below_drewN ?_ _ | with_reducible refine Below.drew ?_ | with_reducible refine below_alloc ?_ _ | with_reducible refine Below.setCell ?_ (by first | omega | (simp; done) | (simp; omega)) _ | with_reducible refine below_then ?_ (by with_reducible assumption) | (refine below_then (a := World.drew _) ?_ (by with_reducible assumption))))⟩
  case rest =>
    obtain ⟨hv96, ga', gb', gc', gs', gp', HB'⟩ := hcut
    subst hv96
    clear ga gb gc gs gp HB
    have ga := ga'
    clear ga'
    have gb := gb'
    clear gb'
    have gc := gc'
    clear gc'
    have gs := gs'
    clear gs'
    have gp := gp'
    clear gp'
    have HB := HB'
    clear HB'
    obtain ⟨X8, hX⟩ : ∃ x, x = wc := ⟨_, rfl⟩
    subst hX
    have hz := Below.refl X8.heap.size X8
    go_upto_if 96 with (fail)
    go_cut [] from 95 to 109 (fun W => Blk W ba 25 #[.int .i64 n1, .int .i64 d1] ∧ Blk W bb 25 #[.int .i64 n2, .int .i64 d2] ∧ Blk W bc 25 #[.int .i64 n3, .int .i64 d3] ∧ Blk W bs 25 #[.int .i64 sN, .int .i64 sD] ∧ Blk W bp 25 #[.int .i64 pN, .int .i64 pD] ∧ Below w.heap.size w W)
    case first =>
      cases c with
      | false =>
        have ca0 : X8.cell? ⟨ba, 0, none⟩ = some (.int .i64 n1) := (ga).cell 0
        have ca1 : X8.cell? ⟨ba, 1, none⟩ = some (.int .i64 d1) := (ga).cell 1
        have cb0 : X8.cell? ⟨bb, 0, none⟩ = some (.int .i64 n2) := (gb).cell 0
        have cb1 : X8.cell? ⟨bb, 1, none⟩ = some (.int .i64 d2) := (gb).cell 1
        have cc0 : X8.cell? ⟨bc, 0, none⟩ = some (.int .i64 n3) := (gc).cell 0
        have cc1 : X8.cell? ⟨bc, 1, none⟩ = some (.int .i64 d3) := (gc).cell 1
        have cs0 : X8.cell? ⟨bs, 0, none⟩ = some (.int .i64 sN) := (gs).cell 0
        have cs1 : X8.cell? ⟨bs, 1, none⟩ = some (.int .i64 sD) := (gs).cell 1
        have cp0 : X8.cell? ⟨bp, 0, none⟩ = some (.int .i64 pN) := (gp).cell 0
        have cp1 : X8.cell? ⟨bp, 1, none⟩ = some (.int .i64 pD) := (gp).cell 1
        go_wp2
        go_meet
        case rel => exact ⟨by (repeat (first | with_reducible assumption | with_reducible exact Blk.new _ _ _ | with_reducible refine Blk.drew ?_ | with_reducible refine Blk.alloc ?_ _ | with_reducible refine Blk.drewN ?_ _ | with_reducible apply Blk.setT0 | with_reducible apply Blk.setT1 | with_reducible refine Blk.far ?_ (by first | (simp; done) | omega | (simp; omega)) _ | with_reducible refine Blk.then_ ?_ (by with_reducible assumption))), by (repeat (first | with_reducible assumption | with_reducible exact Blk.new _ _ _ | with_reducible refine Blk.drew ?_ | with_reducible refine Blk.alloc ?_ _ | with_reducible refine Blk.drewN ?_ _ | with_reducible apply Blk.setT0 | with_reducible apply Blk.setT1 | with_reducible refine Blk.far ?_ (by first | (simp; done) | omega | (simp; omega)) _ | with_reducible refine Blk.then_ ?_ (by with_reducible assumption))), by (repeat (first | with_reducible assumption | with_reducible exact Blk.new _ _ _ | with_reducible refine Blk.drew ?_ | with_reducible refine Blk.alloc ?_ _ | with_reducible refine Blk.drewN ?_ _ | with_reducible apply Blk.setT0 | with_reducible apply Blk.setT1 | with_reducible refine Blk.far ?_ (by first | (simp; done) | omega | (simp; omega)) _ | with_reducible refine Blk.then_ ?_ (by with_reducible assumption))), by (repeat (first | with_reducible assumption | with_reducible exact Blk.new _ _ _ | with_reducible refine Blk.drew ?_ | with_reducible refine Blk.alloc ?_ _ | with_reducible refine Blk.drewN ?_ _ | with_reducible apply Blk.setT0 | with_reducible apply Blk.setT1 | with_reducible refine Blk.far ?_ (by first | (simp; done) | omega | (simp; omega)) _ | with_reducible refine Blk.then_ ?_ (by with_reducible assumption))), by (repeat (first | with_reducible assumption | with_reducible exact Blk.new _ _ _ | with_reducible refine Blk.drew ?_ | with_reducible refine Blk.alloc ?_ _ | with_reducible refine Blk.drewN ?_ _ | with_reducible apply Blk.setT0 | with_reducible apply Blk.setT1 | with_reducible refine Blk.far ?_ (by first | (simp; done) | omega | (simp; omega)) _ | with_reducible refine Blk.then_ ?_ (by with_reducible assumption))), by (repeat (first | with_reducible assumption | with_reducible exact Below.refl _ _ | with_reducible refine below_drewN ?_ _ | with_reducible refine Below.drew ?_ | with_reducible refine below_alloc ?_ _ | with_reducible refine Below.setCell ?_ (by first | omega | (simp; done) | (simp; omega)) _ | with_reducible refine below_then ?_ (by with_reducible assumption) | (refine below_then (a := World.drew _) ?_ (by with_reducible assumption))))⟩
      | true =>
        have h0 := of_decide_eq_true HCC.out.symm
        have HS' := Lib.hid (fun W => HS.out W h0)
        clear h0
        have cs0 : X8.cell? ⟨bs, 0, none⟩ = some (.int .i64 sN) := (gs).cell 0
        have cs1 : X8.cell? ⟨bs, 1, none⟩ = some (.int .i64 sD) := (gs).cell 1
        have cb0 : X8.cell? ⟨bb, 0, none⟩ = some (.int .i64 n2) := (gb).cell 0
        have cb1 : X8.cell? ⟨bb, 1, none⟩ = some (.int .i64 d2) := (gb).cell 1
        go_upto_region 12 with ((go_at_call 28; (with_reducible refine (HS'.out _).mono ?_); rintro e w1 ⟨rfl, hbw1⟩))
        clear cs0 cs1 cb0 cb1
        refine name_wp ?_
        intro X9 hX
        have na : Blk X9 ba 25 #[.int .i64 n1, .int .i64 d1] := by rw [hX]; (repeat (first | with_reducible assumption | with_reducible exact Blk.new _ _ _ | with_reducible refine Blk.drew ?_ | with_reducible refine Blk.alloc ?_ _ | with_reducible refine Blk.drewN ?_ _ | with_reducible apply Blk.setT0 | with_reducible apply Blk.setT1 | with_reducible refine Blk.far ?_ (by first | (simp; done) | omega | (simp; omega)) _ | with_reducible refine Blk.then_ ?_ (by with_reducible assumption)))
        have nb : Blk X9 bb 25 #[.int .i64 n2, .int .i64 d2] := by rw [hX]; (repeat (first | with_reducible assumption | with_reducible exact Blk.new _ _ _ | with_reducible refine Blk.drew ?_ | with_reducible refine Blk.alloc ?_ _ | with_reducible refine Blk.drewN ?_ _ | with_reducible apply Blk.setT0 | with_reducible apply Blk.setT1 | with_reducible refine Blk.far ?_ (by first | (simp; done) | omega | (simp; omega)) _ | with_reducible refine Blk.then_ ?_ (by with_reducible assumption)))
        have nc : Blk X9 bc 25 #[.int .i64 n3, .int .i64 d3] := by rw [hX]; (repeat (first | with_reducible assumption | with_reducible exact Blk.new _ _ _ | with_reducible refine Blk.drew ?_ | with_reducible refine Blk.alloc ?_ _ | with_reducible refine Blk.drewN ?_ _ | with_reducible apply Blk.setT0 | with_reducible apply Blk.setT1 | with_reducible refine Blk.far ?_ (by first | (simp; done) | omega | (simp; omega)) _ | with_reducible refine Blk.then_ ?_ (by with_reducible assumption)))
        have ns : Blk X9 bs 25 #[.int .i64 sN, .int .i64 sD] := by rw [hX]; (repeat (first | with_reducible assumption | with_reducible exact Blk.new _ _ _ | with_reducible refine Blk.drew ?_ | with_reducible refine Blk.alloc ?_ _ | with_reducible refine Blk.drewN ?_ _ | with_reducible apply Blk.setT0 | with_reducible apply Blk.setT1 | with_reducible refine Blk.far ?_ (by first | (simp; done) | omega | (simp; omega)) _ | with_reducible refine Blk.then_ ?_ (by with_reducible assumption)))
        have np : Blk X9 bp 25 #[.int .i64 pN, .int .i64 pD] := by rw [hX]; (repeat (first | with_reducible assumption | with_reducible exact Blk.new _ _ _ | with_reducible refine Blk.drew ?_ | with_reducible refine Blk.alloc ?_ _ | with_reducible refine Blk.drewN ?_ _ | with_reducible apply Blk.setT0 | with_reducible apply Blk.setT1 | with_reducible refine Blk.far ?_ (by first | (simp; done) | omega | (simp; omega)) _ | with_reducible refine Blk.then_ ?_ (by with_reducible assumption)))
        have nk : Blk X9 (w1.heap.size) 25 #[.int .i64 n1, .int .i64 d1] := by rw [hX]; exact Blk.new _ _ _
        have lk : w.heap.size ≤ w1.heap.size := (below_then HB hbw1).size
        have oak : ba < w1.heap.size := (ga.then_ hbw1).lt
        have obk : bb < w1.heap.size := (gb.then_ hbw1).lt
        have ock : bc < w1.heap.size := (gc.then_ hbw1).lt
        have osk : bs < w1.heap.size := (gs.then_ hbw1).lt
        have opk : bp < w1.heap.size := (gp.then_ hbw1).lt
        have NB : Below w.heap.size w X9 := by rw [hX]; (repeat (first | with_reducible assumption | with_reducible exact Below.refl _ _ | with_reducible refine below_drewN ?_ _ | with_reducible refine Below.drew ?_ | with_reducible refine below_alloc ?_ _ | with_reducible refine Below.setCell ?_ (by first | omega | (simp; done) | (simp; omega)) _ | with_reducible refine below_then ?_ (by with_reducible assumption) | (refine below_then (a := World.drew _) ?_ (by with_reducible assumption))))
        clear hX ga gb gc gs gp HB
        obtain ⟨bk, eb⟩ : ∃ b, w1.heap.size = b := ⟨_, rfl⟩
        rw [eb] at nk lk oak obk ock osk opk ⊢
        clear eb
        have ga := na
        clear na
        have gb := nb
        clear nb
        have gc := nc
        clear nc
        have gs := ns
        clear ns
        have gp := np
        clear np
        have gk := nk
        clear nk
        have HB := NB
        clear NB
        have hz := Below.refl X9.heap.size X9
        have heq := fun W => eqv_yes n1 d1 W
        have ca0 : X9.cell? ⟨ba, 0, none⟩ = some (.int .i64 n1) := (ga).cell 0
        have ca1 : X9.cell? ⟨ba, 1, none⟩ = some (.int .i64 d1) := (ga).cell 1
        have cb0 : X9.cell? ⟨bb, 0, none⟩ = some (.int .i64 n2) := (gb).cell 0
        have cb1 : X9.cell? ⟨bb, 1, none⟩ = some (.int .i64 d2) := (gb).cell 1
        have cc0 : X9.cell? ⟨bc, 0, none⟩ = some (.int .i64 n3) := (gc).cell 0
        have cc1 : X9.cell? ⟨bc, 1, none⟩ = some (.int .i64 d3) := (gc).cell 1
        have cs0 : X9.cell? ⟨bs, 0, none⟩ = some (.int .i64 sN) := (gs).cell 0
        have cs1 : X9.cell? ⟨bs, 1, none⟩ = some (.int .i64 sD) := (gs).cell 1
        have cp0 : X9.cell? ⟨bp, 0, none⟩ = some (.int .i64 pN) := (gp).cell 0
        have cp1 : X9.cell? ⟨bp, 1, none⟩ = some (.int .i64 pD) := (gp).cell 1
        have ck0 : X9.cell? ⟨bk, 0, none⟩ = some (.int .i64 n1) := (gk).cell 0
        have ck1 : X9.cell? ⟨bk, 1, none⟩ = some (.int .i64 d1) := (gk).cell 1
        go_wp2
        go_meet
        case rel => exact ⟨by (repeat (first | with_reducible assumption | with_reducible exact Blk.new _ _ _ | with_reducible refine Blk.drew ?_ | with_reducible refine Blk.alloc ?_ _ | with_reducible refine Blk.drewN ?_ _ | with_reducible apply Blk.setT0 | with_reducible apply Blk.setT1 | with_reducible refine Blk.far ?_ (by first | (simp; done) | omega | (simp; omega)) _ | with_reducible refine Blk.then_ ?_ (by with_reducible assumption))), by (repeat (first | with_reducible assumption | with_reducible exact Blk.new _ _ _ | with_reducible refine Blk.drew ?_ | with_reducible refine Blk.alloc ?_ _ | with_reducible refine Blk.drewN ?_ _ | with_reducible apply Blk.setT0 | with_reducible apply Blk.setT1 | with_reducible refine Blk.far ?_ (by first | (simp; done) | omega | (simp; omega)) _ | with_reducible refine Blk.then_ ?_ (by with_reducible assumption))), by (repeat (first | with_reducible assumption | with_reducible exact Blk.new _ _ _ | with_reducible refine Blk.drew ?_ | with_reducible refine Blk.alloc ?_ _ | with_reducible refine Blk.drewN ?_ _ | with_reducible apply Blk.setT0 | with_reducible apply Blk.setT1 | with_reducible refine Blk.far ?_ (by first | (simp; done) | omega | (simp; omega)) _ | with_reducible refine Blk.then_ ?_ (by with_reducible assumption))), by (repeat (first | with_reducible assumption | with_reducible exact Blk.new _ _ _ | with_reducible refine Blk.drew ?_ | with_reducible refine Blk.alloc ?_ _ | with_reducible refine Blk.drewN ?_ _ | with_reducible apply Blk.setT0 | with_reducible apply Blk.setT1 | with_reducible refine Blk.far ?_ (by first | (simp; done) | omega | (simp; omega)) _ | with_reducible refine Blk.then_ ?_ (by with_reducible assumption))), by (repeat (first | with_reducible assumption | with_reducible exact Blk.new _ _ _ | with_reducible refine Blk.drew ?_ | with_reducible refine Blk.alloc ?_ _ | with_reducible refine Blk.drewN ?_ _ | with_reducible apply Blk.setT0 | with_reducible apply Blk.setT1 | with_reducible refine Blk.far ?_ (by first | (simp; done) | omega | (simp; omega)) _ | with_reducible refine Blk.then_ ?_ (by with_reducible assumption))), by (repeat (first | with_reducible assumption | with_reducible exact Below.refl _ _ | with_reducible refine below_drewN ?_ _ | with_reducible refine Below.drew ?_ | with_reducible refine below_alloc ?_ _ | with_reducible refine Below.setCell ?_ (by first | omega | (simp; done) | (simp; omega)) _ | with_reducible refine below_then ?_ (by with_reducible assumption) | (refine below_then (a := World.drew _) ?_ (by with_reducible assumption))))⟩
    case rest =>
      obtain ⟨ga', gb', gc', gs', gp', HB'⟩ := hcut
      clear ga gb gc gs gp HB
      have ga := ga'
      clear ga'
      have gb := gb'
      clear gb'
      have gc := gc'
      clear gc'
      have gs := gs'
      clear gs'
      have gp := gp'
      clear gp'
      have HB := HB'
      clear HB'
      obtain ⟨X9, hX⟩ : ∃ x, x = wc := ⟨_, rfl⟩
      subst hX
      have hz := Below.refl X9.heap.size X9
      clear HCC
      clear HS
      have HCC : ∃ c : Bool, Hid (c = decide (pE = 0 ∧ n2 ≠ 0)) := ⟨_, rfl⟩
      obtain ⟨c, HCC⟩ := HCC
      have ca0 : X9.cell? ⟨ba, 0, none⟩ = some (.int .i64 n1) := (ga).cell 0
      have ca1 : X9.cell? ⟨ba, 1, none⟩ = some (.int .i64 d1) := (ga).cell 1
      have cb0 : X9.cell? ⟨bb, 0, none⟩ = some (.int .i64 n2) := (gb).cell 0
      have cb1 : X9.cell? ⟨bb, 1, none⟩ = some (.int .i64 d2) := (gb).cell 1
      have cc0 : X9.cell? ⟨bc, 0, none⟩ = some (.int .i64 n3) := (gc).cell 0
      have cc1 : X9.cell? ⟨bc, 1, none⟩ = some (.int .i64 d3) := (gc).cell 1
      have cs0 : X9.cell? ⟨bs, 0, none⟩ = some (.int .i64 sN) := (gs).cell 0
      have cs1 : X9.cell? ⟨bs, 1, none⟩ = some (.int .i64 sD) := (gs).cell 1
      have cp0 : X9.cell? ⟨bp, 0, none⟩ = some (.int .i64 pN) := (gp).cell 0
      have cp1 : X9.cell? ⟨bp, 1, none⟩ = some (.int .i64 pD) := (gp).cell 1
      go_upto_region 14 with (fail)
      clear ca0 ca1 cb0 cb1 cc0 cc1 cs0 cs1 cp0 cp1
      go_cut [116] from 110 to 116 (fun v116 W => v116 = .bool c ∧ Blk W ba 25 #[.int .i64 n1, .int .i64 d1] ∧ Blk W bb 25 #[.int .i64 n2, .int .i64 d2] ∧ Blk W bc 25 #[.int .i64 n3, .int .i64 d3] ∧ Blk W bs 25 #[.int .i64 sN, .int .i64 sD] ∧ Blk W bp 25 #[.int .i64 pN, .int .i64 pD] ∧ Below w.heap.size w W)
      case first =>
        by_cases h4 : pE = 0
        · have th4a : (pE == 0) = true := by simp [h4]
          have th4b : (pE != 0) = false := by simp [h4]
          by_cases h5 : n2 = 0
          · have th5a : (n2 == 0) = true := by simp [h5]
            have th5b : (n2 != 0) = false := by simp [h5]
            have hcv : c = false := by rw [HCC.out]; simp [h4, h5]
            clear h4 h5
            have ca0 : X9.cell? ⟨ba, 0, none⟩ = some (.int .i64 n1) := (ga).cell 0
            have ca1 : X9.cell? ⟨ba, 1, none⟩ = some (.int .i64 d1) := (ga).cell 1
            have cb0 : X9.cell? ⟨bb, 0, none⟩ = some (.int .i64 n2) := (gb).cell 0
            have cb1 : X9.cell? ⟨bb, 1, none⟩ = some (.int .i64 d2) := (gb).cell 1
            have cc0 : X9.cell? ⟨bc, 0, none⟩ = some (.int .i64 n3) := (gc).cell 0
            have cc1 : X9.cell? ⟨bc, 1, none⟩ = some (.int .i64 d3) := (gc).cell 1
            have cs0 : X9.cell? ⟨bs, 0, none⟩ = some (.int .i64 sN) := (gs).cell 0
            have cs1 : X9.cell? ⟨bs, 1, none⟩ = some (.int .i64 sD) := (gs).cell 1
            have cp0 : X9.cell? ⟨bp, 0, none⟩ = some (.int .i64 pN) := (gp).cell 0
            have cp1 : X9.cell? ⟨bp, 1, none⟩ = some (.int .i64 pD) := (gp).cell 1
            go_wp2
            go_meet
            case rel => exact ⟨by first | (rw [hcv]; done) | (rw [hcv]; rfl) | simp [hcv, *], by (repeat (first | with_reducible assumption | with_reducible exact Blk.new _ _ _ | with_reducible refine Blk.drew ?_ | with_reducible refine Blk.alloc ?_ _ | with_reducible refine Blk.drewN ?_ _ | with_reducible apply Blk.setT0 | with_reducible apply Blk.setT1 | with_reducible refine Blk.far ?_ (by first | (simp; done) | omega | (simp; omega)) _ | with_reducible refine Blk.then_ ?_ (by with_reducible assumption))), by (repeat (first | with_reducible assumption | with_reducible exact Blk.new _ _ _ | with_reducible refine Blk.drew ?_ | with_reducible refine Blk.alloc ?_ _ | with_reducible refine Blk.drewN ?_ _ | with_reducible apply Blk.setT0 | with_reducible apply Blk.setT1 | with_reducible refine Blk.far ?_ (by first | (simp; done) | omega | (simp; omega)) _ | with_reducible refine Blk.then_ ?_ (by with_reducible assumption))), by (repeat (first | with_reducible assumption | with_reducible exact Blk.new _ _ _ | with_reducible refine Blk.drew ?_ | with_reducible refine Blk.alloc ?_ _ | with_reducible refine Blk.drewN ?_ _ | with_reducible apply Blk.setT0 | with_reducible apply Blk.setT1 | with_reducible refine Blk.far ?_ (by first | (simp; done) | omega | (simp; omega)) _ | with_reducible refine Blk.then_ ?_ (by with_reducible assumption))), by (repeat (first | with_reducible assumption | with_reducible exact Blk.new _ _ _ | with_reducible refine Blk.drew ?_ | with_reducible refine Blk.alloc ?_ _ | with_reducible refine Blk.drewN ?_ _ | with_reducible apply Blk.setT0 | with_reducible apply Blk.setT1 | with_reducible refine Blk.far ?_ (by first | (simp; done) | omega | (simp; omega)) _ | with_reducible refine Blk.then_ ?_ (by with_reducible assumption))), by (repeat (first | with_reducible assumption | with_reducible exact Blk.new _ _ _ | with_reducible refine Blk.drew ?_ | with_reducible refine Blk.alloc ?_ _ | with_reducible refine Blk.drewN ?_ _ | with_reducible apply Blk.setT0 | with_reducible apply Blk.setT1 | with_reducible refine Blk.far ?_ (by first | (simp; done) | omega | (simp; omega)) _ | with_reducible refine Blk.then_ ?_ (by with_reducible assumption))), by (repeat (first | with_reducible assumption | with_reducible exact Below.refl _ _ | with_reducible refine below_drewN ?_ _ | with_reducible refine Below.drew ?_ | with_reducible refine below_alloc ?_ _ | with_reducible refine Below.setCell ?_ (by first | omega | (simp; done) | (simp; omega)) _ | with_reducible refine below_then ?_ (by with_reducible assumption) | (refine below_then (a := World.drew _) ?_ (by with_reducible assumption))))⟩
          · have th5a : (n2 == 0) = false := by simp [h5]
            have th5b : (n2 != 0) = true := by simp [h5]
            have hcv : c = true := by rw [HCC.out]; simp [h4, h5]
            clear h4 h5
            have ca0 : X9.cell? ⟨ba, 0, none⟩ = some (.int .i64 n1) := (ga).cell 0
            have ca1 : X9.cell? ⟨ba, 1, none⟩ = some (.int .i64 d1) := (ga).cell 1
            have cb0 : X9.cell? ⟨bb, 0, none⟩ = some (.int .i64 n2) := (gb).cell 0
            have cb1 : X9.cell? ⟨bb, 1, none⟩ = some (.int .i64 d2) := (gb).cell 1
            have cc0 : X9.cell? ⟨bc, 0, none⟩ = some (.int .i64 n3) := (gc).cell 0
            have cc1 : X9.cell? ⟨bc, 1, none⟩ = some (.int .i64 d3) := (gc).cell 1
            have cs0 : X9.cell? ⟨bs, 0, none⟩ = some (.int .i64 sN) := (gs).cell 0
            have cs1 : X9.cell? ⟨bs, 1, none⟩ = some (.int .i64 sD) := (gs).cell 1
            have cp0 : X9.cell? ⟨bp, 0, none⟩ = some (.int .i64 pN) := (gp).cell 0
            have cp1 : X9.cell? ⟨bp, 1, none⟩ = some (.int .i64 pD) := (gp).cell 1
            go_wp2
            go_meet
            case rel => exact ⟨by first | (rw [hcv]; done) | (rw [hcv]; rfl) | simp [hcv, *], by (repeat (first | with_reducible assumption | with_reducible exact Blk.new _ _ _ | with_reducible refine Blk.drew ?_ | with_reducible refine Blk.alloc ?_ _ | with_reducible refine Blk.drewN ?_ _ | with_reducible apply Blk.setT0 | with_reducible apply Blk.setT1 | with_reducible refine Blk.far ?_ (by first | (simp; done) | omega | (simp; omega)) _ | with_reducible refine Blk.then_ ?_ (by with_reducible assumption))), by (repeat (first | with_reducible assumption | with_reducible exact Blk.new _ _ _ | with_reducible refine Blk.drew ?_ | with_reducible refine Blk.alloc ?_ _ | with_reducible refine Blk.drewN ?_ _ | with_reducible apply Blk.setT0 | with_reducible apply Blk.setT1 | with_reducible refine Blk.far ?_ (by first | (simp; done) | omega | (simp; omega)) _ | with_reducible refine Blk.then_ ?_ (by with_reducible assumption))), by (repeat (first | with_reducible assumption | with_reducible exact Blk.new _ _ _ | with_reducible refine Blk.drew ?_ | with_reducible refine Blk.alloc ?_ _ | with_reducible refine Blk.drewN ?_ _ | with_reducible apply Blk.setT0 | with_reducible apply Blk.setT1 | with_reducible refine Blk.far ?_ (by first | (simp; done) | omega | (simp; omega)) _ | with_reducible refine Blk.then_ ?_ (by with_reducible assumption))), by (repeat (first | with_reducible assumption | with_reducible exact Blk.new _ _ _ | with_reducible refine Blk.drew ?_ | with_reducible refine Blk.alloc ?_ _ | with_reducible refine Blk.drewN ?_ _ | with_reducible apply Blk.setT0 | with_reducible apply Blk.setT1 | with_reducible refine Blk.far ?_ (by first | (simp; done) | omega | (simp; omega)) _ | with_reducible refine Blk.then_ ?_ (by with_reducible assumption))), by (repeat (first | with_reducible assumption | with_reducible exact Blk.new _ _ _ | with_reducible refine Blk.drew ?_ | with_reducible refine Blk.alloc ?_ _ | with_reducible refine Blk.drewN ?_ _ | with_reducible apply Blk.setT0 | with_reducible apply Blk.setT1 | with_reducible refine Blk.far ?_ (by first | (simp; done) | omega | (simp; omega)) _ | with_reducible refine Blk.then_ ?_ (by with_reducible assumption))), by (repeat (first | with_reducible assumption | with_reducible exact Below.refl _ _ | with_reducible refine below_drewN ?_ _ | with_reducible refine Below.drew ?_ | with_reducible refine below_alloc ?_ _ | with_reducible refine Below.setCell ?_ (by first | omega | (simp; done) | (simp; omega)) _ | with_reducible refine below_then ?_ (by with_reducible assumption) | (refine below_then (a := World.drew _) ?_ (by with_reducible assumption))))⟩
        · have th4a : (pE == 0) = false := by simp [h4]
          have th4b : (pE != 0) = true := by simp [h4]
          have hcv : c = false := by rw [HCC.out]; simp [h4]
          clear h4
          have ca0 : X9.cell? ⟨ba, 0, none⟩ = some (.int .i64 n1) := (ga).cell 0
          have ca1 : X9.cell? ⟨ba, 1, none⟩ = some (.int .i64 d1) := (ga).cell 1
          have cb0 : X9.cell? ⟨bb, 0, none⟩ = some (.int .i64 n2) := (gb).cell 0
          have cb1 : X9.cell? ⟨bb, 1, none⟩ = some (.int .i64 d2) := (gb).cell 1
          have cc0 : X9.cell? ⟨bc, 0, none⟩ = some (.int .i64 n3) := (gc).cell 0
          have cc1 : X9.cell? ⟨bc, 1, none⟩ = some (.int .i64 d3) := (gc).cell 1
          have cs0 : X9.cell? ⟨bs, 0, none⟩ = some (.int .i64 sN) := (gs).cell 0
          have cs1 : X9.cell? ⟨bs, 1, none⟩ = some (.int .i64 sD) := (gs).cell 1
          have cp0 : X9.cell? ⟨bp, 0, none⟩ = some (.int .i64 pN) := (gp).cell 0
          have cp1 : X9.cell? ⟨bp, 1, none⟩ = some (.int .i64 pD) := (gp).cell 1
          go_wp2
          go_meet
          case rel => exact ⟨by first | (rw [hcv]; done) | (rw [hcv]; rfl) | simp [hcv, *], by (repeat (first | with_reducible assumption | with_reducible exact Blk.new _ _ _ | with_reducible refine Blk.drew ?_ | with_reducible refine Blk.alloc ?_ _ | with_reducible refine Blk.drewN ?_ _ | with_reducible apply Blk.setT0 | with_reducible apply Blk.setT1 | with_reducible refine Blk.far ?_ (by first | (simp; done) | omega | (simp; omega)) _ | with_reducible refine Blk.then_ ?_ (by with_reducible assumption))), by (repeat (first | with_reducible assumption | with_reducible exact Blk.new _ _ _ | with_reducible refine Blk.drew ?_ | with_reducible refine Blk.alloc ?_ _ | with_reducible refine Blk.drewN ?_ _ | with_reducible apply Blk.setT0 | with_reducible apply Blk.setT1 | with_reducible refine Blk.far ?_ (by first | (simp; done) | omega | (simp; omega)) _ | with_reducible refine Blk.then_ ?_ (by with_reducible assumption))), by (repeat (first | with_reducible assumption | with_reducible exact Blk.new _ _ _ | with_reducible refine Blk.drew ?_ | with_reducible refine Blk.alloc ?_ _ | with_reducible refine Blk.drewN ?_ _ | with_reducible apply Blk.setT0 | with_reducible apply Blk.setT1 | with_reducible refine Blk.far ?_ (by first | (simp; done) | omega | (simp; omega)) _ | with_reducible refine Blk.then_ ?_ (by with_reducible assumption))), by (repeat (first | with_reducible assumption | with_reducible exact Blk.new _ _ _ | with_reducible refine Blk.drew ?_ | with_reducible refine Blk.alloc ?_ _ | with_reducible refine Blk.drewN ?_ _ | with_reducible apply Blk.setT0 | with_reducible apply Blk.setT1 | with_reducible refine Blk.far ?_ (by first | (simp; done) | omega | (simp; omega)) _ | with_reducible refine Blk.then_ ?_ (by with_reducible assumption))), by (repeat (first | with_reducible assumption | with_reducible exact Blk.new _ _ _ | with_reducible refine Blk.drew ?_ | with_reducible refine Blk.alloc ?_ _ | with_reducible refine Blk.drewN ?_ _ | with_reducible apply Blk.setT0 | with_reducible apply Blk.setT1 | with_reducible refine Blk.far ?_ (by first | (simp; done) | omega | (simp; omega)) _ | with_reducible refine Blk.then_ ?_ (by with_reducible assumption))), by (repeat (first | with_reducible assumption | with_reducible exact Below.refl _ _ | with_reducible refine below_drewN ?_ _ | with_reducible refine Below.drew ?_ | with_reducible refine below_alloc ?_ _ | with_reducible refine Below.setCell ?_ (by first | omega | (simp; done) | (simp; omega)) _ | with_reducible refine below_then ?_ (by with_reducible assumption) | (refine below_then (a := World.drew _) ?_ (by with_reducible assumption))))⟩
      case rest =>
        obtain ⟨hv116, ga', gb', gc', gs', gp', HB'⟩ := hcut
        subst hv116
        clear ga gb gc gs gp HB
        have ga := ga'
        clear ga'
        have gb := gb'
        clear gb'
        have gc := gc'
        clear gc'
        have gs := gs'
        clear gs'
        have gp := gp'
        clear gp'
        have HB := HB'
        clear HB'
        obtain ⟨X10, hX⟩ : ∃ x, x = wc := ⟨_, rfl⟩
        subst hX
        have hz := Below.refl X10.heap.size X10
        go_upto_if 116 with (fail)
        go_cut [] from 110 to 129 (fun W => Blk W ba 25 #[.int .i64 n1, .int .i64 d1] ∧ Blk W bb 25 #[.int .i64 n2, .int .i64 d2] ∧ Blk W bc 25 #[.int .i64 n3, .int .i64 d3] ∧ Blk W bs 25 #[.int .i64 sN, .int .i64 sD] ∧ Blk W bp 25 #[.int .i64 pN, .int .i64 pD] ∧ Below w.heap.size w W)
        case first =>
          cases c with
          | false =>
            have ca0 : X10.cell? ⟨ba, 0, none⟩ = some (.int .i64 n1) := (ga).cell 0
            have ca1 : X10.cell? ⟨ba, 1, none⟩ = some (.int .i64 d1) := (ga).cell 1
            have cb0 : X10.cell? ⟨bb, 0, none⟩ = some (.int .i64 n2) := (gb).cell 0
            have cb1 : X10.cell? ⟨bb, 1, none⟩ = some (.int .i64 d2) := (gb).cell 1
            have cc0 : X10.cell? ⟨bc, 0, none⟩ = some (.int .i64 n3) := (gc).cell 0
            have cc1 : X10.cell? ⟨bc, 1, none⟩ = some (.int .i64 d3) := (gc).cell 1
            have cs0 : X10.cell? ⟨bs, 0, none⟩ = some (.int .i64 sN) := (gs).cell 0
            have cs1 : X10.cell? ⟨bs, 1, none⟩ = some (.int .i64 sD) := (gs).cell 1
            have cp0 : X10.cell? ⟨bp, 0, none⟩ = some (.int .i64 pN) := (gp).cell 0
            have cp1 : X10.cell? ⟨bp, 1, none⟩ = some (.int .i64 pD) := (gp).cell 1
            go_wp2
            go_meet
            case rel => exact ⟨by (repeat (first | with_reducible assumption | with_reducible exact Blk.new _ _ _ | with_reducible refine Blk.drew ?_ | with_reducible refine Blk.alloc ?_ _ | with_reducible refine Blk.drewN ?_ _ | with_reducible apply Blk.setT0 | with_reducible apply Blk.setT1 | with_reducible refine Blk.far ?_ (by first | (simp; done) | omega | (simp; omega)) _ | with_reducible refine Blk.then_ ?_ (by with_reducible assumption))), by (repeat (first | with_reducible assumption | with_reducible exact Blk.new _ _ _ | with_reducible refine Blk.drew ?_ | with_reducible refine Blk.alloc ?_ _ | with_reducible refine Blk.drewN ?_ _ | with_reducible apply Blk.setT0 | with_reducible apply Blk.setT1 | with_reducible refine Blk.far ?_ (by first | (simp; done) | omega | (simp; omega)) _ | with_reducible refine Blk.then_ ?_ (by with_reducible assumption))), by (repeat (first | with_reducible assumption | with_reducible exact Blk.new _ _ _ | with_reducible refine Blk.drew ?_ | with_reducible refine Blk.alloc ?_ _ | with_reducible refine Blk.drewN ?_ _ | with_reducible apply Blk.setT0 | with_reducible apply Blk.setT1 | with_reducible refine Blk.far ?_ (by first | (simp; done) | omega | (simp; omega)) _ | with_reducible refine Blk.then_ ?_ (by with_reducible assumption))), by (repeat (first | with_reducible assumption | with_reducible exact Blk.new _ _ _ | with_reducible refine Blk.drew ?_ | with_reducible refine Blk.alloc ?_ _ | with_reducible refine Blk.drewN ?_ _ | with_reducible apply Blk.setT0 | with_reducible apply Blk.setT1 | with_reducible refine Blk.far ?_ (by first | (simp; done) | omega | (simp; omega)) _ | with_reducible refine Blk.then_ ?_ (by with_reducible assumption))), by (repeat (first | with_reducible assumption | with_reducible exact Blk.new _ _ _ | with_reducible refine Blk.drew ?_ | with_reducible refine Blk.alloc ?_ _ | with_reducible refine Blk.drewN ?_ _ | with_reducible apply Blk.setT0 | with_reducible apply Blk.setT1 | with_reducible refine Blk.far ?_ (by first | (simp; done) | omega | (simp; omega)) _ | with_reducible refine Blk.then_ ?_ (by with_reducible assumption))), by (repeat (first | with_reducible assumption | with_reducible exact Below.refl _ _ | with_reducible refine below_drewN ?_ _ | with_reducible refine Below.drew ?_ | with_reducible refine below_alloc ?_ _ | with_reducible refine Below.setCell ?_ (by first | omega | (simp; done) | (simp; omega)) _ | with_reducible refine below_then ?_ (by with_reducible assumption) | (refine below_then (a := World.drew _) ?_ (by with_reducible assumption))))⟩
          | true =>
            obtain ⟨h0, h1⟩ := of_decide_eq_true HCC.out.symm
            have HD' := Lib.hid (fun W => HD.out W h0 h1)
            clear h0 h1
            have cp0 : X10.cell? ⟨bp, 0, none⟩ = some (.int .i64 pN) := (gp).cell 0
            have cp1 : X10.cell? ⟨bp, 1, none⟩ = some (.int .i64 pD) := (gp).cell 1
            have cb0 : X10.cell? ⟨bb, 0, none⟩ = some (.int .i64 n2) := (gb).cell 0
            have cb1 : X10.cell? ⟨bb, 1, none⟩ = some (.int .i64 d2) := (gb).cell 1
            go_upto_region 16 with ((go_at_call 31; (with_reducible refine (HD'.out _).mono ?_); rintro e w1 ⟨rfl, hbw1⟩))
            clear cp0 cp1 cb0 cb1
            refine name_wp ?_
            intro X11 hX
            have na : Blk X11 ba 25 #[.int .i64 n1, .int .i64 d1] := by rw [hX]; (repeat (first | with_reducible assumption | with_reducible exact Blk.new _ _ _ | with_reducible refine Blk.drew ?_ | with_reducible refine Blk.alloc ?_ _ | with_reducible refine Blk.drewN ?_ _ | with_reducible apply Blk.setT0 | with_reducible apply Blk.setT1 | with_reducible refine Blk.far ?_ (by first | (simp; done) | omega | (simp; omega)) _ | with_reducible refine Blk.then_ ?_ (by with_reducible assumption)))
            have nb : Blk X11 bb 25 #[.int .i64 n2, .int .i64 d2] := by rw [hX]; (repeat (first | with_reducible assumption | with_reducible exact Blk.new _ _ _ | with_reducible refine Blk.drew ?_ | with_reducible refine Blk.alloc ?_ _ | with_reducible refine Blk.drewN ?_ _ | with_reducible apply Blk.setT0 | with_reducible apply Blk.setT1 | with_reducible refine Blk.far ?_ (by first | (simp; done) | omega | (simp; omega)) _ | with_reducible refine Blk.then_ ?_ (by with_reducible assumption)))
            have nc : Blk X11 bc 25 #[.int .i64 n3, .int .i64 d3] := by rw [hX]; (repeat (first | with_reducible assumption | with_reducible exact Blk.new _ _ _ | with_reducible refine Blk.drew ?_ | with_reducible refine Blk.alloc ?_ _ | with_reducible refine Blk.drewN ?_ _ | with_reducible apply Blk.setT0 | with_reducible apply Blk.setT1 | with_reducible refine Blk.far ?_ (by first | (simp; done) | omega | (simp; omega)) _ | with_reducible refine Blk.then_ ?_ (by with_reducible assumption)))
            have ns : Blk X11 bs 25 #[.int .i64 sN, .int .i64 sD] := by rw [hX]; (repeat (first | with_reducible assumption | with_reducible exact Blk.new _ _ _ | with_reducible refine Blk.drew ?_ | with_reducible refine Blk.alloc ?_ _ | with_reducible refine Blk.drewN ?_ _ | with_reducible apply Blk.setT0 | with_reducible apply Blk.setT1 | with_reducible refine Blk.far ?_ (by first | (simp; done) | omega | (simp; omega)) _ | with_reducible refine Blk.then_ ?_ (by with_reducible assumption)))
            have np : Blk X11 bp 25 #[.int .i64 pN, .int .i64 pD] := by rw [hX]; (repeat (first | with_reducible assumption | with_reducible exact Blk.new _ _ _ | with_reducible refine Blk.drew ?_ | with_reducible refine Blk.alloc ?_ _ | with_reducible refine Blk.drewN ?_ _ | with_reducible apply Blk.setT0 | with_reducible apply Blk.setT1 | with_reducible refine Blk.far ?_ (by first | (simp; done) | omega | (simp; omega)) _ | with_reducible refine Blk.then_ ?_ (by with_reducible assumption)))
            have nk : Blk X11 (w1.heap.size) 25 #[.int .i64 n1, .int .i64 d1] := by rw [hX]; exact Blk.new _ _ _
            have lk : w.heap.size ≤ w1.heap.size := (below_then HB hbw1).size
            have oak : ba < w1.heap.size := (ga.then_ hbw1).lt
            have obk : bb < w1.heap.size := (gb.then_ hbw1).lt
            have ock : bc < w1.heap.size := (gc.then_ hbw1).lt
            have osk : bs < w1.heap.size := (gs.then_ hbw1).lt
            have opk : bp < w1.heap.size := (gp.then_ hbw1).lt
            have NB : Below w.heap.size w X11 := by rw [hX]; (repeat (first | with_reducible assumption | with_reducible exact Below.refl _ _ | with_reducible refine below_drewN ?_ _ | with_reducible refine Below.drew ?_ | with_reducible refine below_alloc ?_ _ | with_reducible refine Below.setCell ?_ (by first | omega | (simp; done) | (simp; omega)) _ | with_reducible refine below_then ?_ (by with_reducible assumption) | (refine below_then (a := World.drew _) ?_ (by with_reducible assumption))))
            clear hX ga gb gc gs gp HB
            obtain ⟨bk, eb⟩ : ∃ b, w1.heap.size = b := ⟨_, rfl⟩
            rw [eb] at nk lk oak obk ock osk opk ⊢
            clear eb
            have ga := na
            clear na
            have gb := nb
            clear nb
            have gc := nc
            clear nc
            have gs := ns
            clear ns
            have gp := np
            clear np
            have gk := nk
            clear nk
            have HB := NB
            clear NB
            have hz := Below.refl X11.heap.size X11
            have heq := fun W => eqv_yes n1 d1 W
            have ca0 : X11.cell? ⟨ba, 0, none⟩ = some (.int .i64 n1) := (ga).cell 0
            have ca1 : X11.cell? ⟨ba, 1, none⟩ = some (.int .i64 d1) := (ga).cell 1
            have cb0 : X11.cell? ⟨bb, 0, none⟩ = some (.int .i64 n2) := (gb).cell 0
            have cb1 : X11.cell? ⟨bb, 1, none⟩ = some (.int .i64 d2) := (gb).cell 1
            have cc0 : X11.cell? ⟨bc, 0, none⟩ = some (.int .i64 n3) := (gc).cell 0
            have cc1 : X11.cell? ⟨bc, 1, none⟩ = some (.int .i64 d3) := (gc).cell 1
            have cs0 : X11.cell? ⟨bs, 0, none⟩ = some (.int .i64 sN) := (gs).cell 0
            have cs1 : X11.cell? ⟨bs, 1, none⟩ = some (.int .i64 sD) := (gs).cell 1
            have cp0 : X11.cell? ⟨bp, 0, none⟩ = some (.int .i64 pN) := (gp).cell 0
            have cp1 : X11.cell? ⟨bp, 1, none⟩ = some (.int .i64 pD) := (gp).cell 1
            have ck0 : X11.cell? ⟨bk, 0, none⟩ = some (.int .i64 n1) := (gk).cell 0
            have ck1 : X11.cell? ⟨bk, 1, none⟩ = some (.int .i64 d1) := (gk).cell 1
            go_wp2
            go_meet
            case rel => exact ⟨by (repeat (first | with_reducible assumption | with_reducible exact Blk.new _ _ _ | with_reducible refine Blk.drew ?_ | with_reducible refine Blk.alloc ?_ _ | with_reducible refine Blk.drewN ?_ _ | with_reducible apply Blk.setT0 | with_reducible apply Blk.setT1 | with_reducible refine Blk.far ?_ (by first | (simp; done) | omega | (simp; omega)) _ | with_reducible refine Blk.then_ ?_ (by with_reducible assumption))), by (repeat (first | with_reducible assumption | with_reducible exact Blk.new _ _ _ | with_reducible refine Blk.drew ?_ | with_reducible refine Blk.alloc ?_ _ | with_reducible refine Blk.drewN ?_ _ | with_reducible apply Blk.setT0 | with_reducible apply Blk.setT1 | with_reducible refine Blk.far ?_ (by first | (simp; done) | omega | (simp; omega)) _ | with_reducible refine Blk.then_ ?_ (by with_reducible assumption))), by (repeat (first | with_reducible assumption | with_reducible exact Blk.new _ _ _ | with_reducible refine Blk.drew ?_ | with_reducible refine Blk.alloc ?_ _ | with_reducible refine Blk.drewN ?_ _ | with_reducible apply Blk.setT0 | with_reducible apply Blk.setT1 | with_reducible refine Blk.far ?_ (by first | (simp; done) | omega | (simp; omega)) _ | with_reducible refine Blk.then_ ?_ (by with_reducible assumption))), by (repeat (first | with_reducible assumption | with_reducible exact Blk.new _ _ _ | with_reducible refine Blk.drew ?_ | with_reducible refine Blk.alloc ?_ _ | with_reducible refine Blk.drewN ?_ _ | with_reducible apply Blk.setT0 | with_reducible apply Blk.setT1 | with_reducible refine Blk.far ?_ (by first | (simp; done) | omega | (simp; omega)) _ | with_reducible refine Blk.then_ ?_ (by with_reducible assumption))), by (repeat (first | with_reducible assumption | with_reducible exact Blk.new _ _ _ | with_reducible refine Blk.drew ?_ | with_reducible refine Blk.alloc ?_ _ | with_reducible refine Blk.drewN ?_ _ | with_reducible apply Blk.setT0 | with_reducible apply Blk.setT1 | with_reducible refine Blk.far ?_ (by first | (simp; done) | omega | (simp; omega)) _ | with_reducible refine Blk.then_ ?_ (by with_reducible assumption))), by (repeat (first | with_reducible assumption | with_reducible exact Below.refl _ _ | with_reducible refine below_drewN ?_ _ | with_reducible refine Below.drew ?_ | with_reducible refine below_alloc ?_ _ | with_reducible refine Below.setCell ?_ (by first | omega | (simp; done) | (simp; omega)) _ | with_reducible refine below_then ?_ (by with_reducible assumption) | (refine below_then (a := World.drew _) ?_ (by with_reducible assumption))))⟩
        case rest =>
          obtain ⟨ga', gb', gc', gs', gp', HB'⟩ := hcut
          clear ga gb gc gs gp HB
          have ga := ga'
          clear ga'
          have gb := gb'
          clear gb'
          have gc := gc'
          clear gc'
          have gs := gs'
          clear gs'
          have gp := gp'
          clear gp'
          have HB := HB'
          clear HB'
          obtain ⟨X11, hX⟩ : ∃ x, x = wc := ⟨_, rfl⟩
          subst hX
          have hz := Below.refl X11.heap.size X11
          clear HCC
          clear HD
          have cb0 : X11.cell? ⟨bb, 0, none⟩ = some (.int .i64 n2) := (gb).cell 0
          have cb1 : X11.cell? ⟨bb, 1, none⟩ = some (.int .i64 d2) := (gb).cell 1
          have cc0 : X11.cell? ⟨bc, 0, none⟩ = some (.int .i64 n3) := (gc).cell 0
          have cc1 : X11.cell? ⟨bc, 1, none⟩ = some (.int .i64 d3) := (gc).cell 1
          go_upto_region 19 with ((go_at_call 17; (with_reducible refine (HA23.out _).mono ?_); rintro e w1 ⟨rfl, hbw1⟩))
          clear HA23
          clear cb0 cb1 cc0 cc1
          refine name_wp ?_
          intro X12 hX
          have na : Blk X12 ba 25 #[.int .i64 n1, .int .i64 d1] := by rw [hX]; (repeat (first | with_reducible assumption | with_reducible exact Blk.new _ _ _ | with_reducible refine Blk.drew ?_ | with_reducible refine Blk.alloc ?_ _ | with_reducible refine Blk.drewN ?_ _ | with_reducible apply Blk.setT0 | with_reducible apply Blk.setT1 | with_reducible refine Blk.far ?_ (by first | (simp; done) | omega | (simp; omega)) _ | with_reducible refine Blk.then_ ?_ (by with_reducible assumption)))
          have nb : Blk X12 bb 25 #[.int .i64 n2, .int .i64 d2] := by rw [hX]; (repeat (first | with_reducible assumption | with_reducible exact Blk.new _ _ _ | with_reducible refine Blk.drew ?_ | with_reducible refine Blk.alloc ?_ _ | with_reducible refine Blk.drewN ?_ _ | with_reducible apply Blk.setT0 | with_reducible apply Blk.setT1 | with_reducible refine Blk.far ?_ (by first | (simp; done) | omega | (simp; omega)) _ | with_reducible refine Blk.then_ ?_ (by with_reducible assumption)))
          have nc : Blk X12 bc 25 #[.int .i64 n3, .int .i64 d3] := by rw [hX]; (repeat (first | with_reducible assumption | with_reducible exact Blk.new _ _ _ | with_reducible refine Blk.drew ?_ | with_reducible refine Blk.alloc ?_ _ | with_reducible refine Blk.drewN ?_ _ | with_reducible apply Blk.setT0 | with_reducible apply Blk.setT1 | with_reducible refine Blk.far ?_ (by first | (simp; done) | omega | (simp; omega)) _ | with_reducible refine Blk.then_ ?_ (by with_reducible assumption)))
          have ns : Blk X12 bs 25 #[.int .i64 sN, .int .i64 sD] := by rw [hX]; (repeat (first | with_reducible assumption | with_reducible exact Blk.new _ _ _ | with_reducible refine Blk.drew ?_ | with_reducible refine Blk.alloc ?_ _ | with_reducible refine Blk.drewN ?_ _ | with_reducible apply Blk.setT0 | with_reducible apply Blk.setT1 | with_reducible refine Blk.far ?_ (by first | (simp; done) | omega | (simp; omega)) _ | with_reducible refine Blk.then_ ?_ (by with_reducible assumption)))
          have np : Blk X12 bp 25 #[.int .i64 pN, .int .i64 pD] := by rw [hX]; (repeat (first | with_reducible assumption | with_reducible exact Blk.new _ _ _ | with_reducible refine Blk.drew ?_ | with_reducible refine Blk.alloc ?_ _ | with_reducible refine Blk.drewN ?_ _ | with_reducible apply Blk.setT0 | with_reducible apply Blk.setT1 | with_reducible refine Blk.far ?_ (by first | (simp; done) | omega | (simp; omega)) _ | with_reducible refine Blk.then_ ?_ (by with_reducible assumption)))
          have nu : Blk X12 (w1.heap.size) 25 #[.int .i64 uN, .int .i64 uD] := by rw [hX]; exact Blk.new _ _ _
          have lu : w.heap.size ≤ w1.heap.size := (below_then HB hbw1).size
          have oau : ba < w1.heap.size := (ga.then_ hbw1).lt
          have obu : bb < w1.heap.size := (gb.then_ hbw1).lt
          have ocu : bc < w1.heap.size := (gc.then_ hbw1).lt
          have osu : bs < w1.heap.size := (gs.then_ hbw1).lt
          have opu : bp < w1.heap.size := (gp.then_ hbw1).lt
          have NB : Below w.heap.size w X12 := by rw [hX]; (repeat (first | with_reducible assumption | with_reducible exact Below.refl _ _ | with_reducible refine below_drewN ?_ _ | with_reducible refine Below.drew ?_ | with_reducible refine below_alloc ?_ _ | with_reducible refine Below.setCell ?_ (by first | omega | (simp; done) | (simp; omega)) _ | with_reducible refine below_then ?_ (by with_reducible assumption) | (refine below_then (a := World.drew _) ?_ (by with_reducible assumption))))
          clear hX ga gb gc gs gp HB
          obtain ⟨bu, eb⟩ : ∃ b, w1.heap.size = b := ⟨_, rfl⟩
          rw [eb] at nu lu oau obu ocu osu opu ⊢
          clear eb
          have ga := na
          clear na
          have gb := nb
          clear nb
          have gc := nc
          clear nc
          have gs := ns
          clear ns
          have gp := np
          clear np
          have gu := nu
          clear nu
          have HB := NB
          clear NB
          have hz := Below.refl X12.heap.size X12
          have cb0 : X12.cell? ⟨bb, 0, none⟩ = some (.int .i64 n2) := (gb).cell 0
          have cb1 : X12.cell? ⟨bb, 1, none⟩ = some (.int .i64 d2) := (gb).cell 1
          have cc0 : X12.cell? ⟨bc, 0, none⟩ = some (.int .i64 n3) := (gc).cell 0
          have cc1 : X12.cell? ⟨bc, 1, none⟩ = some (.int .i64 d3) := (gc).cell 1
          go_upto_region 20 with ((go_at_call 18; (with_reducible refine (HM23.out _).mono ?_); rintro e w1 ⟨rfl, hbw1⟩))
          clear HM23
          clear cb0 cb1 cc0 cc1
          refine name_wp ?_
          intro X13 hX
          have na : Blk X13 ba 25 #[.int .i64 n1, .int .i64 d1] := by rw [hX]; (repeat (first | with_reducible assumption | with_reducible exact Blk.new _ _ _ | with_reducible refine Blk.drew ?_ | with_reducible refine Blk.alloc ?_ _ | with_reducible refine Blk.drewN ?_ _ | with_reducible apply Blk.setT0 | with_reducible apply Blk.setT1 | with_reducible refine Blk.far ?_ (by first | (simp; done) | omega | (simp; omega)) _ | with_reducible refine Blk.then_ ?_ (by with_reducible assumption)))
          have nb : Blk X13 bb 25 #[.int .i64 n2, .int .i64 d2] := by rw [hX]; (repeat (first | with_reducible assumption | with_reducible exact Blk.new _ _ _ | with_reducible refine Blk.drew ?_ | with_reducible refine Blk.alloc ?_ _ | with_reducible refine Blk.drewN ?_ _ | with_reducible apply Blk.setT0 | with_reducible apply Blk.setT1 | with_reducible refine Blk.far ?_ (by first | (simp; done) | omega | (simp; omega)) _ | with_reducible refine Blk.then_ ?_ (by with_reducible assumption)))
          have nc : Blk X13 bc 25 #[.int .i64 n3, .int .i64 d3] := by rw [hX]; (repeat (first | with_reducible assumption | with_reducible exact Blk.new _ _ _ | with_reducible refine Blk.drew ?_ | with_reducible refine Blk.alloc ?_ _ | with_reducible refine Blk.drewN ?_ _ | with_reducible apply Blk.setT0 | with_reducible apply Blk.setT1 | with_reducible refine Blk.far ?_ (by first | (simp; done) | omega | (simp; omega)) _ | with_reducible refine Blk.then_ ?_ (by with_reducible assumption)))
          have ns : Blk X13 bs 25 #[.int .i64 sN, .int .i64 sD] := by rw [hX]; (repeat (first | with_reducible assumption | with_reducible exact Blk.new _ _ _ | with_reducible refine Blk.drew ?_ | with_reducible refine Blk.alloc ?_ _ | with_reducible refine Blk.drewN ?_ _ | with_reducible apply Blk.setT0 | with_reducible apply Blk.setT1 | with_reducible refine Blk.far ?_ (by first | (simp; done) | omega | (simp; omega)) _ | with_reducible refine Blk.then_ ?_ (by with_reducible assumption)))
          have np : Blk X13 bp 25 #[.int .i64 pN, .int .i64 pD] := by rw [hX]; (repeat (first | with_reducible assumption | with_reducible exact Blk.new _ _ _ | with_reducible refine Blk.drew ?_ | with_reducible refine Blk.alloc ?_ _ | with_reducible refine Blk.drewN ?_ _ | with_reducible apply Blk.setT0 | with_reducible apply Blk.setT1 | with_reducible refine Blk.far ?_ (by first | (simp; done) | omega | (simp; omega)) _ | with_reducible refine Blk.then_ ?_ (by with_reducible assumption)))
          have nu : Blk X13 bu 25 #[.int .i64 uN, .int .i64 uD] := by rw [hX]; (repeat (first | with_reducible assumption | with_reducible exact Blk.new _ _ _ | with_reducible refine Blk.drew ?_ | with_reducible refine Blk.alloc ?_ _ | with_reducible refine Blk.drewN ?_ _ | with_reducible apply Blk.setT0 | with_reducible apply Blk.setT1 | with_reducible refine Blk.far ?_ (by first | (simp; done) | omega | (simp; omega)) _ | with_reducible refine Blk.then_ ?_ (by with_reducible assumption)))
          have nv : Blk X13 (w1.heap.size) 25 #[.int .i64 vN, .int .i64 vD] := by rw [hX]; exact Blk.new _ _ _
          have lv : w.heap.size ≤ w1.heap.size := (below_then HB hbw1).size
          have oav : ba < w1.heap.size := (ga.then_ hbw1).lt
          have obv : bb < w1.heap.size := (gb.then_ hbw1).lt
          have ocv : bc < w1.heap.size := (gc.then_ hbw1).lt
          have osv : bs < w1.heap.size := (gs.then_ hbw1).lt
          have opv : bp < w1.heap.size := (gp.then_ hbw1).lt
          have ouv : bu < w1.heap.size := (gu.then_ hbw1).lt
          have NB : Below w.heap.size w X13 := by rw [hX]; (repeat (first | with_reducible assumption | with_reducible exact Below.refl _ _ | with_reducible refine below_drewN ?_ _ | with_reducible refine Below.drew ?_ | with_reducible refine below_alloc ?_ _ | with_reducible refine Below.setCell ?_ (by first | omega | (simp; done) | (simp; omega)) _ | with_reducible refine below_then ?_ (by with_reducible assumption) | (refine below_then (a := World.drew _) ?_ (by with_reducible assumption))))
          clear hX ga gb gc gs gp gu HB
          obtain ⟨bv, eb⟩ : ∃ b, w1.heap.size = b := ⟨_, rfl⟩
          rw [eb] at nv lv oav obv ocv osv opv ouv ⊢
          clear eb
          have ga := na
          clear na
          have gb := nb
          clear nb
          have gc := nc
          clear nc
          have gs := ns
          clear ns
          have gp := np
          clear np
          have gu := nu
          clear nu
          have gv := nv
          clear nv
          have HB := NB
          clear NB
          have hz := Below.refl X13.heap.size X13
          have ca0 : X13.cell? ⟨ba, 0, none⟩ = some (.int .i64 n1) := (ga).cell 0
          have ca1 : X13.cell? ⟨ba, 1, none⟩ = some (.int .i64 d1) := (ga).cell 1
          have cc0 : X13.cell? ⟨bc, 0, none⟩ = some (.int .i64 n3) := (gc).cell 0
          have cc1 : X13.cell? ⟨bc, 1, none⟩ = some (.int .i64 d3) := (gc).cell 1
          go_upto_region 21 with ((go_at_call 18; (with_reducible refine (HM13.out _).mono ?_); rintro e w1 ⟨rfl, hbw1⟩))
          clear HM13
          clear ca0 ca1 cc0 cc1
          refine name_wp ?_
          intro X14 hX
          have na : Blk X14 ba 25 #[.int .i64 n1, .int .i64 d1] := by rw [hX]; (repeat (first | with_reducible assumption | with_reducible exact Blk.new _ _ _ | with_reducible refine Blk.drew ?_ | with_reducible refine Blk.alloc ?_ _ | with_reducible refine Blk.drewN ?_ _ | with_reducible apply Blk.setT0 | with_reducible apply Blk.setT1 | with_reducible refine Blk.far ?_ (by first | (simp; done) | omega | (simp; omega)) _ | with_reducible refine Blk.then_ ?_ (by with_reducible assumption)))
          have nb : Blk X14 bb 25 #[.int .i64 n2, .int .i64 d2] := by rw [hX]; (repeat (first | with_reducible assumption | with_reducible exact Blk.new _ _ _ | with_reducible refine Blk.drew ?_ | with_reducible refine Blk.alloc ?_ _ | with_reducible refine Blk.drewN ?_ _ | with_reducible apply Blk.setT0 | with_reducible apply Blk.setT1 | with_reducible refine Blk.far ?_ (by first | (simp; done) | omega | (simp; omega)) _ | with_reducible refine Blk.then_ ?_ (by with_reducible assumption)))
          have nc : Blk X14 bc 25 #[.int .i64 n3, .int .i64 d3] := by rw [hX]; (repeat (first | with_reducible assumption | with_reducible exact Blk.new _ _ _ | with_reducible refine Blk.drew ?_ | with_reducible refine Blk.alloc ?_ _ | with_reducible refine Blk.drewN ?_ _ | with_reducible apply Blk.setT0 | with_reducible apply Blk.setT1 | with_reducible refine Blk.far ?_ (by first | (simp; done) | omega | (simp; omega)) _ | with_reducible refine Blk.then_ ?_ (by with_reducible assumption)))
          have ns : Blk X14 bs 25 #[.int .i64 sN, .int .i64 sD] := by rw [hX]; (repeat (first | with_reducible assumption | with_reducible exact Blk.new _ _ _ | with_reducible refine Blk.drew ?_ | with_reducible refine Blk.alloc ?_ _ | with_reducible refine Blk.drewN ?_ _ | with_reducible apply Blk.setT0 | with_reducible apply Blk.setT1 | with_reducible refine Blk.far ?_ (by first | (simp; done) | omega | (simp; omega)) _ | with_reducible refine Blk.then_ ?_ (by with_reducible assumption)))
          have np : Blk X14 bp 25 #[.int .i64 pN, .int .i64 pD] := by rw [hX]; (repeat (first | with_reducible assumption | with_reducible exact Blk.new _ _ _ | with_reducible refine Blk.drew ?_ | with_reducible refine Blk.alloc ?_ _ | with_reducible refine Blk.drewN ?_ _ | with_reducible apply Blk.setT0 | with_reducible apply Blk.setT1 | with_reducible refine Blk.far ?_ (by first | (simp; done) | omega | (simp; omega)) _ | with_reducible refine Blk.then_ ?_ (by with_reducible assumption)))
          have nu : Blk X14 bu 25 #[.int .i64 uN, .int .i64 uD] := by rw [hX]; (repeat (first | with_reducible assumption | with_reducible exact Blk.new _ _ _ | with_reducible refine Blk.drew ?_ | with_reducible refine Blk.alloc ?_ _ | with_reducible refine Blk.drewN ?_ _ | with_reducible apply Blk.setT0 | with_reducible apply Blk.setT1 | with_reducible refine Blk.far ?_ (by first | (simp; done) | omega | (simp; omega)) _ | with_reducible refine Blk.then_ ?_ (by with_reducible assumption)))
          have nv : Blk X14 bv 25 #[.int .i64 vN, .int .i64 vD] := by rw [hX]; (repeat (first | with_reducible assumption | with_reducible exact Blk.new _ _ _ | with_reducible refine Blk.drew ?_ | with_reducible refine Blk.alloc ?_ _ | with_reducible refine Blk.drewN ?_ _ | with_reducible apply Blk.setT0 | with_reducible apply Blk.setT1 | with_reducible refine Blk.far ?_ (by first | (simp; done) | omega | (simp; omega)) _ | with_reducible refine Blk.then_ ?_ (by with_reducible assumption)))
          have nq : Blk X14 (w1.heap.size) 25 #[.int .i64 qN, .int .i64 qD] := by rw [hX]; exact Blk.new _ _ _
          have lq : w.heap.size ≤ w1.heap.size := (below_then HB hbw1).size
          have oaq : ba < w1.heap.size := (ga.then_ hbw1).lt
          have obq : bb < w1.heap.size := (gb.then_ hbw1).lt
          have ocq : bc < w1.heap.size := (gc.then_ hbw1).lt
          have osq : bs < w1.heap.size := (gs.then_ hbw1).lt
          have opq : bp < w1.heap.size := (gp.then_ hbw1).lt
          have ouq : bu < w1.heap.size := (gu.then_ hbw1).lt
          have ovq : bv < w1.heap.size := (gv.then_ hbw1).lt
          have NB : Below w.heap.size w X14 := by rw [hX]; (repeat (first | with_reducible assumption | with_reducible exact Below.refl _ _ | with_reducible refine below_drewN ?_ _ | with_reducible refine Below.drew ?_ | with_reducible refine below_alloc ?_ _ | with_reducible refine Below.setCell ?_ (by first | omega | (simp; done) | (simp; omega)) _ | with_reducible refine below_then ?_ (by with_reducible assumption) | (refine below_then (a := World.drew _) ?_ (by with_reducible assumption))))
          clear hX ga gb gc gs gp gu gv HB
          obtain ⟨bq, eb⟩ : ∃ b, w1.heap.size = b := ⟨_, rfl⟩
          rw [eb] at nq lq oaq obq ocq osq opq ouq ovq ⊢
          clear eb
          have ga := na
          clear na
          have gb := nb
          clear nb
          have gc := nc
          clear nc
          have gs := ns
          clear ns
          have gp := np
          clear np
          have gu := nu
          clear nu
          have gv := nv
          clear nv
          have gq := nq
          clear nq
          have HB := NB
          clear NB
          have hz := Below.refl X14.heap.size X14
          have HCC : ∃ c : Bool, Hid (c = decide (sE = 0 ∧ uE = 0)) := ⟨_, rfl⟩
          obtain ⟨c, HCC⟩ := HCC
          have ca0 : X14.cell? ⟨ba, 0, none⟩ = some (.int .i64 n1) := (ga).cell 0
          have ca1 : X14.cell? ⟨ba, 1, none⟩ = some (.int .i64 d1) := (ga).cell 1
          have cb0 : X14.cell? ⟨bb, 0, none⟩ = some (.int .i64 n2) := (gb).cell 0
          have cb1 : X14.cell? ⟨bb, 1, none⟩ = some (.int .i64 d2) := (gb).cell 1
          have cc0 : X14.cell? ⟨bc, 0, none⟩ = some (.int .i64 n3) := (gc).cell 0
          have cc1 : X14.cell? ⟨bc, 1, none⟩ = some (.int .i64 d3) := (gc).cell 1
          have cs0 : X14.cell? ⟨bs, 0, none⟩ = some (.int .i64 sN) := (gs).cell 0
          have cs1 : X14.cell? ⟨bs, 1, none⟩ = some (.int .i64 sD) := (gs).cell 1
          have cp0 : X14.cell? ⟨bp, 0, none⟩ = some (.int .i64 pN) := (gp).cell 0
          have cp1 : X14.cell? ⟨bp, 1, none⟩ = some (.int .i64 pD) := (gp).cell 1
          have cu0 : X14.cell? ⟨bu, 0, none⟩ = some (.int .i64 uN) := (gu).cell 0
          have cu1 : X14.cell? ⟨bu, 1, none⟩ = some (.int .i64 uD) := (gu).cell 1
          have cv0 : X14.cell? ⟨bv, 0, none⟩ = some (.int .i64 vN) := (gv).cell 0
          have cv1 : X14.cell? ⟨bv, 1, none⟩ = some (.int .i64 vD) := (gv).cell 1
          have cq0 : X14.cell? ⟨bq, 0, none⟩ = some (.int .i64 qN) := (gq).cell 0
          have cq1 : X14.cell? ⟨bq, 1, none⟩ = some (.int .i64 qD) := (gq).cell 1
          go_upto_region 21 with (fail)
          clear ca0 ca1 cb0 cb1 cc0 cc1 cs0 cs1 cp0 cp1 cu0 cu1 cv0 cv1 cq0 cq1
          go_cut [153] from 148 to 153 (fun v153 W => v153 = .bool c ∧ Blk W ba 25 #[.int .i64 n1, .int .i64 d1] ∧ Blk W bb 25 #[.int .i64 n2, .int .i64 d2] ∧ Blk W bc 25 #[.int .i64 n3, .int .i64 d3] ∧ Blk W bs 25 #[.int .i64 sN, .int .i64 sD] ∧ Blk W bp 25 #[.int .i64 pN, .int .i64 pD] ∧ Blk W bu 25 #[.int .i64 uN, .int .i64 uD] ∧ Blk W bv 25 #[.int .i64 vN, .int .i64 vD] ∧ Blk W bq 25 #[.int .i64 qN, .int .i64 qD] ∧ Below w.heap.size w W)
          case first =>
            by_cases h6 : sE = 0
            · have th6a : (sE == 0) = true := by simp [h6]
              have th6b : (sE != 0) = false := by simp [h6]
              by_cases h7 : uE = 0
              · have th7a : (uE == 0) = true := by simp [h7]
                have th7b : (uE != 0) = false := by simp [h7]
                have hcv : c = true := by rw [HCC.out]; simp [h6, h7]
                clear h6 h7
                have ca0 : X14.cell? ⟨ba, 0, none⟩ = some (.int .i64 n1) := (ga).cell 0
                have ca1 : X14.cell? ⟨ba, 1, none⟩ = some (.int .i64 d1) := (ga).cell 1
                have cb0 : X14.cell? ⟨bb, 0, none⟩ = some (.int .i64 n2) := (gb).cell 0
                have cb1 : X14.cell? ⟨bb, 1, none⟩ = some (.int .i64 d2) := (gb).cell 1
                have cc0 : X14.cell? ⟨bc, 0, none⟩ = some (.int .i64 n3) := (gc).cell 0
                have cc1 : X14.cell? ⟨bc, 1, none⟩ = some (.int .i64 d3) := (gc).cell 1
                have cs0 : X14.cell? ⟨bs, 0, none⟩ = some (.int .i64 sN) := (gs).cell 0
                have cs1 : X14.cell? ⟨bs, 1, none⟩ = some (.int .i64 sD) := (gs).cell 1
                have cp0 : X14.cell? ⟨bp, 0, none⟩ = some (.int .i64 pN) := (gp).cell 0
                have cp1 : X14.cell? ⟨bp, 1, none⟩ = some (.int .i64 pD) := (gp).cell 1
                have cu0 : X14.cell? ⟨bu, 0, none⟩ = some (.int .i64 uN) := (gu).cell 0
                have cu1 : X14.cell? ⟨bu, 1, none⟩ = some (.int .i64 uD) := (gu).cell 1
                have cv0 : X14.cell? ⟨bv, 0, none⟩ = some (.int .i64 vN) := (gv).cell 0
                have cv1 : X14.cell? ⟨bv, 1, none⟩ = some (.int .i64 vD) := (gv).cell 1
                have cq0 : X14.cell? ⟨bq, 0, none⟩ = some (.int .i64 qN) := (gq).cell 0
                have cq1 : X14.cell? ⟨bq, 1, none⟩ = some (.int .i64 qD) := (gq).cell 1
                go_wp2
                go_meet
                case rel => exact ⟨by first | (rw [hcv]; done) | (rw [hcv]; rfl) | simp [hcv, *], by (repeat (first | with_reducible assumption | with_reducible exact Blk.new _ _ _ | with_reducible refine Blk.drew ?_ | with_reducible refine Blk.alloc ?_ _ | with_reducible refine Blk.drewN ?_ _ | with_reducible apply Blk.setT0 | with_reducible apply Blk.setT1 | with_reducible refine Blk.far ?_ (by first | (simp; done) | omega | (simp; omega)) _ | with_reducible refine Blk.then_ ?_ (by with_reducible assumption))), by (repeat (first | with_reducible assumption | with_reducible exact Blk.new _ _ _ | with_reducible refine Blk.drew ?_ | with_reducible refine Blk.alloc ?_ _ | with_reducible refine Blk.drewN ?_ _ | with_reducible apply Blk.setT0 | with_reducible apply Blk.setT1 | with_reducible refine Blk.far ?_ (by first | (simp; done) | omega | (simp; omega)) _ | with_reducible refine Blk.then_ ?_ (by with_reducible assumption))), by (repeat (first | with_reducible assumption | with_reducible exact Blk.new _ _ _ | with_reducible refine Blk.drew ?_ | with_reducible refine Blk.alloc ?_ _ | with_reducible refine Blk.drewN ?_ _ | with_reducible apply Blk.setT0 | with_reducible apply Blk.setT1 | with_reducible refine Blk.far ?_ (by first | (simp; done) | omega | (simp; omega)) _ | with_reducible refine Blk.then_ ?_ (by with_reducible assumption))), by (repeat (first | with_reducible assumption | with_reducible exact Blk.new _ _ _ | with_reducible refine Blk.drew ?_ | with_reducible refine Blk.alloc ?_ _ | with_reducible refine Blk.drewN ?_ _ | with_reducible apply Blk.setT0 | with_reducible apply Blk.setT1 | with_reducible refine Blk.far ?_ (by first | (simp; done) | omega | (simp; omega)) _ | with_reducible refine Blk.then_ ?_ (by with_reducible assumption))), by (repeat (first | with_reducible assumption | with_reducible exact Blk.new _ _ _ | with_reducible refine Blk.drew ?_ | with_reducible refine Blk.alloc ?_ _ | with_reducible refine Blk.drewN ?_ _ | with_reducible apply Blk.setT0 | with_reducible apply Blk.setT1 | with_reducible refine Blk.far ?_ (by first | (simp; done) | omega | (simp; omega)) _ | with_reducible refine Blk.then_ ?_ (by with_reducible assumption))), by (repeat (first | with_reducible assumption | with_reducible exact Blk.new _ _ _ | with_reducible refine Blk.drew ?_ | with_reducible refine Blk.alloc ?_ _ | with_reducible refine Blk.drewN ?_ _ | with_reducible apply Blk.setT0 | with_reducible apply Blk.setT1 | with_reducible refine Blk.far ?_ (by first | (simp; done) | omega | (simp; omega)) _ | with_reducible refine Blk.then_ ?_ (by with_reducible assumption))), by (repeat (first | with_reducible assumption | with_reducible exact Blk.new _ _ _ | with_reducible refine Blk.drew ?_ | with_reducible refine Blk.alloc ?_ _ | with_reducible refine Blk.drewN ?_ _ | with_reducible apply Blk.setT0 | with_reducible apply Blk.setT1 | with_reducible refine Blk.far ?_ (by first | (simp; done) | omega | (simp; omega)) _ | with_reducible refine Blk.then_ ?_ (by with_reducible assumption))), by (repeat (first | with_reducible assumption | with_reducible exact Blk.new _ _ _ | with_reducible refine Blk.drew ?_ | with_reducible refine Blk.alloc ?_ _ | with_reducible refine Blk.drewN ?_ _ | with_reducible apply Blk.setT0 | with_reducible apply Blk.setT1 | with_reducible refine Blk.far ?_ (by first | (simp; done) | omega | (simp; omega)) _ | with_reducible refine Blk.then_ ?_ (by with_reducible assumption))), by (repeat (first | with_reducible assumption | with_reducible exact Below.refl _ _ | with_reducible refine below_drewN ?_ _ | with_reducible refine Below.drew ?_ | with_reducible refine below_alloc ?_ _ | with_reducible refine Below.setCell ?_ (by first | omega | (simp; done) | (simp; omega)) _ | with_reducible refine below_then ?_ (by with_reducible assumption) | (refine below_then (a := World.drew _) ?_ (by with_reducible assumption))))⟩
              · have th7a : (uE == 0) = false := by simp [h7]
                have th7b : (uE != 0) = true := by simp [h7]
                have hcv : c = false := by rw [HCC.out]; simp [h6, h7]
                clear h6 h7
                have ca0 : X14.cell? ⟨ba, 0, none⟩ = some (.int .i64 n1) := (ga).cell 0
                have ca1 : X14.cell? ⟨ba, 1, none⟩ = some (.int .i64 d1) := (ga).cell 1
                have cb0 : X14.cell? ⟨bb, 0, none⟩ = some (.int .i64 n2) := (gb).cell 0
                have cb1 : X14.cell? ⟨bb, 1, none⟩ = some (.int .i64 d2) := (gb).cell 1
                have cc0 : X14.cell? ⟨bc, 0, none⟩ = some (.int .i64 n3) := (gc).cell 0
                have cc1 : X14.cell? ⟨bc, 1, none⟩ = some (.int .i64 d3) := (gc).cell 1
                have cs0 : X14.cell? ⟨bs, 0, none⟩ = some (.int .i64 sN) := (gs).cell 0
                have cs1 : X14.cell? ⟨bs, 1, none⟩ = some (.int .i64 sD) := (gs).cell 1
                have cp0 : X14.cell? ⟨bp, 0, none⟩ = some (.int .i64 pN) := (gp).cell 0
                have cp1 : X14.cell? ⟨bp, 1, none⟩ = some (.int .i64 pD) := (gp).cell 1
                have cu0 : X14.cell? ⟨bu, 0, none⟩ = some (.int .i64 uN) := (gu).cell 0
                have cu1 : X14.cell? ⟨bu, 1, none⟩ = some (.int .i64 uD) := (gu).cell 1
                have cv0 : X14.cell? ⟨bv, 0, none⟩ = some (.int .i64 vN) := (gv).cell 0
                have cv1 : X14.cell? ⟨bv, 1, none⟩ = some (.int .i64 vD) := (gv).cell 1
                have cq0 : X14.cell? ⟨bq, 0, none⟩ = some (.int .i64 qN) := (gq).cell 0
                have cq1 : X14.cell? ⟨bq, 1, none⟩ = some (.int .i64 qD) := (gq).cell 1
                go_wp2
                go_meet
                case rel => exact ⟨by first | (rw [hcv]; done) | (rw [hcv]; rfl) | simp [hcv, *], by (repeat (first | with_reducible assumption | with_reducible exact Blk.new _ _ _ | with_reducible refine Blk.drew ?_ | with_reducible refine Blk.alloc ?_ _ | with_reducible refine Blk.drewN ?_ _ | with_reducible apply Blk.setT0 | with_reducible apply Blk.setT1 | with_reducible refine Blk.far ?_ (by first | (simp; done) | omega | (simp; omega)) _ | with_reducible refine Blk.then_ ?_ (by with_reducible assumption))), by (repeat (first | with_reducible assumption | with_reducible exact Blk.new _ _ _ | with_reducible refine Blk.drew ?_ | with_reducible refine Blk.alloc ?_ _ | with_reducible refine Blk.drewN ?_ _ | with_reducible apply Blk.setT0 | with_reducible apply Blk.setT1 | with_reducible refine Blk.far ?_ (by first | (simp; done) | omega | (simp; omega)) _ | with_reducible refine Blk.then_ ?_ (by with_reducible assumption))), by (repeat (first | with_reducible assumption | with_reducible exact Blk.new _ _ _ | with_reducible refine Blk.drew ?_ | with_reducible refine Blk.alloc ?_ _ | with_reducible refine Blk.drewN ?_ _ | with_reducible apply Blk.setT0 | with_reducible apply Blk.setT1 | with_reducible refine Blk.far ?_ (by first | (simp; done) | omega | (simp; omega)) _ | with_reducible refine Blk.then_ ?_ (by with_reducible assumption))), by (repeat (first | with_reducible assumption | with_reducible exact Blk.new _ _ _ | with_reducible refine Blk.drew ?_ | with_reducible refine Blk.alloc ?_ _ | with_reducible refine Blk.drewN ?_ _ | with_reducible apply Blk.setT0 | with_reducible apply Blk.setT1 | with_reducible refine Blk.far ?_ (by first | (simp; done) | omega | (simp; omega)) _ | with_reducible refine Blk.then_ ?_ (by with_reducible assumption))), by (repeat (first | with_reducible assumption | with_reducible exact Blk.new _ _ _ | with_reducible refine Blk.drew ?_ | with_reducible refine Blk.alloc ?_ _ | with_reducible refine Blk.drewN ?_ _ | with_reducible apply Blk.setT0 | with_reducible apply Blk.setT1 | with_reducible refine Blk.far ?_ (by first | (simp; done) | omega | (simp; omega)) _ | with_reducible refine Blk.then_ ?_ (by with_reducible assumption))), by (repeat (first | with_reducible assumption | with_reducible exact Blk.new _ _ _ | with_reducible refine Blk.drew ?_ | with_reducible refine Blk.alloc ?_ _ | with_reducible refine Blk.drewN ?_ _ | with_reducible apply Blk.setT0 | with_reducible apply Blk.setT1 | with_reducible refine Blk.far ?_ (by first | (simp; done) | omega | (simp; omega)) _ | with_reducible refine Blk.then_ ?_ (by with_reducible assumption))), by (repeat (first | with_reducible assumption | with_reducible exact Blk.new _ _ _ | with_reducible refine Blk.drew ?_ | with_reducible refine Blk.alloc ?_ _ | with_reducible refine Blk.drewN ?_ _ | with_reducible apply Blk.setT0 | with_reducible apply Blk.setT1 | with_reducible refine Blk.far ?_ (by first | (simp; done) | omega | (simp; omega)) _ | with_reducible refine Blk.then_ ?_ (by with_reducible assumption))), by (repeat (first | with_reducible assumption | with_reducible exact Blk.new _ _ _ | with_reducible refine Blk.drew ?_ | with_reducible refine Blk.alloc ?_ _ | with_reducible refine Blk.drewN ?_ _ | with_reducible apply Blk.setT0 | with_reducible apply Blk.setT1 | with_reducible refine Blk.far ?_ (by first | (simp; done) | omega | (simp; omega)) _ | with_reducible refine Blk.then_ ?_ (by with_reducible assumption))), by (repeat (first | with_reducible assumption | with_reducible exact Below.refl _ _ | with_reducible refine below_drewN ?_ _ | with_reducible refine Below.drew ?_ | with_reducible refine below_alloc ?_ _ | with_reducible refine Below.setCell ?_ (by first | omega | (simp; done) | (simp; omega)) _ | with_reducible refine below_then ?_ (by with_reducible assumption) | (refine below_then (a := World.drew _) ?_ (by with_reducible assumption))))⟩
            · have th6a : (sE == 0) = false := by simp [h6]
              have th6b : (sE != 0) = true := by simp [h6]
              have hcv : c = false := by rw [HCC.out]; simp [h6]
              clear h6
              have ca0 : X14.cell? ⟨ba, 0, none⟩ = some (.int .i64 n1) := (ga).cell 0
              have ca1 : X14.cell? ⟨ba, 1, none⟩ = some (.int .i64 d1) := (ga).cell 1
              have cb0 : X14.cell? ⟨bb, 0, none⟩ = some (.int .i64 n2) := (gb).cell 0
              have cb1 : X14.cell? ⟨bb, 1, none⟩ = some (.int .i64 d2) := (gb).cell 1
              have cc0 : X14.cell? ⟨bc, 0, none⟩ = some (.int .i64 n3) := (gc).cell 0
              have cc1 : X14.cell? ⟨bc, 1, none⟩ = some (.int .i64 d3) := (gc).cell 1
              have cs0 : X14.cell? ⟨bs, 0, none⟩ = some (.int .i64 sN) := (gs).cell 0
              have cs1 : X14.cell? ⟨bs, 1, none⟩ = some (.int .i64 sD) := (gs).cell 1
              have cp0 : X14.cell? ⟨bp, 0, none⟩ = some (.int .i64 pN) := (gp).cell 0
              have cp1 : X14.cell? ⟨bp, 1, none⟩ = some (.int .i64 pD) := (gp).cell 1
              have cu0 : X14.cell? ⟨bu, 0, none⟩ = some (.int .i64 uN) := (gu).cell 0
              have cu1 : X14.cell? ⟨bu, 1, none⟩ = some (.int .i64 uD) := (gu).cell 1
              have cv0 : X14.cell? ⟨bv, 0, none⟩ = some (.int .i64 vN) := (gv).cell 0
              have cv1 : X14.cell? ⟨bv, 1, none⟩ = some (.int .i64 vD) := (gv).cell 1
              have cq0 : X14.cell? ⟨bq, 0, none⟩ = some (.int .i64 qN) := (gq).cell 0
              have cq1 : X14.cell? ⟨bq, 1, none⟩ = some (.int .i64 qD) := (gq).cell 1
              go_wp2
              go_meet
              case rel => exact ⟨by first | (rw [hcv]; done) | (rw [hcv]; rfl) | simp [hcv, *], by (repeat (first | with_reducible assumption | with_reducible exact Blk.new _ _ _ | with_reducible refine Blk.drew ?_ | with_reducible refine Blk.alloc ?_ _ | with_reducible refine Blk.drewN ?_ _ | with_reducible apply Blk.setT0 | with_reducible apply Blk.setT1 | with_reducible refine Blk.far ?_ (by first | (simp; done) | omega | (simp; omega)) _ | with_reducible refine Blk.then_ ?_ (by with_reducible assumption))), by (repeat (first | with_reducible assumption | with_reducible exact Blk.new _ _ _ | with_reducible refine Blk.drew ?_ | with_reducible refine Blk.alloc ?_ _ | with_reducible refine Blk.drewN ?_ _ | with_reducible apply Blk.setT0 | with_reducible apply Blk.setT1 | with_reducible refine Blk.far ?_ (by first | (simp; done) | omega | (simp; omega)) _ | with_reducible refine Blk.then_ ?_ (by with_reducible assumption))), by (repeat (first | with_reducible assumption | with_reducible exact Blk.new _ _ _ | with_reducible refine Blk.drew ?_ | with_reducible refine Blk.alloc ?_ _ | with_reducible refine Blk.drewN ?_ _ | with_reducible apply Blk.setT0 | with_reducible apply Blk.setT1 | with_reducible refine Blk.far ?_ (by first | (simp; done) | omega | (simp; omega)) _ | with_reducible refine Blk.then_ ?_ (by with_reducible assumption))), by (repeat (first | with_reducible assumption | with_reducible exact Blk.new _ _ _ | with_reducible refine Blk.drew ?_ | with_reducible refine Blk.alloc ?_ _ | with_reducible refine Blk.drewN ?_ _ | with_reducible apply Blk.setT0 | with_reducible apply Blk.setT1 | with_reducible refine Blk.far ?_ (by first | (simp; done) | omega | (simp; omega)) _ | with_reducible refine Blk.then_ ?_ (by with_reducible assumption))), by (repeat (first | with_reducible assumption | with_reducible exact Blk.new _ _ _ | with_reducible refine Blk.drew ?_ | with_reducible refine Blk.alloc ?_ _ | with_reducible refine Blk.drewN ?_ _ | with_reducible apply Blk.setT0 | with_reducible apply Blk.setT1 | with_reducible refine Blk.far ?_ (by first | (simp; done) | omega | (simp; omega)) _ | with_reducible refine Blk.then_ ?_ (by with_reducible assumption))), by (repeat (first | with_reducible assumption | with_reducible exact Blk.new _ _ _ | with_reducible refine Blk.drew ?_ | with_reducible refine Blk.alloc ?_ _ | with_reducible refine Blk.drewN ?_ _ | with_reducible apply Blk.setT0 | with_reducible apply Blk.setT1 | with_reducible refine Blk.far ?_ (by first | (simp; done) | omega | (simp; omega)) _ | with_reducible refine Blk.then_ ?_ (by with_reducible assumption))), by (repeat (first | with_reducible assumption | with_reducible exact Blk.new _ _ _ | with_reducible refine Blk.drew ?_ | with_reducible refine Blk.alloc ?_ _ | with_reducible refine Blk.drewN ?_ _ | with_reducible apply Blk.setT0 | with_reducible apply Blk.setT1 | with_reducible refine Blk.far ?_ (by first | (simp; done) | omega | (simp; omega)) _ | with_reducible refine Blk.then_ ?_ (by with_reducible assumption))), by (repeat (first | with_reducible assumption | with_reducible exact Blk.new _ _ _ | with_reducible refine Blk.drew ?_ | with_reducible refine Blk.alloc ?_ _ | with_reducible refine Blk.drewN ?_ _ | with_reducible apply Blk.setT0 | with_reducible apply Blk.setT1 | with_reducible refine Blk.far ?_ (by first | (simp; done) | omega | (simp; omega)) _ | with_reducible refine Blk.then_ ?_ (by with_reducible assumption))), by (repeat (first | with_reducible assumption | with_reducible exact Below.refl _ _ | with_reducible refine below_drewN ?_ _ | with_reducible refine Below.drew ?_ | with_reducible refine below_alloc ?_ _ | with_reducible refine Below.setCell ?_ (by first | omega | (simp; done) | (simp; omega)) _ | with_reducible refine below_then ?_ (by with_reducible assumption) | (refine below_then (a := World.drew _) ?_ (by with_reducible assumption))))⟩
          case rest =>
            obtain ⟨hv153, ga', gb', gc', gs', gp', gu', gv', gq', HB'⟩ := hcut
            subst hv153
            clear ga gb gc gs gp gu gv gq HB
            have ga := ga'
            clear ga'
            have gb := gb'
            clear gb'
            have gc := gc'
            clear gc'
            have gs := gs'
            clear gs'
            have gp := gp'
            clear gp'
            have gu := gu'
            clear gu'
            have gv := gv'
            clear gv'
            have gq := gq'
            clear gq'
            have HB := HB'
            clear HB'
            obtain ⟨X15, hX⟩ : ∃ x, x = wc := ⟨_, rfl⟩
            subst hX
            have hz := Below.refl X15.heap.size X15
            go_upto_if 153 with (fail)
            go_cut [] from 148 to 173 (fun W => Blk W ba 25 #[.int .i64 n1, .int .i64 d1] ∧ Blk W bb 25 #[.int .i64 n2, .int .i64 d2] ∧ Blk W bc 25 #[.int .i64 n3, .int .i64 d3] ∧ Blk W bs 25 #[.int .i64 sN, .int .i64 sD] ∧ Blk W bp 25 #[.int .i64 pN, .int .i64 pD] ∧ Blk W bu 25 #[.int .i64 uN, .int .i64 uD] ∧ Blk W bv 25 #[.int .i64 vN, .int .i64 vD] ∧ Blk W bq 25 #[.int .i64 qN, .int .i64 qD] ∧ Below w.heap.size w W)
            case first =>
              cases c with
              | false =>
                have ca0 : X15.cell? ⟨ba, 0, none⟩ = some (.int .i64 n1) := (ga).cell 0
                have ca1 : X15.cell? ⟨ba, 1, none⟩ = some (.int .i64 d1) := (ga).cell 1
                have cb0 : X15.cell? ⟨bb, 0, none⟩ = some (.int .i64 n2) := (gb).cell 0
                have cb1 : X15.cell? ⟨bb, 1, none⟩ = some (.int .i64 d2) := (gb).cell 1
                have cc0 : X15.cell? ⟨bc, 0, none⟩ = some (.int .i64 n3) := (gc).cell 0
                have cc1 : X15.cell? ⟨bc, 1, none⟩ = some (.int .i64 d3) := (gc).cell 1
                have cs0 : X15.cell? ⟨bs, 0, none⟩ = some (.int .i64 sN) := (gs).cell 0
                have cs1 : X15.cell? ⟨bs, 1, none⟩ = some (.int .i64 sD) := (gs).cell 1
                have cp0 : X15.cell? ⟨bp, 0, none⟩ = some (.int .i64 pN) := (gp).cell 0
                have cp1 : X15.cell? ⟨bp, 1, none⟩ = some (.int .i64 pD) := (gp).cell 1
                have cu0 : X15.cell? ⟨bu, 0, none⟩ = some (.int .i64 uN) := (gu).cell 0
                have cu1 : X15.cell? ⟨bu, 1, none⟩ = some (.int .i64 uD) := (gu).cell 1
                have cv0 : X15.cell? ⟨bv, 0, none⟩ = some (.int .i64 vN) := (gv).cell 0
                have cv1 : X15.cell? ⟨bv, 1, none⟩ = some (.int .i64 vD) := (gv).cell 1
                have cq0 : X15.cell? ⟨bq, 0, none⟩ = some (.int .i64 qN) := (gq).cell 0
                have cq1 : X15.cell? ⟨bq, 1, none⟩ = some (.int .i64 qD) := (gq).cell 1
                go_wp2
                go_meet
                case rel => exact ⟨by (repeat (first | with_reducible assumption | with_reducible exact Blk.new _ _ _ | with_reducible refine Blk.drew ?_ | with_reducible refine Blk.alloc ?_ _ | with_reducible refine Blk.drewN ?_ _ | with_reducible apply Blk.setT0 | with_reducible apply Blk.setT1 | with_reducible refine Blk.far ?_ (by first | (simp; done) | omega | (simp; omega)) _ | with_reducible refine Blk.then_ ?_ (by with_reducible assumption))), by (repeat (first | with_reducible assumption | with_reducible exact Blk.new _ _ _ | with_reducible refine Blk.drew ?_ | with_reducible refine Blk.alloc ?_ _ | with_reducible refine Blk.drewN ?_ _ | with_reducible apply Blk.setT0 | with_reducible apply Blk.setT1 | with_reducible refine Blk.far ?_ (by first | (simp; done) | omega | (simp; omega)) _ | with_reducible refine Blk.then_ ?_ (by with_reducible assumption))), by (repeat (first | with_reducible assumption | with_reducible exact Blk.new _ _ _ | with_reducible refine Blk.drew ?_ | with_reducible refine Blk.alloc ?_ _ | with_reducible refine Blk.drewN ?_ _ | with_reducible apply Blk.setT0 | with_reducible apply Blk.setT1 | with_reducible refine Blk.far ?_ (by first | (simp; done) | omega | (simp; omega)) _ | with_reducible refine Blk.then_ ?_ (by with_reducible assumption))), by (repeat (first | with_reducible assumption | with_reducible exact Blk.new _ _ _ | with_reducible refine Blk.drew ?_ | with_reducible refine Blk.alloc ?_ _ | with_reducible refine Blk.drewN ?_ _ | with_reducible apply Blk.setT0 | with_reducible apply Blk.setT1 | with_reducible refine Blk.far ?_ (by first | (simp; done) | omega | (simp; omega)) _ | with_reducible refine Blk.then_ ?_ (by with_reducible assumption))), by (repeat (first | with_reducible assumption | with_reducible exact Blk.new _ _ _ | with_reducible refine Blk.drew ?_ | with_reducible refine Blk.alloc ?_ _ | with_reducible refine Blk.drewN ?_ _ | with_reducible apply Blk.setT0 | with_reducible apply Blk.setT1 | with_reducible refine Blk.far ?_ (by first | (simp; done) | omega | (simp; omega)) _ | with_reducible refine Blk.then_ ?_ (by with_reducible assumption))), by (repeat (first | with_reducible assumption | with_reducible exact Blk.new _ _ _ | with_reducible refine Blk.drew ?_ | with_reducible refine Blk.alloc ?_ _ | with_reducible refine Blk.drewN ?_ _ | with_reducible apply Blk.setT0 | with_reducible apply Blk.setT1 | with_reducible refine Blk.far ?_ (by first | (simp; done) | omega | (simp; omega)) _ | with_reducible refine Blk.then_ ?_ (by with_reducible assumption))), by (repeat (first | with_reducible assumption | with_reducible exact Blk.new _ _ _ | with_reducible refine Blk.drew ?_ | with_reducible refine Blk.alloc ?_ _ | with_reducible refine Blk.drewN ?_ _ | with_reducible apply Blk.setT0 | with_reducible apply Blk.setT1 | with_reducible refine Blk.far ?_ (by first | (simp; done) | omega | (simp; omega)) _ | with_reducible refine Blk.then_ ?_ (by with_reducible assumption))), by (repeat (first | with_reducible assumption | with_reducible exact Blk.new _ _ _ | with_reducible refine Blk.drew ?_ | with_reducible refine Blk.alloc ?_ _ | with_reducible refine Blk.drewN ?_ _ | with_reducible apply Blk.setT0 | with_reducible apply Blk.setT1 | with_reducible refine Blk.far ?_ (by first | (simp; done) | omega | (simp; omega)) _ | with_reducible refine Blk.then_ ?_ (by with_reducible assumption))), by (repeat (first | with_reducible assumption | with_reducible exact Below.refl _ _ | with_reducible refine below_drewN ?_ _ | with_reducible refine Below.drew ?_ | with_reducible refine below_alloc ?_ _ | with_reducible refine Below.setCell ?_ (by first | omega | (simp; done) | (simp; omega)) _ | with_reducible refine below_then ?_ (by with_reducible assumption) | (refine below_then (a := World.drew _) ?_ (by with_reducible assumption))))⟩
              | true =>
                obtain ⟨h0, h1⟩ := of_decide_eq_true HCC.out.symm
                have HX1' := Lib.hid (fun W => HX1.out W h0 h1)
                have HX2' := Lib.hid (fun W => HX2.out W h0 h1)
                clear h0 h1
                have cs0 : X15.cell? ⟨bs, 0, none⟩ = some (.int .i64 sN) := (gs).cell 0
                have cs1 : X15.cell? ⟨bs, 1, none⟩ = some (.int .i64 sD) := (gs).cell 1
                have cc0 : X15.cell? ⟨bc, 0, none⟩ = some (.int .i64 n3) := (gc).cell 0
                have cc1 : X15.cell? ⟨bc, 1, none⟩ = some (.int .i64 d3) := (gc).cell 1
                go_upto_region 23 with ((go_at_call 17; (with_reducible refine (HX1'.out _).mono ?_); rintro e w1 ⟨rfl, hbw1⟩))
                clear cs0 cs1 cc0 cc1
                refine name_wp ?_
                intro X16 hX
                have na : Blk X16 ba 25 #[.int .i64 n1, .int .i64 d1] := by rw [hX]; (repeat (first | with_reducible assumption | with_reducible exact Blk.new _ _ _ | with_reducible refine Blk.drew ?_ | with_reducible refine Blk.alloc ?_ _ | with_reducible refine Blk.drewN ?_ _ | with_reducible apply Blk.setT0 | with_reducible apply Blk.setT1 | with_reducible refine Blk.far ?_ (by first | (simp; done) | omega | (simp; omega)) _ | with_reducible refine Blk.then_ ?_ (by with_reducible assumption)))
                have nb : Blk X16 bb 25 #[.int .i64 n2, .int .i64 d2] := by rw [hX]; (repeat (first | with_reducible assumption | with_reducible exact Blk.new _ _ _ | with_reducible refine Blk.drew ?_ | with_reducible refine Blk.alloc ?_ _ | with_reducible refine Blk.drewN ?_ _ | with_reducible apply Blk.setT0 | with_reducible apply Blk.setT1 | with_reducible refine Blk.far ?_ (by first | (simp; done) | omega | (simp; omega)) _ | with_reducible refine Blk.then_ ?_ (by with_reducible assumption)))
                have nc : Blk X16 bc 25 #[.int .i64 n3, .int .i64 d3] := by rw [hX]; (repeat (first | with_reducible assumption | with_reducible exact Blk.new _ _ _ | with_reducible refine Blk.drew ?_ | with_reducible refine Blk.alloc ?_ _ | with_reducible refine Blk.drewN ?_ _ | with_reducible apply Blk.setT0 | with_reducible apply Blk.setT1 | with_reducible refine Blk.far ?_ (by first | (simp; done) | omega | (simp; omega)) _ | with_reducible refine Blk.then_ ?_ (by with_reducible assumption)))
                have ns : Blk X16 bs 25 #[.int .i64 sN, .int .i64 sD] := by rw [hX]; (repeat (first | with_reducible assumption | with_reducible exact Blk.new _ _ _ | with_reducible refine Blk.drew ?_ | with_reducible refine Blk.alloc ?_ _ | with_reducible refine Blk.drewN ?_ _ | with_reducible apply Blk.setT0 | with_reducible apply Blk.setT1 | with_reducible refine Blk.far ?_ (by first | (simp; done) | omega | (simp; omega)) _ | with_reducible refine Blk.then_ ?_ (by with_reducible assumption)))
                have np : Blk X16 bp 25 #[.int .i64 pN, .int .i64 pD] := by rw [hX]; (repeat (first | with_reducible assumption | with_reducible exact Blk.new _ _ _ | with_reducible refine Blk.drew ?_ | with_reducible refine Blk.alloc ?_ _ | with_reducible refine Blk.drewN ?_ _ | with_reducible apply Blk.setT0 | with_reducible apply Blk.setT1 | with_reducible refine Blk.far ?_ (by first | (simp; done) | omega | (simp; omega)) _ | with_reducible refine Blk.then_ ?_ (by with_reducible assumption)))
                have nu : Blk X16 bu 25 #[.int .i64 uN, .int .i64 uD] := by rw [hX]; (repeat (first | with_reducible assumption | with_reducible exact Blk.new _ _ _ | with_reducible refine Blk.drew ?_ | with_reducible refine Blk.alloc ?_ _ | with_reducible refine Blk.drewN ?_ _ | with_reducible apply Blk.setT0 | with_reducible apply Blk.setT1 | with_reducible refine Blk.far ?_ (by first | (simp; done) | omega | (simp; omega)) _ | with_reducible refine Blk.then_ ?_ (by with_reducible assumption)))
                have nv : Blk X16 bv 25 #[.int .i64 vN, .int .i64 vD] := by rw [hX]; (repeat (first | with_reducible assumption | with_reducible exact Blk.new _ _ _ | with_reducible refine Blk.drew ?_ | with_reducible refine Blk.alloc ?_ _ | with_reducible refine Blk.drewN ?_ _ | with_reducible apply Blk.setT0 | with_reducible apply Blk.setT1 | with_reducible refine Blk.far ?_ (by first | (simp; done) | omega | (simp; omega)) _ | with_reducible refine Blk.then_ ?_ (by with_reducible assumption)))
                have nq : Blk X16 bq 25 #[.int .i64 qN, .int .i64 qD] := by rw [hX]; (repeat (first | with_reducible assumption | with_reducible exact Blk.new _ _ _ | with_reducible refine Blk.drew ?_ | with_reducible refine Blk.alloc ?_ _ | with_reducible refine Blk.drewN ?_ _ | with_reducible apply Blk.setT0 | with_reducible apply Blk.setT1 | with_reducible refine Blk.far ?_ (by first | (simp; done) | omega | (simp; omega)) _ | with_reducible refine Blk.then_ ?_ (by with_reducible assumption)))
                have nx : Blk X16 (w1.heap.size) 25 #[.int .i64 xN, .int .i64 xD] := by rw [hX]; exact Blk.new _ _ _
                have lx : w.heap.size ≤ w1.heap.size := (below_then HB hbw1).size
                have oax : ba < w1.heap.size := (ga.then_ hbw1).lt
                have obx : bb < w1.heap.size := (gb.then_ hbw1).lt
                have ocx : bc < w1.heap.size := (gc.then_ hbw1).lt
                have osx : bs < w1.heap.size := (gs.then_ hbw1).lt
                have opx : bp < w1.heap.size := (gp.then_ hbw1).lt
                have oux : bu < w1.heap.size := (gu.then_ hbw1).lt
                have ovx : bv < w1.heap.size := (gv.then_ hbw1).lt
                have oqx : bq < w1.heap.size := (gq.then_ hbw1).lt
                have NB : Below w.heap.size w X16 := by rw [hX]; (repeat (first | with_reducible assumption | with_reducible exact Below.refl _ _ | with_reducible refine below_drewN ?_ _ | with_reducible refine Below.drew ?_ | with_reducible refine below_alloc ?_ _ | with_reducible refine Below.setCell ?_ (by first | omega | (simp; done) | (simp; omega)) _ | with_reducible refine below_then ?_ (by with_reducible assumption) | (refine below_then (a := World.drew _) ?_ (by with_reducible assumption))))
                clear hX ga gb gc gs gp gu gv gq HB
                obtain ⟨bx, eb⟩ : ∃ b, w1.heap.size = b := ⟨_, rfl⟩
                rw [eb] at nx lx oax obx ocx osx opx oux ovx oqx ⊢
                clear eb
                have ga := na
                clear na
                have gb := nb
                clear nb
                have gc := nc
                clear nc
                have gs := ns
                clear ns
                have gp := np
                clear np
                have gu := nu
                clear nu
                have gv := nv
                clear nv
                have gq := nq
                clear nq
                have gx := nx
                clear nx
                have HB := NB
                clear NB
                have hz := Below.refl X16.heap.size X16
                have ca0 : X16.cell? ⟨ba, 0, none⟩ = some (.int .i64 n1) := (ga).cell 0
                have ca1 : X16.cell? ⟨ba, 1, none⟩ = some (.int .i64 d1) := (ga).cell 1
                have cu0 : X16.cell? ⟨bu, 0, none⟩ = some (.int .i64 uN) := (gu).cell 0
                have cu1 : X16.cell? ⟨bu, 1, none⟩ = some (.int .i64 uD) := (gu).cell 1
                go_upto_region 24 with ((go_at_call 17; (with_reducible refine (HX2'.out _).mono ?_); rintro e w1 ⟨rfl, hbw1⟩))
                clear ca0 ca1 cu0 cu1
                refine name_wp ?_
                intro X17 hX
                have na : Blk X17 ba 25 #[.int .i64 n1, .int .i64 d1] := by rw [hX]; (repeat (first | with_reducible assumption | with_reducible exact Blk.new _ _ _ | with_reducible refine Blk.drew ?_ | with_reducible refine Blk.alloc ?_ _ | with_reducible refine Blk.drewN ?_ _ | with_reducible apply Blk.setT0 | with_reducible apply Blk.setT1 | with_reducible refine Blk.far ?_ (by first | (simp; done) | omega | (simp; omega)) _ | with_reducible refine Blk.then_ ?_ (by with_reducible assumption)))
                have nb : Blk X17 bb 25 #[.int .i64 n2, .int .i64 d2] := by rw [hX]; (repeat (first | with_reducible assumption | with_reducible exact Blk.new _ _ _ | with_reducible refine Blk.drew ?_ | with_reducible refine Blk.alloc ?_ _ | with_reducible refine Blk.drewN ?_ _ | with_reducible apply Blk.setT0 | with_reducible apply Blk.setT1 | with_reducible refine Blk.far ?_ (by first | (simp; done) | omega | (simp; omega)) _ | with_reducible refine Blk.then_ ?_ (by with_reducible assumption)))
                have nc : Blk X17 bc 25 #[.int .i64 n3, .int .i64 d3] := by rw [hX]; (repeat (first | with_reducible assumption | with_reducible exact Blk.new _ _ _ | with_reducible refine Blk.drew ?_ | with_reducible refine Blk.alloc ?_ _ | with_reducible refine Blk.drewN ?_ _ | with_reducible apply Blk.setT0 | with_reducible apply Blk.setT1 | with_reducible refine Blk.far ?_ (by first | (simp; done) | omega | (simp; omega)) _ | with_reducible refine Blk.then_ ?_ (by with_reducible assumption)))
                have ns : Blk X17 bs 25 #[.int .i64 sN, .int .i64 sD] := by rw [hX]; (repeat (first | with_reducible assumption | with_reducible exact Blk.new _ _ _ | with_reducible refine Blk.drew ?_ | with_reducible refine Blk.alloc ?_ _ | with_reducible refine Blk.drewN ?_ _ | with_reducible apply Blk.setT0 | with_reducible apply Blk.setT1 | with_reducible refine Blk.far ?_ (by first | (simp; done) | omega | (simp; omega)) _ | with_reducible refine Blk.then_ ?_ (by with_reducible assumption)))
                have np : Blk X17 bp 25 #[.int .i64 pN, .int .i64 pD] := by rw [hX]; (repeat (first | with_reducible assumption | with_reducible exact Blk.new _ _ _ | with_reducible refine Blk.drew ?_ | with_reducible refine Blk.alloc ?_ _ | with_reducible refine Blk.drewN ?_ _ | with_reducible apply Blk.setT0 | with_reducible apply Blk.setT1 | with_reducible refine Blk.far ?_ (by first | (simp; done) | omega | (simp; omega)) _ | with_reducible refine Blk.then_ ?_ (by with_reducible assumption)))
                have nu : Blk X17 bu 25 #[.int .i64 uN, .int .i64 uD] := by rw [hX]; (repeat (first | with_reducible assumption | with_reducible exact Blk.new _ _ _ | with_reducible refine Blk.drew ?_ | with_reducible refine Blk.alloc ?_ _ | with_reducible refine Blk.drewN ?_ _ | with_reducible apply Blk.setT0 | with_reducible apply Blk.setT1 | with_reducible refine Blk.far ?_ (by first | (simp; done) | omega | (simp; omega)) _ | with_reducible refine Blk.then_ ?_ (by with_reducible assumption)))
                have nv : Blk X17 bv 25 #[.int .i64 vN, .int .i64 vD] := by rw [hX]; (repeat (first | with_reducible assumption | with_reducible exact Blk.new _ _ _ | with_reducible refine Blk.drew ?_ | with_reducible refine Blk.alloc ?_ _ | with_reducible refine Blk.drewN ?_ _ | with_reducible apply Blk.setT0 | with_reducible apply Blk.setT1 | with_reducible refine Blk.far ?_ (by first | (simp; done) | omega | (simp; omega)) _ | with_reducible refine Blk.then_ ?_ (by with_reducible assumption)))
                have nq : Blk X17 bq 25 #[.int .i64 qN, .int .i64 qD] := by rw [hX]; (repeat (first | with_reducible assumption | with_reducible exact Blk.new _ _ _ | with_reducible refine Blk.drew ?_ | with_reducible refine Blk.alloc ?_ _ | with_reducible refine Blk.drewN ?_ _ | with_reducible apply Blk.setT0 | with_reducible apply Blk.setT1 | with_reducible refine Blk.far ?_ (by first | (simp; done) | omega | (simp; omega)) _ | with_reducible refine Blk.then_ ?_ (by with_reducible assumption)))
                have nx : Blk X17 bx 25 #[.int .i64 xN, .int .i64 xD] := by rw [hX]; (repeat (first | with_reducible assumption | with_reducible exact Blk.new _ _ _ | with_reducible refine Blk.drew ?_ | with_reducible refine Blk.alloc ?_ _ | with_reducible refine Blk.drewN ?_ _ | with_reducible apply Blk.setT0 | with_reducible apply Blk.setT1 | with_reducible refine Blk.far ?_ (by first | (simp; done) | omega | (simp; omega)) _ | with_reducible refine Blk.then_ ?_ (by with_reducible assumption)))
                have nj : Blk X17 (w1.heap.size) 25 #[.int .i64 xN, .int .i64 xD] := by rw [hX]; exact Blk.new _ _ _
                have lj : w.heap.size ≤ w1.heap.size := (below_then HB hbw1).size
                have oaj : ba < w1.heap.size := (ga.then_ hbw1).lt
                have obj : bb < w1.heap.size := (gb.then_ hbw1).lt
                have ocj : bc < w1.heap.size := (gc.then_ hbw1).lt
                have osj : bs < w1.heap.size := (gs.then_ hbw1).lt
                have opj : bp < w1.heap.size := (gp.then_ hbw1).lt
                have ouj : bu < w1.heap.size := (gu.then_ hbw1).lt
                have ovj : bv < w1.heap.size := (gv.then_ hbw1).lt
                have oqj : bq < w1.heap.size := (gq.then_ hbw1).lt
                have oxj : bx < w1.heap.size := (gx.then_ hbw1).lt
                have NB : Below w.heap.size w X17 := by rw [hX]; (repeat (first | with_reducible assumption | with_reducible exact Below.refl _ _ | with_reducible refine below_drewN ?_ _ | with_reducible refine Below.drew ?_ | with_reducible refine below_alloc ?_ _ | with_reducible refine Below.setCell ?_ (by first | omega | (simp; done) | (simp; omega)) _ | with_reducible refine below_then ?_ (by with_reducible assumption) | (refine below_then (a := World.drew _) ?_ (by with_reducible assumption))))
                clear hX ga gb gc gs gp gu gv gq gx HB
                obtain ⟨bj, eb⟩ : ∃ b, w1.heap.size = b := ⟨_, rfl⟩
                rw [eb] at nj lj oaj obj ocj osj opj ouj ovj oqj oxj ⊢
                clear eb
                have ga := na
                clear na
                have gb := nb
                clear nb
                have gc := nc
                clear nc
                have gs := ns
                clear ns
                have gp := np
                clear np
                have gu := nu
                clear nu
                have gv := nv
                clear nv
                have gq := nq
                clear nq
                have gx := nx
                clear nx
                have gj := nj
                clear nj
                have HB := NB
                clear NB
                have hz := Below.refl X17.heap.size X17
                have heq := fun W => eqv_yes xN xD W
                have ca0 : X17.cell? ⟨ba, 0, none⟩ = some (.int .i64 n1) := (ga).cell 0
                have ca1 : X17.cell? ⟨ba, 1, none⟩ = some (.int .i64 d1) := (ga).cell 1
                have cb0 : X17.cell? ⟨bb, 0, none⟩ = some (.int .i64 n2) := (gb).cell 0
                have cb1 : X17.cell? ⟨bb, 1, none⟩ = some (.int .i64 d2) := (gb).cell 1
                have cc0 : X17.cell? ⟨bc, 0, none⟩ = some (.int .i64 n3) := (gc).cell 0
                have cc1 : X17.cell? ⟨bc, 1, none⟩ = some (.int .i64 d3) := (gc).cell 1
                have cs0 : X17.cell? ⟨bs, 0, none⟩ = some (.int .i64 sN) := (gs).cell 0
                have cs1 : X17.cell? ⟨bs, 1, none⟩ = some (.int .i64 sD) := (gs).cell 1
                have cp0 : X17.cell? ⟨bp, 0, none⟩ = some (.int .i64 pN) := (gp).cell 0
                have cp1 : X17.cell? ⟨bp, 1, none⟩ = some (.int .i64 pD) := (gp).cell 1
                have cu0 : X17.cell? ⟨bu, 0, none⟩ = some (.int .i64 uN) := (gu).cell 0
                have cu1 : X17.cell? ⟨bu, 1, none⟩ = some (.int .i64 uD) := (gu).cell 1
                have cv0 : X17.cell? ⟨bv, 0, none⟩ = some (.int .i64 vN) := (gv).cell 0
                have cv1 : X17.cell? ⟨bv, 1, none⟩ = some (.int .i64 vD) := (gv).cell 1
                have cq0 : X17.cell? ⟨bq, 0, none⟩ = some (.int .i64 qN) := (gq).cell 0
                have cq1 : X17.cell? ⟨bq, 1, none⟩ = some (.int .i64 qD) := (gq).cell 1
                have cx0 : X17.cell? ⟨bx, 0, none⟩ = some (.int .i64 xN) := (gx).cell 0
                have cx1 : X17.cell? ⟨bx, 1, none⟩ = some (.int .i64 xD) := (gx).cell 1
                have cj0 : X17.cell? ⟨bj, 0, none⟩ = some (.int .i64 xN) := (gj).cell 0
                have cj1 : X17.cell? ⟨bj, 1, none⟩ = some (.int .i64 xD) := (gj).cell 1
                go_wp2
                go_meet
                case rel => exact ⟨by (repeat (first | with_reducible assumption | with_reducible exact Blk.new _ _ _ | with_reducible refine Blk.drew ?_ | with_reducible refine Blk.alloc ?_ _ | with_reducible refine Blk.drewN ?_ _ | with_reducible apply Blk.setT0 | with_reducible apply Blk.setT1 | with_reducible refine Blk.far ?_ (by first | (simp; done) | omega | (simp; omega)) _ | with_reducible refine Blk.then_ ?_ (by with_reducible assumption))), by (repeat (first | with_reducible assumption | with_reducible exact Blk.new _ _ _ | with_reducible refine Blk.drew ?_ | with_reducible refine Blk.alloc ?_ _ | with_reducible refine Blk.drewN ?_ _ | with_reducible apply Blk.setT0 | with_reducible apply Blk.setT1 | with_reducible refine Blk.far ?_ (by first | (simp; done) | omega | (simp; omega)) _ | with_reducible refine Blk.then_ ?_ (by with_reducible assumption))), by (repeat (first | with_reducible assumption | with_reducible exact Blk.new _ _ _ | with_reducible refine Blk.drew ?_ | with_reducible refine Blk.alloc ?_ _ | with_reducible refine Blk.drewN ?_ _ | with_reducible apply Blk.setT0 | with_reducible apply Blk.setT1 | with_reducible refine Blk.far ?_ (by first | (simp; done) | omega | (simp; omega)) _ | with_reducible refine Blk.then_ ?_ (by with_reducible assumption))), by (repeat (first | with_reducible assumption | with_reducible exact Blk.new _ _ _ | with_reducible refine Blk.drew ?_ | with_reducible refine Blk.alloc ?_ _ | with_reducible refine Blk.drewN ?_ _ | with_reducible apply Blk.setT0 | with_reducible apply Blk.setT1 | with_reducible refine Blk.far ?_ (by first | (simp; done) | omega | (simp; omega)) _ | with_reducible refine Blk.then_ ?_ (by with_reducible assumption))), by (repeat (first | with_reducible assumption | with_reducible exact Blk.new _ _ _ | with_reducible refine Blk.drew ?_ | with_reducible refine Blk.alloc ?_ _ | with_reducible refine Blk.drewN ?_ _ | with_reducible apply Blk.setT0 | with_reducible apply Blk.setT1 | with_reducible refine Blk.far ?_ (by first | (simp; done) | omega | (simp; omega)) _ | with_reducible refine Blk.then_ ?_ (by with_reducible assumption))), by (repeat (first | with_reducible assumption | with_reducible exact Blk.new _ _ _ | with_reducible refine Blk.drew ?_ | with_reducible refine Blk.alloc ?_ _ | with_reducible refine Blk.drewN ?_ _ | with_reducible apply Blk.setT0 | with_reducible apply Blk.setT1 | with_reducible refine Blk.far ?_ (by first | (simp; done) | omega | (simp; omega)) _ | with_reducible refine Blk.then_ ?_ (by with_reducible assumption))), by (repeat (first | with_reducible assumption | with_reducible exact Blk.new _ _ _ | with_reducible refine Blk.drew ?_ | with_reducible refine Blk.alloc ?_ _ | with_reducible refine Blk.drewN ?_ _ | with_reducible apply Blk.setT0 | with_reducible apply Blk.setT1 | with_reducible refine Blk.far ?_ (by first | (simp; done) | omega | (simp; omega)) _ | with_reducible refine Blk.then_ ?_ (by with_reducible assumption))), by (repeat (first | with_reducible assumption | with_reducible exact Blk.new _ _ _ | with_reducible refine Blk.drew ?_ | with_reducible refine Blk.alloc ?_ _ | with_reducible refine Blk.drewN ?_ _ | with_reducible apply Blk.setT0 | with_reducible apply Blk.setT1 | with_reducible refine Blk.far ?_ (by first | (simp; done) | omega | (simp; omega)) _ | with_reducible refine Blk.then_ ?_ (by with_reducible assumption))), by (repeat (first | with_reducible assumption | with_reducible exact Below.refl _ _ | with_reducible refine below_drewN ?_ _ | with_reducible refine Below.drew ?_ | with_reducible refine below_alloc ?_ _ | with_reducible refine Below.setCell ?_ (by first | omega | (simp; done) | (simp; omega)) _ | with_reducible refine below_then ?_ (by with_reducible assumption) | (refine below_then (a := World.drew _) ?_ (by with_reducible assumption))))⟩
            case rest =>
              obtain ⟨ga', gb', gc', gs', gp', gu', gv', gq', HB'⟩ := hcut
              clear ga gb gc gs gp gu gv gq HB
              have ga := ga'
              clear ga'
              have gb := gb'
              clear gb'
              have gc := gc'
              clear gc'
              have gs := gs'
              clear gs'
              have gp := gp'
              clear gp'
              have gu := gu'
              clear gu'
              have gv := gv'
              clear gv'
              have gq := gq'
              clear gq'
              have HB := HB'
              clear HB'
              obtain ⟨X16, hX⟩ : ∃ x, x = wc := ⟨_, rfl⟩
              subst hX
              have hz := Below.refl X16.heap.size X16
              clear HCC
              clear HX1 HX2
              have HCC : ∃ c : Bool, Hid (c = decide (pE = 0 ∧ vE = 0)) := ⟨_, rfl⟩
              obtain ⟨c, HCC⟩ := HCC
              have ca0 : X16.cell? ⟨ba, 0, none⟩ = some (.int .i64 n1) := (ga).cell 0
              have ca1 : X16.cell? ⟨ba, 1, none⟩ = some (.int .i64 d1) := (ga).cell 1
              have cb0 : X16.cell? ⟨bb, 0, none⟩ = some (.int .i64 n2) := (gb).cell 0
              have cb1 : X16.cell? ⟨bb, 1, none⟩ = some (.int .i64 d2) := (gb).cell 1
              have cc0 : X16.cell? ⟨bc, 0, none⟩ = some (.int .i64 n3) := (gc).cell 0
              have cc1 : X16.cell? ⟨bc, 1, none⟩ = some (.int .i64 d3) := (gc).cell 1
              have cs0 : X16.cell? ⟨bs, 0, none⟩ = some (.int .i64 sN) := (gs).cell 0
              have cs1 : X16.cell? ⟨bs, 1, none⟩ = some (.int .i64 sD) := (gs).cell 1
              have cp0 : X16.cell? ⟨bp, 0, none⟩ = some (.int .i64 pN) := (gp).cell 0
              have cp1 : X16.cell? ⟨bp, 1, none⟩ = some (.int .i64 pD) := (gp).cell 1
              have cu0 : X16.cell? ⟨bu, 0, none⟩ = some (.int .i64 uN) := (gu).cell 0
              have cu1 : X16.cell? ⟨bu, 1, none⟩ = some (.int .i64 uD) := (gu).cell 1
              have cv0 : X16.cell? ⟨bv, 0, none⟩ = some (.int .i64 vN) := (gv).cell 0
              have cv1 : X16.cell? ⟨bv, 1, none⟩ = some (.int .i64 vD) := (gv).cell 1
              have cq0 : X16.cell? ⟨bq, 0, none⟩ = some (.int .i64 qN) := (gq).cell 0
              have cq1 : X16.cell? ⟨bq, 1, none⟩ = some (.int .i64 qD) := (gq).cell 1
              go_upto_region 26 with (fail)
              clear ca0 ca1 cb0 cb1 cc0 cc1 cs0 cs1 cp0 cp1 cu0 cu1 cv0 cv1 cq0 cq1
              go_cut [179] from 174 to 179 (fun v179 W => v179 = .bool c ∧ Blk W ba 25 #[.int .i64 n1, .int .i64 d1] ∧ Blk W bb 25 #[.int .i64 n2, .int .i64 d2] ∧ Blk W bc 25 #[.int .i64 n3, .int .i64 d3] ∧ Blk W bs 25 #[.int .i64 sN, .int .i64 sD] ∧ Blk W bp 25 #[.int .i64 pN, .int .i64 pD] ∧ Blk W bu 25 #[.int .i64 uN, .int .i64 uD] ∧ Blk W bv 25 #[.int .i64 vN, .int .i64 vD] ∧ Blk W bq 25 #[.int .i64 qN, .int .i64 qD] ∧ Below w.heap.size w W)
              case first =>
                by_cases h8 : pE = 0
                · have th8a : (pE == 0) = true := by simp [h8]
                  have th8b : (pE != 0) = false := by simp [h8]
                  by_cases h9 : vE = 0
                  · have th9a : (vE == 0) = true := by simp [h9]
                    have th9b : (vE != 0) = false := by simp [h9]
                    have hcv : c = true := by rw [HCC.out]; simp [h8, h9]
                    clear h8 h9
                    have ca0 : X16.cell? ⟨ba, 0, none⟩ = some (.int .i64 n1) := (ga).cell 0
                    have ca1 : X16.cell? ⟨ba, 1, none⟩ = some (.int .i64 d1) := (ga).cell 1
                    have cb0 : X16.cell? ⟨bb, 0, none⟩ = some (.int .i64 n2) := (gb).cell 0
                    have cb1 : X16.cell? ⟨bb, 1, none⟩ = some (.int .i64 d2) := (gb).cell 1
                    have cc0 : X16.cell? ⟨bc, 0, none⟩ = some (.int .i64 n3) := (gc).cell 0
                    have cc1 : X16.cell? ⟨bc, 1, none⟩ = some (.int .i64 d3) := (gc).cell 1
                    have cs0 : X16.cell? ⟨bs, 0, none⟩ = some (.int .i64 sN) := (gs).cell 0
                    have cs1 : X16.cell? ⟨bs, 1, none⟩ = some (.int .i64 sD) := (gs).cell 1
                    have cp0 : X16.cell? ⟨bp, 0, none⟩ = some (.int .i64 pN) := (gp).cell 0
                    have cp1 : X16.cell? ⟨bp, 1, none⟩ = some (.int .i64 pD) := (gp).cell 1
                    have cu0 : X16.cell? ⟨bu, 0, none⟩ = some (.int .i64 uN) := (gu).cell 0
                    have cu1 : X16.cell? ⟨bu, 1, none⟩ = some (.int .i64 uD) := (gu).cell 1
                    have cv0 : X16.cell? ⟨bv, 0, none⟩ = some (.int .i64 vN) := (gv).cell 0
                    have cv1 : X16.cell? ⟨bv, 1, none⟩ = some (.int .i64 vD) := (gv).cell 1
                    have cq0 : X16.cell? ⟨bq, 0, none⟩ = some (.int .i64 qN) := (gq).cell 0
                    have cq1 : X16.cell? ⟨bq, 1, none⟩ = some (.int .i64 qD) := (gq).cell 1
                    go_wp2
                    go_meet
                    case rel => exact ⟨by first | (rw [hcv]; done) | (rw [hcv]; rfl) | simp [hcv, *], by (repeat (first | with_reducible assumption | with_reducible exact Blk.new _ _ _ | with_reducible refine Blk.drew ?_ | with_reducible refine Blk.alloc ?_ _ | with_reducible refine Blk.drewN ?_ _ | with_reducible apply Blk.setT0 | with_reducible apply Blk.setT1 | with_reducible refine Blk.far ?_ (by first | (simp; done) | omega | (simp; omega)) _ | with_reducible refine Blk.then_ ?_ (by with_reducible assumption))), by (repeat (first | with_reducible assumption | with_reducible exact Blk.new _ _ _ | with_reducible refine Blk.drew ?_ | with_reducible refine Blk.alloc ?_ _ | with_reducible refine Blk.drewN ?_ _ | with_reducible apply Blk.setT0 | with_reducible apply Blk.setT1 | with_reducible refine Blk.far ?_ (by first | (simp; done) | omega | (simp; omega)) _ | with_reducible refine Blk.then_ ?_ (by with_reducible assumption))), by (repeat (first | with_reducible assumption | with_reducible exact Blk.new _ _ _ | with_reducible refine Blk.drew ?_ | with_reducible refine Blk.alloc ?_ _ | with_reducible refine Blk.drewN ?_ _ | with_reducible apply Blk.setT0 | with_reducible apply Blk.setT1 | with_reducible refine Blk.far ?_ (by first | (simp; done) | omega | (simp; omega)) _ | with_reducible refine Blk.then_ ?_ (by with_reducible assumption))), by (repeat (first | with_reducible assumption | with_reducible exact Blk.new _ _ _ | with_reducible refine Blk.drew ?_ | with_reducible refine Blk.alloc ?_ _ | with_reducible refine Blk.drewN ?_ _ | with_reducible apply Blk.setT0 | with_reducible apply Blk.setT1 | with_reducible refine Blk.far ?_ (by first | (simp; done) | omega | (simp; omega)) _ | with_reducible refine Blk.then_ ?_ (by with_reducible assumption))), by (repeat (first | with_reducible assumption | with_reducible exact Blk.new _ _ _ | with_reducible refine Blk.drew ?_ | with_reducible refine Blk.alloc ?_ _ | with_reducible refine Blk.drewN ?_ _ | with_reducible apply Blk.setT0 | with_reducible apply Blk.setT1 | with_reducible refine Blk.far ?_ (by first | (simp; done) | omega | (simp; omega)) _ | with_reducible refine Blk.then_ ?_ (by with_reducible assumption))), by (repeat (first | with_reducible assumption | with_reducible exact Blk.new _ _ _ | with_reducible refine Blk.drew ?_ | with_reducible refine Blk.alloc ?_ _ | with_reducible refine Blk.drewN ?_ _ | with_reducible apply Blk.setT0 | with_reducible apply Blk.setT1 | with_reducible refine Blk.far ?_ (by first | (simp; done) | omega | (simp; omega)) _ | with_reducible refine Blk.then_ ?_ (by with_reducible assumption))), by (repeat (first | with_reducible assumption | with_reducible exact Blk.new _ _ _ | with_reducible refine Blk.drew ?_ | with_reducible refine Blk.alloc ?_ _ | with_reducible refine Blk.drewN ?_ _ | with_reducible apply Blk.setT0 | with_reducible apply Blk.setT1 | with_reducible refine Blk.far ?_ (by first | (simp; done) | omega | (simp; omega)) _ | with_reducible refine Blk.then_ ?_ (by with_reducible assumption))), by (repeat (first | with_reducible assumption | with_reducible exact Blk.new _ _ _ | with_reducible refine Blk.drew ?_ | with_reducible refine Blk.alloc ?_ _ | with_reducible refine Blk.drewN ?_ _ | with_reducible apply Blk.setT0 | with_reducible apply Blk.setT1 | with_reducible refine Blk.far ?_ (by first | (simp; done) | omega | (simp; omega)) _ | with_reducible refine Blk.then_ ?_ (by with_reducible assumption))), by (repeat (first | with_reducible assumption | with_reducible exact Below.refl _ _ | with_reducible refine below_drewN ?_ _ | with_reducible refine Below.drew ?_ | with_reducible refine below_alloc ?_ _ | with_reducible refine Below.setCell ?_ (by first | omega | (simp; done) | (simp; omega)) _ | with_reducible refine below_then ?_ (by with_reducible assumption) | (refine below_then (a := World.drew _) ?_ (by with_reducible assumption))))⟩
                  · have th9a : (vE == 0) = false := by simp [h9]
                    have th9b : (vE != 0) = true := by simp [h9]
                    have hcv : c = false := by rw [HCC.out]; simp [h8, h9]
                    clear h8 h9
                    have ca0 : X16.cell? ⟨ba, 0, none⟩ = some (.int .i64 n1) := (ga).cell 0
                    have ca1 : X16.cell? ⟨ba, 1, none⟩ = some (.int .i64 d1) := (ga).cell 1
                    have cb0 : X16.cell? ⟨bb, 0, none⟩ = some (.int .i64 n2) := (gb).cell 0
                    have cb1 : X16.cell? ⟨bb, 1, none⟩ = some (.int .i64 d2) := (gb).cell 1
                    have cc0 : X16.cell? ⟨bc, 0, none⟩ = some (.int .i64 n3) := (gc).cell 0
                    have cc1 : X16.cell? ⟨bc, 1, none⟩ = some (.int .i64 d3) := (gc).cell 1
                    have cs0 : X16.cell? ⟨bs, 0, none⟩ = some (.int .i64 sN) := (gs).cell 0
                    have cs1 : X16.cell? ⟨bs, 1, none⟩ = some (.int .i64 sD) := (gs).cell 1
                    have cp0 : X16.cell? ⟨bp, 0, none⟩ = some (.int .i64 pN) := (gp).cell 0
                    have cp1 : X16.cell? ⟨bp, 1, none⟩ = some (.int .i64 pD) := (gp).cell 1
                    have cu0 : X16.cell? ⟨bu, 0, none⟩ = some (.int .i64 uN) := (gu).cell 0
                    have cu1 : X16.cell? ⟨bu, 1, none⟩ = some (.int .i64 uD) := (gu).cell 1
                    have cv0 : X16.cell? ⟨bv, 0, none⟩ = some (.int .i64 vN) := (gv).cell 0
                    have cv1 : X16.cell? ⟨bv, 1, none⟩ = some (.int .i64 vD) := (gv).cell 1
                    have cq0 : X16.cell? ⟨bq, 0, none⟩ = some (.int .i64 qN) := (gq).cell 0
                    have cq1 : X16.cell? ⟨bq, 1, none⟩ = some (.int .i64 qD) := (gq).cell 1
                    go_wp2
                    go_meet
                    case rel => exact ⟨by first | (rw [hcv]; done) | (rw [hcv]; rfl) | simp [hcv, *], by (repeat (first | with_reducible assumption | with_reducible exact Blk.new _ _ _ | with_reducible refine Blk.drew ?_ | with_reducible refine Blk.alloc ?_ _ | with_reducible refine Blk.drewN ?_ _ | with_reducible apply Blk.setT0 | with_reducible apply Blk.setT1 | with_reducible refine Blk.far ?_ (by first | (simp; done) | omega | (simp; omega)) _ | with_reducible refine Blk.then_ ?_ (by with_reducible assumption))), by (repeat (first | with_reducible assumption | with_reducible exact Blk.new _ _ _ | with_reducible refine Blk.drew ?_ | with_reducible refine Blk.alloc ?_ _ | with_reducible refine Blk.drewN ?_ _ | with_reducible apply Blk.setT0 | with_reducible apply Blk.setT1 | with_reducible refine Blk.far ?_ (by first | (simp; done) | omega | (simp; omega)) _ | with_reducible refine Blk.then_ ?_ (by with_reducible assumption))), by (repeat (first | with_reducible assumption | with_reducible exact Blk.new _ _ _ | with_reducible refine Blk.drew ?_ | with_reducible refine Blk.alloc ?_ _ | with_reducible refine Blk.drewN ?_ _ | with_reducible apply Blk.setT0 | with_reducible apply Blk.setT1 | with_reducible refine Blk.far ?_ (by first | (simp; done) | omega | (simp; omega)) _ | with_reducible refine Blk.then_ ?_ (by with_reducible assumption))), by (repeat (first | with_reducible assumption | with_reducible exact Blk.new _ _ _ | with_reducible refine Blk.drew ?_ | with_reducible refine Blk.alloc ?_ _ | with_reducible refine Blk.drewN ?_ _ | with_reducible apply Blk.setT0 | with_reducible apply Blk.setT1 | with_reducible refine Blk.far ?_ (by first | (simp; done) | omega | (simp; omega)) _ | with_reducible refine Blk.then_ ?_ (by with_reducible assumption))), by (repeat (first | with_reducible assumption | with_reducible exact Blk.new _ _ _ | with_reducible refine Blk.drew ?_ | with_reducible refine Blk.alloc ?_ _ | with_reducible refine Blk.drewN ?_ _ | with_reducible apply Blk.setT0 | with_reducible apply Blk.setT1 | with_reducible refine Blk.far ?_ (by first | (simp; done) | omega | (simp; omega)) _ | with_reducible refine Blk.then_ ?_ (by with_reducible assumption))), by (repeat (first | with_reducible assumption | with_reducible exact Blk.new _ _ _ | with_reducible refine Blk.drew ?_ | with_reducible refine Blk.alloc ?_ _ | with_reducible refine Blk.drewN ?_ _ | with_reducible apply Blk.setT0 | with_reducible apply Blk.setT1 | with_reducible refine Blk.far ?_ (by first | (simp; done) | omega | (simp; omega)) _ | with_reducible refine Blk.then_ ?_ (by with_reducible assumption))), by (repeat (first | with_reducible assumption | with_reducible exact Blk.new _ _ _ | with_reducible refine Blk.drew ?_ | with_reducible refine Blk.alloc ?_ _ | with_reducible refine Blk.drewN ?_ _ | with_reducible apply Blk.setT0 | with_reducible apply Blk.setT1 | with_reducible refine Blk.far ?_ (by first | (simp; done) | omega | (simp; omega)) _ | with_reducible refine Blk.then_ ?_ (by with_reducible assumption))), by (repeat (first | with_reducible assumption | with_reducible exact Blk.new _ _ _ | with_reducible refine Blk.drew ?_ | with_reducible refine Blk.alloc ?_ _ | with_reducible refine Blk.drewN ?_ _ | with_reducible apply Blk.setT0 | with_reducible apply Blk.setT1 | with_reducible refine Blk.far ?_ (by first | (simp; done) | omega | (simp; omega)) _ | with_reducible refine Blk.then_ ?_ (by with_reducible assumption))), by (repeat (first | with_reducible assumption | with_reducible exact Below.refl _ _ | with_reducible refine below_drewN ?_ _ | with_reducible refine Below.drew ?_ | with_reducible refine below_alloc ?_ _ | with_reducible refine Below.setCell ?_ (by first | omega | (simp; done) | (simp; omega)) _ | with_reducible refine below_then ?_ (by with_reducible assumption) | (refine below_then (a := World.drew _) ?_ (by with_reducible assumption))))⟩
                · have th8a : (pE == 0) = false := by simp [h8]
                  have th8b : (pE != 0) = true := by simp [h8]
                  have hcv : c = false := by rw [HCC.out]; simp [h8]
                  clear h8
                  have ca0 : X16.cell? ⟨ba, 0, none⟩ = some (.int .i64 n1) := (ga).cell 0
                  have ca1 : X16.cell? ⟨ba, 1, none⟩ = some (.int .i64 d1) := (ga).cell 1
                  have cb0 : X16.cell? ⟨bb, 0, none⟩ = some (.int .i64 n2) := (gb).cell 0
                  have cb1 : X16.cell? ⟨bb, 1, none⟩ = some (.int .i64 d2) := (gb).cell 1
                  have cc0 : X16.cell? ⟨bc, 0, none⟩ = some (.int .i64 n3) := (gc).cell 0
                  have cc1 : X16.cell? ⟨bc, 1, none⟩ = some (.int .i64 d3) := (gc).cell 1
                  have cs0 : X16.cell? ⟨bs, 0, none⟩ = some (.int .i64 sN) := (gs).cell 0
                  have cs1 : X16.cell? ⟨bs, 1, none⟩ = some (.int .i64 sD) := (gs).cell 1
                  have cp0 : X16.cell? ⟨bp, 0, none⟩ = some (.int .i64 pN) := (gp).cell 0
                  have cp1 : X16.cell? ⟨bp, 1, none⟩ = some (.int .i64 pD) := (gp).cell 1
                  have cu0 : X16.cell? ⟨bu, 0, none⟩ = some (.int .i64 uN) := (gu).cell 0
                  have cu1 : X16.cell? ⟨bu, 1, none⟩ = some (.int .i64 uD) := (gu).cell 1
                  have cv0 : X16.cell? ⟨bv, 0, none⟩ = some (.int .i64 vN) := (gv).cell 0
                  have cv1 : X16.cell? ⟨bv, 1, none⟩ = some (.int .i64 vD) := (gv).cell 1
                  have cq0 : X16.cell? ⟨bq, 0, none⟩ = some (.int .i64 qN) := (gq).cell 0
                  have cq1 : X16.cell? ⟨bq, 1, none⟩ = some (.int .i64 qD) := (gq).cell 1
                  go_wp2
                  go_meet
                  case rel => exact ⟨by first | (rw [hcv]; done) | (rw [hcv]; rfl) | simp [hcv, *], by (repeat (first | with_reducible assumption | with_reducible exact Blk.new _ _ _ | with_reducible refine Blk.drew ?_ | with_reducible refine Blk.alloc ?_ _ | with_reducible refine Blk.drewN ?_ _ | with_reducible apply Blk.setT0 | with_reducible apply Blk.setT1 | with_reducible refine Blk.far ?_ (by first | (simp; done) | omega | (simp; omega)) _ | with_reducible refine Blk.then_ ?_ (by with_reducible assumption))), by (repeat (first | with_reducible assumption | with_reducible exact Blk.new _ _ _ | with_reducible refine Blk.drew ?_ | with_reducible refine Blk.alloc ?_ _ | with_reducible refine Blk.drewN ?_ _ | with_reducible apply Blk.setT0 | with_reducible apply Blk.setT1 | with_reducible refine Blk.far ?_ (by first | (simp; done) | omega | (simp; omega)) _ | with_reducible refine Blk.then_ ?_ (by with_reducible assumption))), by (repeat (first | with_reducible assumption | with_reducible exact Blk.new _ _ _ | with_reducible refine Blk.drew ?_ | with_reducible refine Blk.alloc ?_ _ | with_reducible refine Blk.drewN ?_ _ | with_reducible apply Blk.setT0 | with_reducible apply Blk.setT1 | with_reducible refine Blk.far ?_ (by first | (simp; done) | omega | (simp; omega)) _ | with_reducible refine Blk.then_ ?_ (by with_reducible assumption))), by (repeat (first | with_reducible assumption | with_reducible exact Blk.new _ _ _ | with_reducible refine Blk.drew ?_ | with_reducible refine Blk.alloc ?_ _ | with_reducible refine Blk.drewN ?_ _ | with_reducible apply Blk.setT0 | with_reducible apply Blk.setT1 | with_reducible refine Blk.far ?_ (by first | (simp; done) | omega | (simp; omega)) _ | with_reducible refine Blk.then_ ?_ (by with_reducible assumption))), by (repeat (first | with_reducible assumption | with_reducible exact Blk.new _ _ _ | with_reducible refine Blk.drew ?_ | with_reducible refine Blk.alloc ?_ _ | with_reducible refine Blk.drewN ?_ _ | with_reducible apply Blk.setT0 | with_reducible apply Blk.setT1 | with_reducible refine Blk.far ?_ (by first | (simp; done) | omega | (simp; omega)) _ | with_reducible refine Blk.then_ ?_ (by with_reducible assumption))), by (repeat (first | with_reducible assumption | with_reducible exact Blk.new _ _ _ | with_reducible refine Blk.drew ?_ | with_reducible refine Blk.alloc ?_ _ | with_reducible refine Blk.drewN ?_ _ | with_reducible apply Blk.setT0 | with_reducible apply Blk.setT1 | with_reducible refine Blk.far ?_ (by first | (simp; done) | omega | (simp; omega)) _ | with_reducible refine Blk.then_ ?_ (by with_reducible assumption))), by (repeat (first | with_reducible assumption | with_reducible exact Blk.new _ _ _ | with_reducible refine Blk.drew ?_ | with_reducible refine Blk.alloc ?_ _ | with_reducible refine Blk.drewN ?_ _ | with_reducible apply Blk.setT0 | with_reducible apply Blk.setT1 | with_reducible refine Blk.far ?_ (by first | (simp; done) | omega | (simp; omega)) _ | with_reducible refine Blk.then_ ?_ (by with_reducible assumption))), by (repeat (first | with_reducible assumption | with_reducible exact Blk.new _ _ _ | with_reducible refine Blk.drew ?_ | with_reducible refine Blk.alloc ?_ _ | with_reducible refine Blk.drewN ?_ _ | with_reducible apply Blk.setT0 | with_reducible apply Blk.setT1 | with_reducible refine Blk.far ?_ (by first | (simp; done) | omega | (simp; omega)) _ | with_reducible refine Blk.then_ ?_ (by with_reducible assumption))), by (repeat (first | with_reducible assumption | with_reducible exact Below.refl _ _ | with_reducible refine below_drewN ?_ _ | with_reducible refine Below.drew ?_ | with_reducible refine below_alloc ?_ _ | with_reducible refine Below.setCell ?_ (by first | omega | (simp; done) | (simp; omega)) _ | with_reducible refine below_then ?_ (by with_reducible assumption) | (refine below_then (a := World.drew _) ?_ (by with_reducible assumption))))⟩
              case rest =>
                obtain ⟨hv179, ga', gb', gc', gs', gp', gu', gv', gq', HB'⟩ := hcut
                subst hv179
                clear ga gb gc gs gp gu gv gq HB
                have ga := ga'
                clear ga'
                have gb := gb'
                clear gb'
                have gc := gc'
                clear gc'
                have gs := gs'
                clear gs'
                have gp := gp'
                clear gp'
                have gu := gu'
                clear gu'
                have gv := gv'
                clear gv'
                have gq := gq'
                clear gq'
                have HB := HB'
                clear HB'
                obtain ⟨X17, hX⟩ : ∃ x, x = wc := ⟨_, rfl⟩
                subst hX
                have hz := Below.refl X17.heap.size X17
                go_upto_if 179 with (fail)
                go_cut [] from 174 to 199 (fun W => Blk W ba 25 #[.int .i64 n1, .int .i64 d1] ∧ Blk W bb 25 #[.int .i64 n2, .int .i64 d2] ∧ Blk W bc 25 #[.int .i64 n3, .int .i64 d3] ∧ Blk W bs 25 #[.int .i64 sN, .int .i64 sD] ∧ Blk W bp 25 #[.int .i64 pN, .int .i64 pD] ∧ Blk W bu 25 #[.int .i64 uN, .int .i64 uD] ∧ Blk W bv 25 #[.int .i64 vN, .int .i64 vD] ∧ Blk W bq 25 #[.int .i64 qN, .int .i64 qD] ∧ Below w.heap.size w W)
                case first =>
                  cases c with
                  | false =>
                    have ca0 : X17.cell? ⟨ba, 0, none⟩ = some (.int .i64 n1) := (ga).cell 0
                    have ca1 : X17.cell? ⟨ba, 1, none⟩ = some (.int .i64 d1) := (ga).cell 1
                    have cb0 : X17.cell? ⟨bb, 0, none⟩ = some (.int .i64 n2) := (gb).cell 0
                    have cb1 : X17.cell? ⟨bb, 1, none⟩ = some (.int .i64 d2) := (gb).cell 1
                    have cc0 : X17.cell? ⟨bc, 0, none⟩ = some (.int .i64 n3) := (gc).cell 0
                    have cc1 : X17.cell? ⟨bc, 1, none⟩ = some (.int .i64 d3) := (gc).cell 1
                    have cs0 : X17.cell? ⟨bs, 0, none⟩ = some (.int .i64 sN) := (gs).cell 0
                    have cs1 : X17.cell? ⟨bs, 1, none⟩ = some (.int .i64 sD) := (gs).cell 1
                    have cp0 : X17.cell? ⟨bp, 0, none⟩ = some (.int .i64 pN) := (gp).cell 0
                    have cp1 : X17.cell? ⟨bp, 1, none⟩ = some (.int .i64 pD) := (gp).cell 1
                    have cu0 : X17.cell? ⟨bu, 0, none⟩ = some (.int .i64 uN) := (gu).cell 0
                    have cu1 : X17.cell? ⟨bu, 1, none⟩ = some (.int .i64 uD) := (gu).cell 1
                    have cv0 : X17.cell? ⟨bv, 0, none⟩ = some (.int .i64 vN) := (gv).cell 0
                    have cv1 : X17.cell? ⟨bv, 1, none⟩ = some (.int .i64 vD) := (gv).cell 1
                    have cq0 : X17.cell? ⟨bq, 0, none⟩ = some (.int .i64 qN) := (gq).cell 0
                    have cq1 : X17.cell? ⟨bq, 1, none⟩ = some (.int .i64 qD) := (gq).cell 1
                    go_wp2
                    go_meet
                    case rel => exact ⟨by (repeat (first | with_reducible assumption | with_reducible exact Blk.new _ _ _ | with_reducible refine Blk.drew ?_ | with_reducible refine Blk.alloc ?_ _ | with_reducible refine Blk.drewN ?_ _ | with_reducible apply Blk.setT0 | with_reducible apply Blk.setT1 | with_reducible refine Blk.far ?_ (by first | (simp; done) | omega | (simp; omega)) _ | with_reducible refine Blk.then_ ?_ (by with_reducible assumption))), by (repeat (first | with_reducible assumption | with_reducible exact Blk.new _ _ _ | with_reducible refine Blk.drew ?_ | with_reducible refine Blk.alloc ?_ _ | with_reducible refine Blk.drewN ?_ _ | with_reducible apply Blk.setT0 | with_reducible apply Blk.setT1 | with_reducible refine Blk.far ?_ (by first | (simp; done) | omega | (simp; omega)) _ | with_reducible refine Blk.then_ ?_ (by with_reducible assumption))), by (repeat (first | with_reducible assumption | with_reducible exact Blk.new _ _ _ | with_reducible refine Blk.drew ?_ | with_reducible refine Blk.alloc ?_ _ | with_reducible refine Blk.drewN ?_ _ | with_reducible apply Blk.setT0 | with_reducible apply Blk.setT1 | with_reducible refine Blk.far ?_ (by first | (simp; done) | omega | (simp; omega)) _ | with_reducible refine Blk.then_ ?_ (by with_reducible assumption))), by (repeat (first | with_reducible assumption | with_reducible exact Blk.new _ _ _ | with_reducible refine Blk.drew ?_ | with_reducible refine Blk.alloc ?_ _ | with_reducible refine Blk.drewN ?_ _ | with_reducible apply Blk.setT0 | with_reducible apply Blk.setT1 | with_reducible refine Blk.far ?_ (by first | (simp; done) | omega | (simp; omega)) _ | with_reducible refine Blk.then_ ?_ (by with_reducible assumption))), by (repeat (first | with_reducible assumption | with_reducible exact Blk.new _ _ _ | with_reducible refine Blk.drew ?_ | with_reducible refine Blk.alloc ?_ _ | with_reducible refine Blk.drewN ?_ _ | with_reducible apply Blk.setT0 | with_reducible apply Blk.setT1 | with_reducible refine Blk.far ?_ (by first | (simp; done) | omega | (simp; omega)) _ | with_reducible refine Blk.then_ ?_ (by with_reducible assumption))), by (repeat (first | with_reducible assumption | with_reducible exact Blk.new _ _ _ | with_reducible refine Blk.drew ?_ | with_reducible refine Blk.alloc ?_ _ | with_reducible refine Blk.drewN ?_ _ | with_reducible apply Blk.setT0 | with_reducible apply Blk.setT1 | with_reducible refine Blk.far ?_ (by first | (simp; done) | omega | (simp; omega)) _ | with_reducible refine Blk.then_ ?_ (by with_reducible assumption))), by (repeat (first | with_reducible assumption | with_reducible exact Blk.new _ _ _ | with_reducible refine Blk.drew ?_ | with_reducible refine Blk.alloc ?_ _ | with_reducible refine Blk.drewN ?_ _ | with_reducible apply Blk.setT0 | with_reducible apply Blk.setT1 | with_reducible refine Blk.far ?_ (by first | (simp; done) | omega | (simp; omega)) _ | with_reducible refine Blk.then_ ?_ (by with_reducible assumption))), by (repeat (first | with_reducible assumption | with_reducible exact Blk.new _ _ _ | with_reducible refine Blk.drew ?_ | with_reducible refine Blk.alloc ?_ _ | with_reducible refine Blk.drewN ?_ _ | with_reducible apply Blk.setT0 | with_reducible apply Blk.setT1 | with_reducible refine Blk.far ?_ (by first | (simp; done) | omega | (simp; omega)) _ | with_reducible refine Blk.then_ ?_ (by with_reducible assumption))), by (repeat (first | with_reducible assumption | with_reducible exact Below.refl _ _ | with_reducible refine below_drewN ?_ _ | with_reducible refine Below.drew ?_ | with_reducible refine below_alloc ?_ _ | with_reducible refine Below.setCell ?_ (by first | omega | (simp; done) | (simp; omega)) _ | with_reducible refine below_then ?_ (by with_reducible assumption) | (refine below_then (a := World.drew _) ?_ (by with_reducible assumption))))⟩
                  | true =>
                    obtain ⟨h0, h1⟩ := of_decide_eq_true HCC.out.symm
                    have HY1' := Lib.hid (fun W => HY1.out W h0 h1)
                    have HY2' := Lib.hid (fun W => HY2.out W h0 h1)
                    clear h0 h1
                    have cp0 : X17.cell? ⟨bp, 0, none⟩ = some (.int .i64 pN) := (gp).cell 0
                    have cp1 : X17.cell? ⟨bp, 1, none⟩ = some (.int .i64 pD) := (gp).cell 1
                    have cc0 : X17.cell? ⟨bc, 0, none⟩ = some (.int .i64 n3) := (gc).cell 0
                    have cc1 : X17.cell? ⟨bc, 1, none⟩ = some (.int .i64 d3) := (gc).cell 1
                    go_upto_region 28 with ((go_at_call 18; (with_reducible refine (HY1'.out _).mono ?_); rintro e w1 ⟨rfl, hbw1⟩))
                    clear cp0 cp1 cc0 cc1
                    refine name_wp ?_
                    intro X18 hX
                    have na : Blk X18 ba 25 #[.int .i64 n1, .int .i64 d1] := by rw [hX]; (repeat (first | with_reducible assumption | with_reducible exact Blk.new _ _ _ | with_reducible refine Blk.drew ?_ | with_reducible refine Blk.alloc ?_ _ | with_reducible refine Blk.drewN ?_ _ | with_reducible apply Blk.setT0 | with_reducible apply Blk.setT1 | with_reducible refine Blk.far ?_ (by first | (simp; done) | omega | (simp; omega)) _ | with_reducible refine Blk.then_ ?_ (by with_reducible assumption)))
                    have nb : Blk X18 bb 25 #[.int .i64 n2, .int .i64 d2] := by rw [hX]; (repeat (first | with_reducible assumption | with_reducible exact Blk.new _ _ _ | with_reducible refine Blk.drew ?_ | with_reducible refine Blk.alloc ?_ _ | with_reducible refine Blk.drewN ?_ _ | with_reducible apply Blk.setT0 | with_reducible apply Blk.setT1 | with_reducible refine Blk.far ?_ (by first | (simp; done) | omega | (simp; omega)) _ | with_reducible refine Blk.then_ ?_ (by with_reducible assumption)))
                    have nc : Blk X18 bc 25 #[.int .i64 n3, .int .i64 d3] := by rw [hX]; (repeat (first | with_reducible assumption | with_reducible exact Blk.new _ _ _ | with_reducible refine Blk.drew ?_ | with_reducible refine Blk.alloc ?_ _ | with_reducible refine Blk.drewN ?_ _ | with_reducible apply Blk.setT0 | with_reducible apply Blk.setT1 | with_reducible refine Blk.far ?_ (by first | (simp; done) | omega | (simp; omega)) _ | with_reducible refine Blk.then_ ?_ (by with_reducible assumption)))
                    have ns : Blk X18 bs 25 #[.int .i64 sN, .int .i64 sD] := by rw [hX]; (repeat (first | with_reducible assumption | with_reducible exact Blk.new _ _ _ | with_reducible refine Blk.drew ?_ | with_reducible refine Blk.alloc ?_ _ | with_reducible refine Blk.drewN ?_ _ | with_reducible apply Blk.setT0 | with_reducible apply Blk.setT1 | with_reducible refine Blk.far ?_ (by first | (simp; done) | omega | (simp; omega)) _ | with_reducible refine Blk.then_ ?_ (by with_reducible assumption)))
                    have np : Blk X18 bp 25 #[.int .i64 pN, .int .i64 pD] := by rw [hX]; (repeat (first | with_reducible assumption | with_reducible exact Blk.new _ _ _ | with_reducible refine Blk.drew ?_ | with_reducible refine Blk.alloc ?_ _ | with_reducible refine Blk.drewN ?_ _ | with_reducible apply Blk.setT0 | with_reducible apply Blk.setT1 | with_reducible refine Blk.far ?_ (by first | (simp; done) | omega | (simp; omega)) _ | with_reducible refine Blk.then_ ?_ (by with_reducible assumption)))
                    have nu : Blk X18 bu 25 #[.int .i64 uN, .int .i64 uD] := by rw [hX]; (repeat (first | with_reducible assumption | with_reducible exact Blk.new _ _ _ | with_reducible refine Blk.drew ?_ | with_reducible refine Blk.alloc ?_ _ | with_reducible refine Blk.drewN ?_ _ | with_reducible apply Blk.setT0 | with_reducible apply Blk.setT1 | with_reducible refine Blk.far ?_ (by first | (simp; done) | omega | (simp; omega)) _ | with_reducible refine Blk.then_ ?_ (by with_reducible assumption)))
                    have nv : Blk X18 bv 25 #[.int .i64 vN, .int .i64 vD] := by rw [hX]; (repeat (first | with_reducible assumption | with_reducible exact Blk.new _ _ _ | with_reducible refine Blk.drew ?_ | with_reducible refine Blk.alloc ?_ _ | with_reducible refine Blk.drewN ?_ _ | with_reducible apply Blk.setT0 | with_reducible apply Blk.setT1 | with_reducible refine Blk.far ?_ (by first | (simp; done) | omega | (simp; omega)) _ | with_reducible refine Blk.then_ ?_ (by with_reducible assumption)))
                    have nq : Blk X18 bq 25 #[.int .i64 qN, .int .i64 qD] := by rw [hX]; (repeat (first | with_reducible assumption | with_reducible exact Blk.new _ _ _ | with_reducible refine Blk.drew ?_ | with_reducible refine Blk.alloc ?_ _ | with_reducible refine Blk.drewN ?_ _ | with_reducible apply Blk.setT0 | with_reducible apply Blk.setT1 | with_reducible refine Blk.far ?_ (by first | (simp; done) | omega | (simp; omega)) _ | with_reducible refine Blk.then_ ?_ (by with_reducible assumption)))
                    have nx : Blk X18 (w1.heap.size) 25 #[.int .i64 yN, .int .i64 yD] := by rw [hX]; exact Blk.new _ _ _
                    have lx : w.heap.size ≤ w1.heap.size := (below_then HB hbw1).size
                    have oax : ba < w1.heap.size := (ga.then_ hbw1).lt
                    have obx : bb < w1.heap.size := (gb.then_ hbw1).lt
                    have ocx : bc < w1.heap.size := (gc.then_ hbw1).lt
                    have osx : bs < w1.heap.size := (gs.then_ hbw1).lt
                    have opx : bp < w1.heap.size := (gp.then_ hbw1).lt
                    have oux : bu < w1.heap.size := (gu.then_ hbw1).lt
                    have ovx : bv < w1.heap.size := (gv.then_ hbw1).lt
                    have oqx : bq < w1.heap.size := (gq.then_ hbw1).lt
                    have NB : Below w.heap.size w X18 := by rw [hX]; (repeat (first | with_reducible assumption | with_reducible exact Below.refl _ _ | with_reducible refine below_drewN ?_ _ | with_reducible refine Below.drew ?_ | with_reducible refine below_alloc ?_ _ | with_reducible refine Below.setCell ?_ (by first | omega | (simp; done) | (simp; omega)) _ | with_reducible refine below_then ?_ (by with_reducible assumption) | (refine below_then (a := World.drew _) ?_ (by with_reducible assumption))))
                    clear hX ga gb gc gs gp gu gv gq HB
                    obtain ⟨bx, eb⟩ : ∃ b, w1.heap.size = b := ⟨_, rfl⟩
                    rw [eb] at nx lx oax obx ocx osx opx oux ovx oqx ⊢
                    clear eb
                    have ga := na
                    clear na
                    have gb := nb
                    clear nb
                    have gc := nc
                    clear nc
                    have gs := ns
                    clear ns
                    have gp := np
                    clear np
                    have gu := nu
                    clear nu
                    have gv := nv
                    clear nv
                    have gq := nq
                    clear nq
                    have gx := nx
                    clear nx
                    have HB := NB
                    clear NB
                    have hz := Below.refl X18.heap.size X18
                    have ca0 : X18.cell? ⟨ba, 0, none⟩ = some (.int .i64 n1) := (ga).cell 0
                    have ca1 : X18.cell? ⟨ba, 1, none⟩ = some (.int .i64 d1) := (ga).cell 1
                    have cv0 : X18.cell? ⟨bv, 0, none⟩ = some (.int .i64 vN) := (gv).cell 0
                    have cv1 : X18.cell? ⟨bv, 1, none⟩ = some (.int .i64 vD) := (gv).cell 1
                    go_upto_region 29 with ((go_at_call 18; (with_reducible refine (HY2'.out _).mono ?_); rintro e w1 ⟨rfl, hbw1⟩))
                    clear ca0 ca1 cv0 cv1
                    refine name_wp ?_
                    intro X19 hX
                    have na : Blk X19 ba 25 #[.int .i64 n1, .int .i64 d1] := by rw [hX]; (repeat (first | with_reducible assumption | with_reducible exact Blk.new _ _ _ | with_reducible refine Blk.drew ?_ | with_reducible refine Blk.alloc ?_ _ | with_reducible refine Blk.drewN ?_ _ | with_reducible apply Blk.setT0 | with_reducible apply Blk.setT1 | with_reducible refine Blk.far ?_ (by first | (simp; done) | omega | (simp; omega)) _ | with_reducible refine Blk.then_ ?_ (by with_reducible assumption)))
                    have nb : Blk X19 bb 25 #[.int .i64 n2, .int .i64 d2] := by rw [hX]; (repeat (first | with_reducible assumption | with_reducible exact Blk.new _ _ _ | with_reducible refine Blk.drew ?_ | with_reducible refine Blk.alloc ?_ _ | with_reducible refine Blk.drewN ?_ _ | with_reducible apply Blk.setT0 | with_reducible apply Blk.setT1 | with_reducible refine Blk.far ?_ (by first | (simp; done) | omega | (simp; omega)) _ | with_reducible refine Blk.then_ ?_ (by with_reducible assumption)))
                    have nc : Blk X19 bc 25 #[.int .i64 n3, .int .i64 d3] := by rw [hX]; (repeat (first | with_reducible assumption | with_reducible exact Blk.new _ _ _ | with_reducible refine Blk.drew ?_ | with_reducible refine Blk.alloc ?_ _ | with_reducible refine Blk.drewN ?_ _ | with_reducible apply Blk.setT0 | with_reducible apply Blk.setT1 | with_reducible refine Blk.far ?_ (by first | (simp; done) | omega | (simp; omega)) _ | with_reducible refine Blk.then_ ?_ (by with_reducible assumption)))
                    have ns : Blk X19 bs 25 #[.int .i64 sN, .int .i64 sD] := by rw [hX]; (repeat (first | with_reducible assumption | with_reducible exact Blk.new _ _ _ | with_reducible refine Blk.drew ?_ | with_reducible refine Blk.alloc ?_ _ | with_reducible refine Blk.drewN ?_ _ | with_reducible apply Blk.setT0 | with_reducible apply Blk.setT1 | with_reducible refine Blk.far ?_ (by first | (simp; done) | omega | (simp; omega)) _ | with_reducible refine Blk.then_ ?_ (by with_reducible assumption)))
                    have np : Blk X19 bp 25 #[.int .i64 pN, .int .i64 pD] := by rw [hX]; (repeat (first | with_reducible assumption | with_reducible exact Blk.new _ _ _ | with_reducible refine Blk.drew ?_ | with_reducible refine Blk.alloc ?_ _ | with_reducible refine Blk.drewN ?_ _ | with_reducible apply Blk.setT0 | with_reducible apply Blk.setT1 | with_reducible refine Blk.far ?_ (by first | (simp; done) | omega | (simp; omega)) _ | with_reducible refine Blk.then_ ?_ (by with_reducible assumption)))
                    have nu : Blk X19 bu 25 #[.int .i64 uN, .int .i64 uD] := by rw [hX]; (repeat (first | with_reducible assumption | with_reducible exact Blk.new _ _ _ | with_reducible refine Blk.drew ?_ | with_reducible refine Blk.alloc ?_ _ | with_reducible refine Blk.drewN ?_ _ | with_reducible apply Blk.setT0 | with_reducible apply Blk.setT1 | with_reducible refine Blk.far ?_ (by first | (simp; done) | omega | (simp; omega)) _ | with_reducible refine Blk.then_ ?_ (by with_reducible assumption)))
                    have nv : Blk X19 bv 25 #[.int .i64 vN, .int .i64 vD] := by rw [hX]; (repeat (first | with_reducible assumption | with_reducible exact Blk.new _ _ _ | with_reducible refine Blk.drew ?_ | with_reducible refine Blk.alloc ?_ _ | with_reducible refine Blk.drewN ?_ _ | with_reducible apply Blk.setT0 | with_reducible apply Blk.setT1 | with_reducible refine Blk.far ?_ (by first | (simp; done) | omega | (simp; omega)) _ | with_reducible refine Blk.then_ ?_ (by with_reducible assumption)))
                    have nq : Blk X19 bq 25 #[.int .i64 qN, .int .i64 qD] := by rw [hX]; (repeat (first | with_reducible assumption | with_reducible exact Blk.new _ _ _ | with_reducible refine Blk.drew ?_ | with_reducible refine Blk.alloc ?_ _ | with_reducible refine Blk.drewN ?_ _ | with_reducible apply Blk.setT0 | with_reducible apply Blk.setT1 | with_reducible refine Blk.far ?_ (by first | (simp; done) | omega | (simp; omega)) _ | with_reducible refine Blk.then_ ?_ (by with_reducible assumption)))
                    have nx : Blk X19 bx 25 #[.int .i64 yN, .int .i64 yD] := by rw [hX]; (repeat (first | with_reducible assumption | with_reducible exact Blk.new _ _ _ | with_reducible refine Blk.drew ?_ | with_reducible refine Blk.alloc ?_ _ | with_reducible refine Blk.drewN ?_ _ | with_reducible apply Blk.setT0 | with_reducible apply Blk.setT1 | with_reducible refine Blk.far ?_ (by first | (simp; done) | omega | (simp; omega)) _ | with_reducible refine Blk.then_ ?_ (by with_reducible assumption)))
                    have nj : Blk X19 (w1.heap.size) 25 #[.int .i64 yN, .int .i64 yD] := by rw [hX]; exact Blk.new _ _ _
                    have lj : w.heap.size ≤ w1.heap.size := (below_then HB hbw1).size
                    have oaj : ba < w1.heap.size := (ga.then_ hbw1).lt
                    have obj : bb < w1.heap.size := (gb.then_ hbw1).lt
                    have ocj : bc < w1.heap.size := (gc.then_ hbw1).lt
                    have osj : bs < w1.heap.size := (gs.then_ hbw1).lt
                    have opj : bp < w1.heap.size := (gp.then_ hbw1).lt
                    have ouj : bu < w1.heap.size := (gu.then_ hbw1).lt
                    have ovj : bv < w1.heap.size := (gv.then_ hbw1).lt
                    have oqj : bq < w1.heap.size := (gq.then_ hbw1).lt
                    have oxj : bx < w1.heap.size := (gx.then_ hbw1).lt
                    have NB : Below w.heap.size w X19 := by rw [hX]; (repeat (first | with_reducible assumption | with_reducible exact Below.refl _ _ | with_reducible refine below_drewN ?_ _ | with_reducible refine Below.drew ?_ | with_reducible refine below_alloc ?_ _ | with_reducible refine Below.setCell ?_ (by first | omega | (simp; done) | (simp; omega)) _ | with_reducible refine below_then ?_ (by with_reducible assumption) | (refine below_then (a := World.drew _) ?_ (by with_reducible assumption))))
                    clear hX ga gb gc gs gp gu gv gq gx HB
                    obtain ⟨bj, eb⟩ : ∃ b, w1.heap.size = b := ⟨_, rfl⟩
                    rw [eb] at nj lj oaj obj ocj osj opj ouj ovj oqj oxj ⊢
                    clear eb
                    have ga := na
                    clear na
                    have gb := nb
                    clear nb
                    have gc := nc
                    clear nc
                    have gs := ns
                    clear ns
                    have gp := np
                    clear np
                    have gu := nu
                    clear nu
                    have gv := nv
                    clear nv
                    have gq := nq
                    clear nq
                    have gx := nx
                    clear nx
                    have gj := nj
                    clear nj
                    have HB := NB
                    clear NB
                    have hz := Below.refl X19.heap.size X19
                    have heq := fun W => eqv_yes yN yD W
                    have ca0 : X19.cell? ⟨ba, 0, none⟩ = some (.int .i64 n1) := (ga).cell 0
                    have ca1 : X19.cell? ⟨ba, 1, none⟩ = some (.int .i64 d1) := (ga).cell 1
                    have cb0 : X19.cell? ⟨bb, 0, none⟩ = some (.int .i64 n2) := (gb).cell 0
                    have cb1 : X19.cell? ⟨bb, 1, none⟩ = some (.int .i64 d2) := (gb).cell 1
                    have cc0 : X19.cell? ⟨bc, 0, none⟩ = some (.int .i64 n3) := (gc).cell 0
                    have cc1 : X19.cell? ⟨bc, 1, none⟩ = some (.int .i64 d3) := (gc).cell 1
                    have cs0 : X19.cell? ⟨bs, 0, none⟩ = some (.int .i64 sN) := (gs).cell 0
                    have cs1 : X19.cell? ⟨bs, 1, none⟩ = some (.int .i64 sD) := (gs).cell 1
                    have cp0 : X19.cell? ⟨bp, 0, none⟩ = some (.int .i64 pN) := (gp).cell 0
                    have cp1 : X19.cell? ⟨bp, 1, none⟩ = some (.int .i64 pD) := (gp).cell 1
                    have cu0 : X19.cell? ⟨bu, 0, none⟩ = some (.int .i64 uN) := (gu).cell 0
                    have cu1 : X19.cell? ⟨bu, 1, none⟩ = some (.int .i64 uD) := (gu).cell 1
                    have cv0 : X19.cell? ⟨bv, 0, none⟩ = some (.int .i64 vN) := (gv).cell 0
                    have cv1 : X19.cell? ⟨bv, 1, none⟩ = some (.int .i64 vD) := (gv).cell 1
                    have cq0 : X19.cell? ⟨bq, 0, none⟩ = some (.int .i64 qN) := (gq).cell 0
                    have cq1 : X19.cell? ⟨bq, 1, none⟩ = some (.int .i64 qD) := (gq).cell 1
                    have cx0 : X19.cell? ⟨bx, 0, none⟩ = some (.int .i64 yN) := (gx).cell 0
                    have cx1 : X19.cell? ⟨bx, 1, none⟩ = some (.int .i64 yD) := (gx).cell 1
                    have cj0 : X19.cell? ⟨bj, 0, none⟩ = some (.int .i64 yN) := (gj).cell 0
                    have cj1 : X19.cell? ⟨bj, 1, none⟩ = some (.int .i64 yD) := (gj).cell 1
                    go_wp2
                    go_meet
                    case rel => exact ⟨by (repeat (first | with_reducible assumption | with_reducible exact Blk.new _ _ _ | with_reducible refine Blk.drew ?_ | with_reducible refine Blk.alloc ?_ _ | with_reducible refine Blk.drewN ?_ _ | with_reducible apply Blk.setT0 | with_reducible apply Blk.setT1 | with_reducible refine Blk.far ?_ (by first | (simp; done) | omega | (simp; omega)) _ | with_reducible refine Blk.then_ ?_ (by with_reducible assumption))), by (repeat (first | with_reducible assumption | with_reducible exact Blk.new _ _ _ | with_reducible refine Blk.drew ?_ | with_reducible refine Blk.alloc ?_ _ | with_reducible refine Blk.drewN ?_ _ | with_reducible apply Blk.setT0 | with_reducible apply Blk.setT1 | with_reducible refine Blk.far ?_ (by first | (simp; done) | omega | (simp; omega)) _ | with_reducible refine Blk.then_ ?_ (by with_reducible assumption))), by (repeat (first | with_reducible assumption | with_reducible exact Blk.new _ _ _ | with_reducible refine Blk.drew ?_ | with_reducible refine Blk.alloc ?_ _ | with_reducible refine Blk.drewN ?_ _ | with_reducible apply Blk.setT0 | with_reducible apply Blk.setT1 | with_reducible refine Blk.far ?_ (by first | (simp; done) | omega | (simp; omega)) _ | with_reducible refine Blk.then_ ?_ (by with_reducible assumption))), by (repeat (first | with_reducible assumption | with_reducible exact Blk.new _ _ _ | with_reducible refine Blk.drew ?_ | with_reducible refine Blk.alloc ?_ _ | with_reducible refine Blk.drewN ?_ _ | with_reducible apply Blk.setT0 | with_reducible apply Blk.setT1 | with_reducible refine Blk.far ?_ (by first | (simp; done) | omega | (simp; omega)) _ | with_reducible refine Blk.then_ ?_ (by with_reducible assumption))), by (repeat (first | with_reducible assumption | with_reducible exact Blk.new _ _ _ | with_reducible refine Blk.drew ?_ | with_reducible refine Blk.alloc ?_ _ | with_reducible refine Blk.drewN ?_ _ | with_reducible apply Blk.setT0 | with_reducible apply Blk.setT1 | with_reducible refine Blk.far ?_ (by first | (simp; done) | omega | (simp; omega)) _ | with_reducible refine Blk.then_ ?_ (by with_reducible assumption))), by (repeat (first | with_reducible assumption | with_reducible exact Blk.new _ _ _ | with_reducible refine Blk.drew ?_ | with_reducible refine Blk.alloc ?_ _ | with_reducible refine Blk.drewN ?_ _ | with_reducible apply Blk.setT0 | with_reducible apply Blk.setT1 | with_reducible refine Blk.far ?_ (by first | (simp; done) | omega | (simp; omega)) _ | with_reducible refine Blk.then_ ?_ (by with_reducible assumption))), by (repeat (first | with_reducible assumption | with_reducible exact Blk.new _ _ _ | with_reducible refine Blk.drew ?_ | with_reducible refine Blk.alloc ?_ _ | with_reducible refine Blk.drewN ?_ _ | with_reducible apply Blk.setT0 | with_reducible apply Blk.setT1 | with_reducible refine Blk.far ?_ (by first | (simp; done) | omega | (simp; omega)) _ | with_reducible refine Blk.then_ ?_ (by with_reducible assumption))), by (repeat (first | with_reducible assumption | with_reducible exact Blk.new _ _ _ | with_reducible refine Blk.drew ?_ | with_reducible refine Blk.alloc ?_ _ | with_reducible refine Blk.drewN ?_ _ | with_reducible apply Blk.setT0 | with_reducible apply Blk.setT1 | with_reducible refine Blk.far ?_ (by first | (simp; done) | omega | (simp; omega)) _ | with_reducible refine Blk.then_ ?_ (by with_reducible assumption))), by (repeat (first | with_reducible assumption | with_reducible exact Below.refl _ _ | with_reducible refine below_drewN ?_ _ | with_reducible refine Below.drew ?_ | with_reducible refine below_alloc ?_ _ | with_reducible refine Below.setCell ?_ (by first | omega | (simp; done) | (simp; omega)) _ | with_reducible refine below_then ?_ (by with_reducible assumption) | (refine below_then (a := World.drew _) ?_ (by with_reducible assumption))))⟩
                case rest =>
                  obtain ⟨ga', gb', gc', gs', gp', gu', gv', gq', HB'⟩ := hcut
                  clear ga gb gc gs gp gu gv gq HB
                  have ga := ga'
                  clear ga'
                  have gb := gb'
                  clear gb'
                  have gc := gc'
                  clear gc'
                  have gs := gs'
                  clear gs'
                  have gp := gp'
                  clear gp'
                  have gu := gu'
                  clear gu'
                  have gv := gv'
                  clear gv'
                  have gq := gq'
                  clear gq'
                  have HB := HB'
                  clear HB'
                  obtain ⟨X18, hX⟩ : ∃ x, x = wc := ⟨_, rfl⟩
                  subst hX
                  have hz := Below.refl X18.heap.size X18
                  clear HCC
                  clear HY1 HY2
                  have HCC : ∃ c : Bool, Hid (c = decide (pE = 0 ∧ uE = 0 ∧ qE = 0)) := ⟨_, rfl⟩
                  obtain ⟨c, HCC⟩ := HCC
                  have ca0 : X18.cell? ⟨ba, 0, none⟩ = some (.int .i64 n1) := (ga).cell 0
                  have ca1 : X18.cell? ⟨ba, 1, none⟩ = some (.int .i64 d1) := (ga).cell 1
                  have cb0 : X18.cell? ⟨bb, 0, none⟩ = some (.int .i64 n2) := (gb).cell 0
                  have cb1 : X18.cell? ⟨bb, 1, none⟩ = some (.int .i64 d2) := (gb).cell 1
                  have cc0 : X18.cell? ⟨bc, 0, none⟩ = some (.int .i64 n3) := (gc).cell 0
                  have cc1 : X18.cell? ⟨bc, 1, none⟩ = some (.int .i64 d3) := (gc).cell 1
                  have cs0 : X18.cell? ⟨bs, 0, none⟩ = some (.int .i64 sN) := (gs).cell 0
                  have cs1 : X18.cell? ⟨bs, 1, none⟩ = some (.int .i64 sD) := (gs).cell 1
                  have cp0 : X18.cell? ⟨bp, 0, none⟩ = some (.int .i64 pN) := (gp).cell 0
                  have cp1 : X18.cell? ⟨bp, 1, none⟩ = some (.int .i64 pD) := (gp).cell 1
                  have cu0 : X18.cell? ⟨bu, 0, none⟩ = some (.int .i64 uN) := (gu).cell 0
                  have cu1 : X18.cell? ⟨bu, 1, none⟩ = some (.int .i64 uD) := (gu).cell 1
                  have cv0 : X18.cell? ⟨bv, 0, none⟩ = some (.int .i64 vN) := (gv).cell 0
                  have cv1 : X18.cell? ⟨bv, 1, none⟩ = some (.int .i64 vD) := (gv).cell 1
                  have cq0 : X18.cell? ⟨bq, 0, none⟩ = some (.int .i64 qN) := (gq).cell 0
                  have cq1 : X18.cell? ⟨bq, 1, none⟩ = some (.int .i64 qD) := (gq).cell 1
                  go_upto_region 31 with (fail)
                  clear ca0 ca1 cb0 cb1 cc0 cc1 cs0 cs1 cp0 cp1 cu0 cu1 cv0 cv1 cq0 cq1
                  go_cut [209] from 200 to 209 (fun v209 W => v209 = .bool c ∧ Blk W ba 25 #[.int .i64 n1, .int .i64 d1] ∧ Blk W bb 25 #[.int .i64 n2, .int .i64 d2] ∧ Blk W bc 25 #[.int .i64 n3, .int .i64 d3] ∧ Blk W bs 25 #[.int .i64 sN, .int .i64 sD] ∧ Blk W bp 25 #[.int .i64 pN, .int .i64 pD] ∧ Blk W bu 25 #[.int .i64 uN, .int .i64 uD] ∧ Blk W bv 25 #[.int .i64 vN, .int .i64 vD] ∧ Blk W bq 25 #[.int .i64 qN, .int .i64 qD] ∧ Below w.heap.size w W)
                  case first =>
                    by_cases h10 : pE = 0
                    · have th10a : (pE == 0) = true := by simp [h10]
                      have th10b : (pE != 0) = false := by simp [h10]
                      by_cases h11 : uE = 0
                      · have th11a : (uE == 0) = true := by simp [h11]
                        have th11b : (uE != 0) = false := by simp [h11]
                        by_cases h12 : qE = 0
                        · have th12a : (qE == 0) = true := by simp [h12]
                          have th12b : (qE != 0) = false := by simp [h12]
                          have hcv : c = true := by rw [HCC.out]; simp [h10, h11, h12]
                          clear h10 h11 h12
                          have ca0 : X18.cell? ⟨ba, 0, none⟩ = some (.int .i64 n1) := (ga).cell 0
                          have ca1 : X18.cell? ⟨ba, 1, none⟩ = some (.int .i64 d1) := (ga).cell 1
                          have cb0 : X18.cell? ⟨bb, 0, none⟩ = some (.int .i64 n2) := (gb).cell 0
                          have cb1 : X18.cell? ⟨bb, 1, none⟩ = some (.int .i64 d2) := (gb).cell 1
                          have cc0 : X18.cell? ⟨bc, 0, none⟩ = some (.int .i64 n3) := (gc).cell 0
                          have cc1 : X18.cell? ⟨bc, 1, none⟩ = some (.int .i64 d3) := (gc).cell 1
                          have cs0 : X18.cell? ⟨bs, 0, none⟩ = some (.int .i64 sN) := (gs).cell 0
                          have cs1 : X18.cell? ⟨bs, 1, none⟩ = some (.int .i64 sD) := (gs).cell 1
                          have cp0 : X18.cell? ⟨bp, 0, none⟩ = some (.int .i64 pN) := (gp).cell 0
                          have cp1 : X18.cell? ⟨bp, 1, none⟩ = some (.int .i64 pD) := (gp).cell 1
                          have cu0 : X18.cell? ⟨bu, 0, none⟩ = some (.int .i64 uN) := (gu).cell 0
                          have cu1 : X18.cell? ⟨bu, 1, none⟩ = some (.int .i64 uD) := (gu).cell 1
                          have cv0 : X18.cell? ⟨bv, 0, none⟩ = some (.int .i64 vN) := (gv).cell 0
                          have cv1 : X18.cell? ⟨bv, 1, none⟩ = some (.int .i64 vD) := (gv).cell 1
                          have cq0 : X18.cell? ⟨bq, 0, none⟩ = some (.int .i64 qN) := (gq).cell 0
                          have cq1 : X18.cell? ⟨bq, 1, none⟩ = some (.int .i64 qD) := (gq).cell 1
                          go_wp2
                          go_meet
                          case rel => exact ⟨by first | (rw [hcv]; done) | (rw [hcv]; rfl) | simp [hcv, *], by (repeat (first | with_reducible assumption | with_reducible exact Blk.new _ _ _ | with_reducible refine Blk.drew ?_ | with_reducible refine Blk.alloc ?_ _ | with_reducible refine Blk.drewN ?_ _ | with_reducible apply Blk.setT0 | with_reducible apply Blk.setT1 | with_reducible refine Blk.far ?_ (by first | (simp; done) | omega | (simp; omega)) _ | with_reducible refine Blk.then_ ?_ (by with_reducible assumption))), by (repeat (first | with_reducible assumption | with_reducible exact Blk.new _ _ _ | with_reducible refine Blk.drew ?_ | with_reducible refine Blk.alloc ?_ _ | with_reducible refine Blk.drewN ?_ _ | with_reducible apply Blk.setT0 | with_reducible apply Blk.setT1 | with_reducible refine Blk.far ?_ (by first | (simp; done) | omega | (simp; omega)) _ | with_reducible refine Blk.then_ ?_ (by with_reducible assumption))), by (repeat (first | with_reducible assumption | with_reducible exact Blk.new _ _ _ | with_reducible refine Blk.drew ?_ | with_reducible refine Blk.alloc ?_ _ | with_reducible refine Blk.drewN ?_ _ | with_reducible apply Blk.setT0 | with_reducible apply Blk.setT1 | with_reducible refine Blk.far ?_ (by first | (simp; done) | omega | (simp; omega)) _ | with_reducible refine Blk.then_ ?_ (by with_reducible assumption))), by (repeat (first | with_reducible assumption | with_reducible exact Blk.new _ _ _ | with_reducible refine Blk.drew ?_ | with_reducible refine Blk.alloc ?_ _ | with_reducible refine Blk.drewN ?_ _ | with_reducible apply Blk.setT0 | with_reducible apply Blk.setT1 | with_reducible refine Blk.far ?_ (by first | (simp; done) | omega | (simp; omega)) _ | with_reducible refine Blk.then_ ?_ (by with_reducible assumption))), by (repeat (first | with_reducible assumption | with_reducible exact Blk.new _ _ _ | with_reducible refine Blk.drew ?_ | with_reducible refine Blk.alloc ?_ _ | with_reducible refine Blk.drewN ?_ _ | with_reducible apply Blk.setT0 | with_reducible apply Blk.setT1 | with_reducible refine Blk.far ?_ (by first | (simp; done) | omega | (simp; omega)) _ | with_reducible refine Blk.then_ ?_ (by with_reducible assumption))), by (repeat (first | with_reducible assumption | with_reducible exact Blk.new _ _ _ | with_reducible refine Blk.drew ?_ | with_reducible refine Blk.alloc ?_ _ | with_reducible refine Blk.drewN ?_ _ | with_reducible apply Blk.setT0 | with_reducible apply Blk.setT1 | with_reducible refine Blk.far ?_ (by first | (simp; done) | omega | (simp; omega)) _ | with_reducible refine Blk.then_ ?_ (by with_reducible assumption))), by (repeat (first | with_reducible assumption | with_reducible exact Blk.new _ _ _ | with_reducible refine Blk.drew ?_ | with_reducible refine Blk.alloc ?_ _ | with_reducible refine Blk.drewN ?_ _ | with_reducible apply Blk.setT0 | with_reducible apply Blk.setT1 | with_reducible refine Blk.far ?_ (by first | (simp; done) | omega | (simp; omega)) _ | with_reducible refine Blk.then_ ?_ (by with_reducible assumption))), by (repeat (first | with_reducible assumption | with_reducible exact Blk.new _ _ _ | with_reducible refine Blk.drew ?_ | with_reducible refine Blk.alloc ?_ _ | with_reducible refine Blk.drewN ?_ _ | with_reducible apply Blk.setT0 | with_reducible apply Blk.setT1 | with_reducible refine Blk.far ?_ (by first | (simp; done) | omega | (simp; omega)) _ | with_reducible refine Blk.then_ ?_ (by with_reducible assumption))), by (repeat (first | with_reducible assumption | with_reducible exact Below.refl _ _ | with_reducible refine below_drewN ?_ _ | with_reducible refine Below.drew ?_ | with_reducible refine below_alloc ?_ _ | with_reducible refine Below.setCell ?_ (by first | omega | (simp; done) | (simp; omega)) _ | with_reducible refine below_then ?_ (by with_reducible assumption) | (refine below_then (a := World.drew _) ?_ (by with_reducible assumption))))⟩
                        · have th12a : (qE == 0) = false := by simp [h12]
                          have th12b : (qE != 0) = true := by simp [h12]
                          have hcv : c = false := by rw [HCC.out]; simp [h10, h11, h12]
                          clear h10 h11 h12
                          have ca0 : X18.cell? ⟨ba, 0, none⟩ = some (.int .i64 n1) := (ga).cell 0
                          have ca1 : X18.cell? ⟨ba, 1, none⟩ = some (.int .i64 d1) := (ga).cell 1
                          have cb0 : X18.cell? ⟨bb, 0, none⟩ = some (.int .i64 n2) := (gb).cell 0
                          have cb1 : X18.cell? ⟨bb, 1, none⟩ = some (.int .i64 d2) := (gb).cell 1
                          have cc0 : X18.cell? ⟨bc, 0, none⟩ = some (.int .i64 n3) := (gc).cell 0
                          have cc1 : X18.cell? ⟨bc, 1, none⟩ = some (.int .i64 d3) := (gc).cell 1
                          have cs0 : X18.cell? ⟨bs, 0, none⟩ = some (.int .i64 sN) := (gs).cell 0
                          have cs1 : X18.cell? ⟨bs, 1, none⟩ = some (.int .i64 sD) := (gs).cell 1
                          have cp0 : X18.cell? ⟨bp, 0, none⟩ = some (.int .i64 pN) := (gp).cell 0
                          have cp1 : X18.cell? ⟨bp, 1, none⟩ = some (.int .i64 pD) := (gp).cell 1
                          have cu0 : X18.cell? ⟨bu, 0, none⟩ = some (.int .i64 uN) := (gu).cell 0
                          have cu1 : X18.cell? ⟨bu, 1, none⟩ = some (.int .i64 uD) := (gu).cell 1
                          have cv0 : X18.cell? ⟨bv, 0, none⟩ = some (.int .i64 vN) := (gv).cell 0
                          have cv1 : X18.cell? ⟨bv, 1, none⟩ = some (.int .i64 vD) := (gv).cell 1
                          have cq0 : X18.cell? ⟨bq, 0, none⟩ = some (.int .i64 qN) := (gq).cell 0
                          have cq1 : X18.cell? ⟨bq, 1, none⟩ = some (.int .i64 qD) := (gq).cell 1
                          go_wp2
                          go_meet
                          case rel => exact ⟨by first | (rw [hcv]; done) | (rw [hcv]; rfl) | simp [hcv, *], by (repeat (first | with_reducible assumption | with_reducible exact Blk.new _ _ _ | with_reducible refine Blk.drew ?_ | with_reducible refine Blk.alloc ?_ _ | with_reducible refine Blk.drewN ?_ _ | with_reducible apply Blk.setT0 | with_reducible apply Blk.setT1 | with_reducible refine Blk.far ?_ (by first | (simp; done) | omega | (simp; omega)) _ | with_reducible refine Blk.then_ ?_ (by with_reducible assumption))), by (repeat (first | with_reducible assumption | with_reducible exact Blk.new _ _ _ | with_reducible refine Blk.drew ?_ | with_reducible refine Blk.alloc ?_ _ | with_reducible refine Blk.drewN ?_ _ | with_reducible apply Blk.setT0 | with_reducible apply Blk.setT1 | with_reducible refine Blk.far ?_ (by first | (simp; done) | omega | (simp; omega)) _ | with_reducible refine Blk.then_ ?_ (by with_reducible assumption))), by (repeat (first | with_reducible assumption | with_reducible exact Blk.new _ _ _ | with_reducible refine Blk.drew ?_ | with_reducible refine Blk.alloc ?_ _ | with_reducible refine Blk.drewN ?_ _ | with_reducible apply Blk.setT0 | with_reducible apply Blk.setT1 | with_reducible refine Blk.far ?_ (by first | (simp; done) | omega | (simp; omega)) _ | with_reducible refine Blk.then_ ?_ (by with_reducible assumption))), by (repeat (first | with_reducible assumption | with_reducible exact Blk.new _ _ _ | with_reducible refine Blk.drew ?_ | with_reducible refine Blk.alloc ?_ _ | with_reducible refine Blk.drewN ?_ _ | with_reducible apply Blk.setT0 | with_reducible apply Blk.setT1 | with_reducible refine Blk.far ?_ (by first | (simp; done) | omega | (simp; omega)) _ | with_reducible refine Blk.then_ ?_ (by with_reducible assumption))), by (repeat (first | with_reducible assumption | with_reducible exact Blk.new _ _ _ | with_reducible refine Blk.drew ?_ | with_reducible refine Blk.alloc ?_ _ | with_reducible refine Blk.drewN ?_ _ | with_reducible apply Blk.setT0 | with_reducible apply Blk.setT1 | with_reducible refine Blk.far ?_ (by first | (simp; done) | omega | (simp; omega)) _ | with_reducible refine Blk.then_ ?_ (by with_reducible assumption))), by (repeat (first | with_reducible assumption | with_reducible exact Blk.new _ _ _ | with_reducible refine Blk.drew ?_ | with_reducible refine Blk.alloc ?_ _ | with_reducible refine Blk.drewN ?_ _ | with_reducible apply Blk.setT0 | with_reducible apply Blk.setT1 | with_reducible refine Blk.far ?_ (by first | (simp; done) | omega | (simp; omega)) _ | with_reducible refine Blk.then_ ?_ (by with_reducible assumption))), by (repeat (first | with_reducible assumption | with_reducible exact Blk.new _ _ _ | with_reducible refine Blk.drew ?_ | with_reducible refine Blk.alloc ?_ _ | with_reducible refine Blk.drewN ?_ _ | with_reducible apply Blk.setT0 | with_reducible apply Blk.setT1 | with_reducible refine Blk.far ?_ (by first | (simp; done) | omega | (simp; omega)) _ | with_reducible refine Blk.then_ ?_ (by with_reducible assumption))), by (repeat (first | with_reducible assumption | with_reducible exact Blk.new _ _ _ | with_reducible refine Blk.drew ?_ | with_reducible refine Blk.alloc ?_ _ | with_reducible refine Blk.drewN ?_ _ | with_reducible apply Blk.setT0 | with_reducible apply Blk.setT1 | with_reducible refine Blk.far ?_ (by first | (simp; done) | omega | (simp; omega)) _ | with_reducible refine Blk.then_ ?_ (by with_reducible assumption))), by (repeat (first | with_reducible assumption | with_reducible exact Below.refl _ _ | with_reducible refine below_drewN ?_ _ | with_reducible refine Below.drew ?_ | with_reducible refine below_alloc ?_ _ | with_reducible refine Below.setCell ?_ (by first | omega | (simp; done) | (simp; omega)) _ | with_reducible refine below_then ?_ (by with_reducible assumption) | (refine below_then (a := World.drew _) ?_ (by with_reducible assumption))))⟩
                      · have th11a : (uE == 0) = false := by simp [h11]
                        have th11b : (uE != 0) = true := by simp [h11]
                        have hcv : c = false := by rw [HCC.out]; simp [h10, h11]
                        clear h10 h11
                        have ca0 : X18.cell? ⟨ba, 0, none⟩ = some (.int .i64 n1) := (ga).cell 0
                        have ca1 : X18.cell? ⟨ba, 1, none⟩ = some (.int .i64 d1) := (ga).cell 1
                        have cb0 : X18.cell? ⟨bb, 0, none⟩ = some (.int .i64 n2) := (gb).cell 0
                        have cb1 : X18.cell? ⟨bb, 1, none⟩ = some (.int .i64 d2) := (gb).cell 1
                        have cc0 : X18.cell? ⟨bc, 0, none⟩ = some (.int .i64 n3) := (gc).cell 0
                        have cc1 : X18.cell? ⟨bc, 1, none⟩ = some (.int .i64 d3) := (gc).cell 1
                        have cs0 : X18.cell? ⟨bs, 0, none⟩ = some (.int .i64 sN) := (gs).cell 0
                        have cs1 : X18.cell? ⟨bs, 1, none⟩ = some (.int .i64 sD) := (gs).cell 1
                        have cp0 : X18.cell? ⟨bp, 0, none⟩ = some (.int .i64 pN) := (gp).cell 0
                        have cp1 : X18.cell? ⟨bp, 1, none⟩ = some (.int .i64 pD) := (gp).cell 1
                        have cu0 : X18.cell? ⟨bu, 0, none⟩ = some (.int .i64 uN) := (gu).cell 0
                        have cu1 : X18.cell? ⟨bu, 1, none⟩ = some (.int .i64 uD) := (gu).cell 1
                        have cv0 : X18.cell? ⟨bv, 0, none⟩ = some (.int .i64 vN) := (gv).cell 0
                        have cv1 : X18.cell? ⟨bv, 1, none⟩ = some (.int .i64 vD) := (gv).cell 1
                        have cq0 : X18.cell? ⟨bq, 0, none⟩ = some (.int .i64 qN) := (gq).cell 0
                        have cq1 : X18.cell? ⟨bq, 1, none⟩ = some (.int .i64 qD) := (gq).cell 1
                        go_wp2
                        go_meet
                        case rel => exact ⟨by first | (rw [hcv]; done) | (rw [hcv]; rfl) | simp [hcv, *], by (repeat (first | with_reducible assumption | with_reducible exact Blk.new _ _ _ | with_reducible refine Blk.drew ?_ | with_reducible refine Blk.alloc ?_ _ | with_reducible refine Blk.drewN ?_ _ | with_reducible apply Blk.setT0 | with_reducible apply Blk.setT1 | with_reducible refine Blk.far ?_ (by first | (simp; done) | omega | (simp; omega)) _ | with_reducible refine Blk.then_ ?_ (by with_reducible assumption))), by (repeat (first | with_reducible assumption | with_reducible exact Blk.new _ _ _ | with_reducible refine Blk.drew ?_ | with_reducible refine Blk.alloc ?_ _ | with_reducible refine Blk.drewN ?_ _ | with_reducible apply Blk.setT0 | with_reducible apply Blk.setT1 | with_reducible refine Blk.far ?_ (by first | (simp; done) | omega | (simp; omega)) _ | with_reducible refine Blk.then_ ?_ (by with_reducible assumption))), by (repeat (first | with_reducible assumption | with_reducible exact Blk.new _ _ _ | with_reducible refine Blk.drew ?_ | with_reducible refine Blk.alloc ?_ _ | with_reducible refine Blk.drewN ?_ _ | with_reducible apply Blk.setT0 | with_reducible apply Blk.setT1 | with_reducible refine Blk.far ?_ (by first | (simp; done) | omega | (simp; omega)) _ | with_reducible refine Blk.then_ ?_ (by with_reducible assumption))), by (repeat (first | with_reducible assumption | with_reducible exact Blk.new _ _ _ | with_reducible refine Blk.drew ?_ | with_reducible refine Blk.alloc ?_ _ | with_reducible refine Blk.drewN ?_ _ | with_reducible apply Blk.setT0 | with_reducible apply Blk.setT1 | with_reducible refine Blk.far ?_ (by first | (simp; done) | omega | (simp; omega)) _ | with_reducible refine Blk.then_ ?_ (by with_reducible assumption))), by (repeat (first | with_reducible assumption | with_reducible exact Blk.new _ _ _ | with_reducible refine Blk.drew ?_ | with_reducible refine Blk.alloc ?_ _ | with_reducible refine Blk.drewN ?_ _ | with_reducible apply Blk.setT0 | with_reducible apply Blk.setT1 | with_reducible refine Blk.far ?_ (by first | (simp; done) | omega | (simp; omega)) _ | with_reducible refine Blk.then_ ?_ (by with_reducible assumption))), by (repeat (first | with_reducible assumption | with_reducible exact Blk.new _ _ _ | with_reducible refine Blk.drew ?_ | with_reducible refine Blk.alloc ?_ _ | with_reducible refine Blk.drewN ?_ _ | with_reducible apply Blk.setT0 | with_reducible apply Blk.setT1 | with_reducible refine Blk.far ?_ (by first | (simp; done) | omega | (simp; omega)) _ | with_reducible refine Blk.then_ ?_ (by with_reducible assumption))), by (repeat (first | with_reducible assumption | with_reducible exact Blk.new _ _ _ | with_reducible refine Blk.drew ?_ | with_reducible refine Blk.alloc ?_ _ | with_reducible refine Blk.drewN ?_ _ | with_reducible apply Blk.setT0 | with_reducible apply Blk.setT1 | with_reducible refine Blk.far ?_ (by first | (simp; done) | omega | (simp; omega)) _ | with_reducible refine Blk.then_ ?_ (by with_reducible assumption))), by (repeat (first | with_reducible assumption | with_reducible exact Blk.new _ _ _ | with_reducible refine Blk.drew ?_ | with_reducible refine Blk.alloc ?_ _ | with_reducible refine Blk.drewN ?_ _ | with_reducible apply Blk.setT0 | with_reducible apply Blk.setT1 | with_reducible refine Blk.far ?_ (by first | (simp; done) | omega | (simp; omega)) _ | with_reducible refine Blk.then_ ?_ (by with_reducible assumption))), by (repeat (first | with_reducible assumption | with_reducible exact Below.refl _ _ | with_reducible refine below_drewN ?_ _ | with_reducible refine Below.drew ?_ | with_reducible refine below_alloc ?_ _ | with_reducible refine Below.setCell ?_ (by first | omega | (simp; done) | (simp; omega)) _ | with_reducible refine below_then ?_ (by with_reducible assumption) | (refine below_then (a := World.drew _) ?_ (by with_reducible assumption))))⟩
                    · have th10a : (pE == 0) = false := by simp [h10]
                      have th10b : (pE != 0) = true := by simp [h10]
                      have hcv : c = false := by rw [HCC.out]; simp [h10]
                      clear h10
                      have ca0 : X18.cell? ⟨ba, 0, none⟩ = some (.int .i64 n1) := (ga).cell 0
                      have ca1 : X18.cell? ⟨ba, 1, none⟩ = some (.int .i64 d1) := (ga).cell 1
                      have cb0 : X18.cell? ⟨bb, 0, none⟩ = some (.int .i64 n2) := (gb).cell 0
                      have cb1 : X18.cell? ⟨bb, 1, none⟩ = some (.int .i64 d2) := (gb).cell 1
                      have cc0 : X18.cell? ⟨bc, 0, none⟩ = some (.int .i64 n3) := (gc).cell 0
                      have cc1 : X18.cell? ⟨bc, 1, none⟩ = some (.int .i64 d3) := (gc).cell 1
                      have cs0 : X18.cell? ⟨bs, 0, none⟩ = some (.int .i64 sN) := (gs).cell 0
                      have cs1 : X18.cell? ⟨bs, 1, none⟩ = some (.int .i64 sD) := (gs).cell 1
                      have cp0 : X18.cell? ⟨bp, 0, none⟩ = some (.int .i64 pN) := (gp).cell 0
                      have cp1 : X18.cell? ⟨bp, 1, none⟩ = some (.int .i64 pD) := (gp).cell 1
                      have cu0 : X18.cell? ⟨bu, 0, none⟩ = some (.int .i64 uN) := (gu).cell 0
                      have cu1 : X18.cell? ⟨bu, 1, none⟩ = some (.int .i64 uD) := (gu).cell 1
                      have cv0 : X18.cell? ⟨bv, 0, none⟩ = some (.int .i64 vN) := (gv).cell 0
                      have cv1 : X18.cell? ⟨bv, 1, none⟩ = some (.int .i64 vD) := (gv).cell 1
                      have cq0 : X18.cell? ⟨bq, 0, none⟩ = some (.int .i64 qN) := (gq).cell 0
                      have cq1 : X18.cell? ⟨bq, 1, none⟩ = some (.int .i64 qD) := (gq).cell 1
                      go_wp2
                      go_meet
                      case rel => exact ⟨by first | (rw [hcv]; done) | (rw [hcv]; rfl) | simp [hcv, *], by (repeat (first | with_reducible assumption | with_reducible exact Blk.new _ _ _ | with_reducible refine Blk.drew ?_ | with_reducible refine Blk.alloc ?_ _ | with_reducible refine Blk.drewN ?_ _ | with_reducible apply Blk.setT0 | with_reducible apply Blk.setT1 | with_reducible refine Blk.far ?_ (by first | (simp; done) | omega | (simp; omega)) _ | with_reducible refine Blk.then_ ?_ (by with_reducible assumption))), by (repeat (first | with_reducible assumption | with_reducible exact Blk.new _ _ _ | with_reducible refine Blk.drew ?_ | with_reducible refine Blk.alloc ?_ _ | with_reducible refine Blk.drewN ?_ _ | with_reducible apply Blk.setT0 | with_reducible apply Blk.setT1 | with_reducible refine Blk.far ?_ (by first | (simp; done) | omega | (simp; omega)) _ | with_reducible refine Blk.then_ ?_ (by with_reducible assumption))), by (repeat (first | with_reducible assumption | with_reducible exact Blk.new _ _ _ | with_reducible refine Blk.drew ?_ | with_reducible refine Blk.alloc ?_ _ | with_reducible refine Blk.drewN ?_ _ | with_reducible apply Blk.setT0 | with_reducible apply Blk.setT1 | with_reducible refine Blk.far ?_ (by first | (simp; done) | omega | (simp; omega)) _ | with_reducible refine Blk.then_ ?_ (by with_reducible assumption))), by (repeat (first | with_reducible assumption | with_reducible exact Blk.new _ _ _ | with_reducible refine Blk.drew ?_ | with_reducible refine Blk.alloc ?_ _ | with_reducible refine Blk.drewN ?_ _ | with_reducible apply Blk.setT0 | with_reducible apply Blk.setT1 | with_reducible refine Blk.far ?_ (by first | (simp; done) | omega | (simp; omega)) _ | with_reducible refine Blk.then_ ?_ (by with_reducible assumption))), by (repeat (first | with_reducible assumption | with_reducible exact Blk.new _ _ _ | with_reducible refine Blk.drew ?_ | with_reducible refine Blk.alloc ?_ _ | with_reducible refine Blk.drewN ?_ _ | with_reducible apply Blk.setT0 | with_reducible apply Blk.setT1 | with_reducible refine Blk.far ?_ (by first | (simp; done) | omega | (simp; omega)) _ | with_reducible refine Blk.then_ ?_ (by with_reducible assumption))), by (repeat (first | with_reducible assumption | with_reducible exact Blk.new _ _ _ | with_reducible refine Blk.drew ?_ | with_reducible refine Blk.alloc ?_ _ | with_reducible refine Blk.drewN ?_ _ | with_reducible apply Blk.setT0 | with_reducible apply Blk.setT1 | with_reducible refine Blk.far ?_ (by first | (simp; done) | omega | (simp; omega)) _ | with_reducible refine Blk.then_ ?_ (by with_reducible assumption))), by (repeat (first | with_reducible assumption | with_reducible exact Blk.new _ _ _ | with_reducible refine Blk.drew ?_ | with_reducible refine Blk.alloc ?_ _ | with_reducible refine Blk.drewN ?_ _ | with_reducible apply Blk.setT0 | with_reducible apply Blk.setT1 | with_reducible refine Blk.far ?_ (by first | (simp; done) | omega | (simp; omega)) _ | with_reducible refine Blk.then_ ?_ (by with_reducible assumption))), by (repeat (first | with_reducible assumption | with_reducible exact Blk.new _ _ _ | with_reducible refine Blk.drew ?_ | with_reducible refine Blk.alloc ?_ _ | with_reducible refine Blk.drewN ?_ _ | with_reducible apply Blk.setT0 | with_reducible apply Blk.setT1 | with_reducible refine Blk.far ?_ (by first | (simp; done) | omega | (simp; omega)) _ | with_reducible refine Blk.then_ ?_ (by with_reducible assumption))), by (repeat (first | with_reducible assumption | with_reducible exact Below.refl _ _ | with_reducible refine below_drewN ?_ _ | with_reducible refine Below.drew ?_ | with_reducible refine below_alloc ?_ _ | with_reducible refine Below.setCell ?_ (by first | omega | (simp; done) | (simp; omega)) _ | with_reducible refine below_then ?_ (by with_reducible assumption) | (refine below_then (a := World.drew _) ?_ (by with_reducible assumption))))⟩
                  case rest =>
                    obtain ⟨hv209, ga', gb', gc', gs', gp', gu', gv', gq', HB'⟩ := hcut
                    subst hv209
                    clear ga gb gc gs gp gu gv gq HB
                    have ga := ga'
                    clear ga'
                    have gb := gb'
                    clear gb'
                    have gc := gc'
                    clear gc'
                    have gs := gs'
                    clear gs'
                    have gp := gp'
                    clear gp'
                    have gu := gu'
                    clear gu'
                    have gv := gv'
                    clear gv'
                    have gq := gq'
                    clear gq'
                    have HB := HB'
                    clear HB'
                    obtain ⟨X19, hX⟩ : ∃ x, x = wc := ⟨_, rfl⟩
                    subst hX
                    have hz := Below.refl X19.heap.size X19
                    go_upto_if 209 with (fail)
                    cases c with
                    | false =>
                      have ca0 : X19.cell? ⟨ba, 0, none⟩ = some (.int .i64 n1) := (ga).cell 0
                      have ca1 : X19.cell? ⟨ba, 1, none⟩ = some (.int .i64 d1) := (ga).cell 1
                      have cb0 : X19.cell? ⟨bb, 0, none⟩ = some (.int .i64 n2) := (gb).cell 0
                      have cb1 : X19.cell? ⟨bb, 1, none⟩ = some (.int .i64 d2) := (gb).cell 1
                      have cc0 : X19.cell? ⟨bc, 0, none⟩ = some (.int .i64 n3) := (gc).cell 0
                      have cc1 : X19.cell? ⟨bc, 1, none⟩ = some (.int .i64 d3) := (gc).cell 1
                      have cs0 : X19.cell? ⟨bs, 0, none⟩ = some (.int .i64 sN) := (gs).cell 0
                      have cs1 : X19.cell? ⟨bs, 1, none⟩ = some (.int .i64 sD) := (gs).cell 1
                      have cp0 : X19.cell? ⟨bp, 0, none⟩ = some (.int .i64 pN) := (gp).cell 0
                      have cp1 : X19.cell? ⟨bp, 1, none⟩ = some (.int .i64 pD) := (gp).cell 1
                      have cu0 : X19.cell? ⟨bu, 0, none⟩ = some (.int .i64 uN) := (gu).cell 0
                      have cu1 : X19.cell? ⟨bu, 1, none⟩ = some (.int .i64 uD) := (gu).cell 1
                      have cv0 : X19.cell? ⟨bv, 0, none⟩ = some (.int .i64 vN) := (gv).cell 0
                      have cv1 : X19.cell? ⟨bv, 1, none⟩ = some (.int .i64 vD) := (gv).cell 1
                      have cq0 : X19.cell? ⟨bq, 0, none⟩ = some (.int .i64 qN) := (gq).cell 0
                      have cq1 : X19.cell? ⟨bq, 1, none⟩ = some (.int .i64 qD) := (gq).cell 1
                      go_wp2
                      go_ret
                      exact ⟨rfl, by (repeat (first | with_reducible assumption | with_reducible exact Below.refl _ _ | with_reducible refine below_drewN ?_ _ | with_reducible refine Below.drew ?_ | with_reducible refine below_alloc ?_ _ | with_reducible refine Below.setCell ?_ (by first | omega | (simp; done) | (simp; omega)) _ | with_reducible refine below_then ?_ (by with_reducible assumption) | (refine below_then (a := World.drew _) ?_ (by with_reducible assumption))))⟩
                    | true =>
                      obtain ⟨h0, h1, h2⟩ := of_decide_eq_true HCC.out.symm
                      have HZ1' := Lib.hid (fun W => HZ1.out W h0 h1 h2)
                      have HZ2' := Lib.hid (fun W => HZ2.out W h0 h1 h2)
                      clear h0 h1 h2
                      have ca0 : X19.cell? ⟨ba, 0, none⟩ = some (.int .i64 n1) := (ga).cell 0
                      have ca1 : X19.cell? ⟨ba, 1, none⟩ = some (.int .i64 d1) := (ga).cell 1
                      have cu0 : X19.cell? ⟨bu, 0, none⟩ = some (.int .i64 uN) := (gu).cell 0
                      have cu1 : X19.cell? ⟨bu, 1, none⟩ = some (.int .i64 uD) := (gu).cell 1
                      go_upto_region 33 with ((go_at_call 18; (with_reducible refine (HZ1'.out _).mono ?_); rintro e w1 ⟨rfl, hbw1⟩))
                      clear ca0 ca1 cu0 cu1
                      refine name_wp ?_
                      intro X20 hX
                      have na : Blk X20 ba 25 #[.int .i64 n1, .int .i64 d1] := by rw [hX]; (repeat (first | with_reducible assumption | with_reducible exact Blk.new _ _ _ | with_reducible refine Blk.drew ?_ | with_reducible refine Blk.alloc ?_ _ | with_reducible refine Blk.drewN ?_ _ | with_reducible apply Blk.setT0 | with_reducible apply Blk.setT1 | with_reducible refine Blk.far ?_ (by first | (simp; done) | omega | (simp; omega)) _ | with_reducible refine Blk.then_ ?_ (by with_reducible assumption)))
                      have nb : Blk X20 bb 25 #[.int .i64 n2, .int .i64 d2] := by rw [hX]; (repeat (first | with_reducible assumption | with_reducible exact Blk.new _ _ _ | with_reducible refine Blk.drew ?_ | with_reducible refine Blk.alloc ?_ _ | with_reducible refine Blk.drewN ?_ _ | with_reducible apply Blk.setT0 | with_reducible apply Blk.setT1 | with_reducible refine Blk.far ?_ (by first | (simp; done) | omega | (simp; omega)) _ | with_reducible refine Blk.then_ ?_ (by with_reducible assumption)))
                      have nc : Blk X20 bc 25 #[.int .i64 n3, .int .i64 d3] := by rw [hX]; (repeat (first | with_reducible assumption | with_reducible exact Blk.new _ _ _ | with_reducible refine Blk.drew ?_ | with_reducible refine Blk.alloc ?_ _ | with_reducible refine Blk.drewN ?_ _ | with_reducible apply Blk.setT0 | with_reducible apply Blk.setT1 | with_reducible refine Blk.far ?_ (by first | (simp; done) | omega | (simp; omega)) _ | with_reducible refine Blk.then_ ?_ (by with_reducible assumption)))
                      have ns : Blk X20 bs 25 #[.int .i64 sN, .int .i64 sD] := by rw [hX]; (repeat (first | with_reducible assumption | with_reducible exact Blk.new _ _ _ | with_reducible refine Blk.drew ?_ | with_reducible refine Blk.alloc ?_ _ | with_reducible refine Blk.drewN ?_ _ | with_reducible apply Blk.setT0 | with_reducible apply Blk.setT1 | with_reducible refine Blk.far ?_ (by first | (simp; done) | omega | (simp; omega)) _ | with_reducible refine Blk.then_ ?_ (by with_reducible assumption)))
                      have np : Blk X20 bp 25 #[.int .i64 pN, .int .i64 pD] := by rw [hX]; (repeat (first | with_reducible assumption | with_reducible exact Blk.new _ _ _ | with_reducible refine Blk.drew ?_ | with_reducible refine Blk.alloc ?_ _ | with_reducible refine Blk.drewN ?_ _ | with_reducible apply Blk.setT0 | with_reducible apply Blk.setT1 | with_reducible refine Blk.far ?_ (by first | (simp; done) | omega | (simp; omega)) _ | with_reducible refine Blk.then_ ?_ (by with_reducible assumption)))
                      have nu : Blk X20 bu 25 #[.int .i64 uN, .int .i64 uD] := by rw [hX]; (repeat (first | with_reducible assumption | with_reducible exact Blk.new _ _ _ | with_reducible refine Blk.drew ?_ | with_reducible refine Blk.alloc ?_ _ | with_reducible refine Blk.drewN ?_ _ | with_reducible apply Blk.setT0 | with_reducible apply Blk.setT1 | with_reducible refine Blk.far ?_ (by first | (simp; done) | omega | (simp; omega)) _ | with_reducible refine Blk.then_ ?_ (by with_reducible assumption)))
                      have nv : Blk X20 bv 25 #[.int .i64 vN, .int .i64 vD] := by rw [hX]; (repeat (first | with_reducible assumption | with_reducible exact Blk.new _ _ _ | with_reducible refine Blk.drew ?_ | with_reducible refine Blk.alloc ?_ _ | with_reducible refine Blk.drewN ?_ _ | with_reducible apply Blk.setT0 | with_reducible apply Blk.setT1 | with_reducible refine Blk.far ?_ (by first | (simp; done) | omega | (simp; omega)) _ | with_reducible refine Blk.then_ ?_ (by with_reducible assumption)))
                      have nq : Blk X20 bq 25 #[.int .i64 qN, .int .i64 qD] := by rw [hX]; (repeat (first | with_reducible assumption | with_reducible exact Blk.new _ _ _ | with_reducible refine Blk.drew ?_ | with_reducible refine Blk.alloc ?_ _ | with_reducible refine Blk.drewN ?_ _ | with_reducible apply Blk.setT0 | with_reducible apply Blk.setT1 | with_reducible refine Blk.far ?_ (by first | (simp; done) | omega | (simp; omega)) _ | with_reducible refine Blk.then_ ?_ (by with_reducible assumption)))
                      have nx : Blk X20 (w1.heap.size) 25 #[.int .i64 zN, .int .i64 zD] := by rw [hX]; exact Blk.new _ _ _
                      have lx : w.heap.size ≤ w1.heap.size := (below_then HB hbw1).size
                      have oax : ba < w1.heap.size := (ga.then_ hbw1).lt
                      have obx : bb < w1.heap.size := (gb.then_ hbw1).lt
                      have ocx : bc < w1.heap.size := (gc.then_ hbw1).lt
                      have osx : bs < w1.heap.size := (gs.then_ hbw1).lt
                      have opx : bp < w1.heap.size := (gp.then_ hbw1).lt
                      have oux : bu < w1.heap.size := (gu.then_ hbw1).lt
                      have ovx : bv < w1.heap.size := (gv.then_ hbw1).lt
                      have oqx : bq < w1.heap.size := (gq.then_ hbw1).lt
                      have NB : Below w.heap.size w X20 := by rw [hX]; (repeat (first | with_reducible assumption | with_reducible exact Below.refl _ _ | with_reducible refine below_drewN ?_ _ | with_reducible refine Below.drew ?_ | with_reducible refine below_alloc ?_ _ | with_reducible refine Below.setCell ?_ (by first | omega | (simp; done) | (simp; omega)) _ | with_reducible refine below_then ?_ (by with_reducible assumption) | (refine below_then (a := World.drew _) ?_ (by with_reducible assumption))))
                      clear hX ga gb gc gs gp gu gv gq HB
                      obtain ⟨bx, eb⟩ : ∃ b, w1.heap.size = b := ⟨_, rfl⟩
                      rw [eb] at nx lx oax obx ocx osx opx oux ovx oqx ⊢
                      clear eb
                      have ga := na
                      clear na
                      have gb := nb
                      clear nb
                      have gc := nc
                      clear nc
                      have gs := ns
                      clear ns
                      have gp := np
                      clear np
                      have gu := nu
                      clear nu
                      have gv := nv
                      clear nv
                      have gq := nq
                      clear nq
                      have gx := nx
                      clear nx
                      have HB := NB
                      clear NB
                      have hz := Below.refl X20.heap.size X20
                      have cp0 : X20.cell? ⟨bp, 0, none⟩ = some (.int .i64 pN) := (gp).cell 0
                      have cp1 : X20.cell? ⟨bp, 1, none⟩ = some (.int .i64 pD) := (gp).cell 1
                      have cq0 : X20.cell? ⟨bq, 0, none⟩ = some (.int .i64 qN) := (gq).cell 0
                      have cq1 : X20.cell? ⟨bq, 1, none⟩ = some (.int .i64 qD) := (gq).cell 1
                      go_upto_region 34 with ((go_at_call 17; (with_reducible refine (HZ2'.out _).mono ?_); rintro e w1 ⟨rfl, hbw1⟩))
                      clear cp0 cp1 cq0 cq1
                      refine name_wp ?_
                      intro X21 hX
                      have na : Blk X21 ba 25 #[.int .i64 n1, .int .i64 d1] := by rw [hX]; (repeat (first | with_reducible assumption | with_reducible exact Blk.new _ _ _ | with_reducible refine Blk.drew ?_ | with_reducible refine Blk.alloc ?_ _ | with_reducible refine Blk.drewN ?_ _ | with_reducible apply Blk.setT0 | with_reducible apply Blk.setT1 | with_reducible refine Blk.far ?_ (by first | (simp; done) | omega | (simp; omega)) _ | with_reducible refine Blk.then_ ?_ (by with_reducible assumption)))
                      have nb : Blk X21 bb 25 #[.int .i64 n2, .int .i64 d2] := by rw [hX]; (repeat (first | with_reducible assumption | with_reducible exact Blk.new _ _ _ | with_reducible refine Blk.drew ?_ | with_reducible refine Blk.alloc ?_ _ | with_reducible refine Blk.drewN ?_ _ | with_reducible apply Blk.setT0 | with_reducible apply Blk.setT1 | with_reducible refine Blk.far ?_ (by first | (simp; done) | omega | (simp; omega)) _ | with_reducible refine Blk.then_ ?_ (by with_reducible assumption)))
                      have nc : Blk X21 bc 25 #[.int .i64 n3, .int .i64 d3] := by rw [hX]; (repeat (first | with_reducible assumption | with_reducible exact Blk.new _ _ _ | with_reducible refine Blk.drew ?_ | with_reducible refine Blk.alloc ?_ _ | with_reducible refine Blk.drewN ?_ _ | with_reducible apply Blk.setT0 | with_reducible apply Blk.setT1 | with_reducible refine Blk.far ?_ (by first | (simp; done) | omega | (simp; omega)) _ | with_reducible refine Blk.then_ ?_ (by with_reducible assumption)))
                      have ns : Blk X21 bs 25 #[.int .i64 sN, .int .i64 sD] := by rw [hX]; (repeat (first | with_reducible assumption | with_reducible exact Blk.new _ _ _ | with_reducible refine Blk.drew ?_ | with_reducible refine Blk.alloc ?_ _ | with_reducible refine Blk.drewN ?_ _ | with_reducible apply Blk.setT0 | with_reducible apply Blk.setT1 | with_reducible refine Blk.far ?_ (by first | (simp; done) | omega | (simp; omega)) _ | with_reducible refine Blk.then_ ?_ (by with_reducible assumption)))
                      have np : Blk X21 bp 25 #[.int .i64 pN, .int .i64 pD] := by rw [hX]; (repeat (first | with_reducible assumption | with_reducible exact Blk.new _ _ _ | with_reducible refine Blk.drew ?_ | with_reducible refine Blk.alloc ?_ _ | with_reducible refine Blk.drewN ?_ _ | with_reducible apply Blk.setT0 | with_reducible apply Blk.setT1 | with_reducible refine Blk.far ?_ (by first | (simp; done) | omega | (simp; omega)) _ | with_reducible refine Blk.then_ ?_ (by with_reducible assumption)))
                      have nu : Blk X21 bu 25 #[.int .i64 uN, .int .i64 uD] := by rw [hX]; (repeat (first | with_reducible assumption | with_reducible exact Blk.new _ _ _ | with_reducible refine Blk.drew ?_ | with_reducible refine Blk.alloc ?_ _ | with_reducible refine Blk.drewN ?_ _ | with_reducible apply Blk.setT0 | with_reducible apply Blk.setT1 | with_reducible refine Blk.far ?_ (by first | (simp; done) | omega | (simp; omega)) _ | with_reducible refine Blk.then_ ?_ (by with_reducible assumption)))
                      have nv : Blk X21 bv 25 #[.int .i64 vN, .int .i64 vD] := by rw [hX]; (repeat (first | with_reducible assumption | with_reducible exact Blk.new _ _ _ | with_reducible refine Blk.drew ?_ | with_reducible refine Blk.alloc ?_ _ | with_reducible refine Blk.drewN ?_ _ | with_reducible apply Blk.setT0 | with_reducible apply Blk.setT1 | with_reducible refine Blk.far ?_ (by first | (simp; done) | omega | (simp; omega)) _ | with_reducible refine Blk.then_ ?_ (by with_reducible assumption)))
                      have nq : Blk X21 bq 25 #[.int .i64 qN, .int .i64 qD] := by rw [hX]; (repeat (first | with_reducible assumption | with_reducible exact Blk.new _ _ _ | with_reducible refine Blk.drew ?_ | with_reducible refine Blk.alloc ?_ _ | with_reducible refine Blk.drewN ?_ _ | with_reducible apply Blk.setT0 | with_reducible apply Blk.setT1 | with_reducible refine Blk.far ?_ (by first | (simp; done) | omega | (simp; omega)) _ | with_reducible refine Blk.then_ ?_ (by with_reducible assumption)))
                      have nx : Blk X21 bx 25 #[.int .i64 zN, .int .i64 zD] := by rw [hX]; (repeat (first | with_reducible assumption | with_reducible exact Blk.new _ _ _ | with_reducible refine Blk.drew ?_ | with_reducible refine Blk.alloc ?_ _ | with_reducible refine Blk.drewN ?_ _ | with_reducible apply Blk.setT0 | with_reducible apply Blk.setT1 | with_reducible refine Blk.far ?_ (by first | (simp; done) | omega | (simp; omega)) _ | with_reducible refine Blk.then_ ?_ (by with_reducible assumption)))
                      have nj : Blk X21 (w1.heap.size) 25 #[.int .i64 zN, .int .i64 zD] := by rw [hX]; exact Blk.new _ _ _
                      have lj : w.heap.size ≤ w1.heap.size := (below_then HB hbw1).size
                      have oaj : ba < w1.heap.size := (ga.then_ hbw1).lt
                      have obj : bb < w1.heap.size := (gb.then_ hbw1).lt
                      have ocj : bc < w1.heap.size := (gc.then_ hbw1).lt
                      have osj : bs < w1.heap.size := (gs.then_ hbw1).lt
                      have opj : bp < w1.heap.size := (gp.then_ hbw1).lt
                      have ouj : bu < w1.heap.size := (gu.then_ hbw1).lt
                      have ovj : bv < w1.heap.size := (gv.then_ hbw1).lt
                      have oqj : bq < w1.heap.size := (gq.then_ hbw1).lt
                      have oxj : bx < w1.heap.size := (gx.then_ hbw1).lt
                      have NB : Below w.heap.size w X21 := by rw [hX]; (repeat (first | with_reducible assumption | with_reducible exact Below.refl _ _ | with_reducible refine below_drewN ?_ _ | with_reducible refine Below.drew ?_ | with_reducible refine below_alloc ?_ _ | with_reducible refine Below.setCell ?_ (by first | omega | (simp; done) | (simp; omega)) _ | with_reducible refine below_then ?_ (by with_reducible assumption) | (refine below_then (a := World.drew _) ?_ (by with_reducible assumption))))
                      clear hX ga gb gc gs gp gu gv gq gx HB
                      obtain ⟨bj, eb⟩ : ∃ b, w1.heap.size = b := ⟨_, rfl⟩
                      rw [eb] at nj lj oaj obj ocj osj opj ouj ovj oqj oxj ⊢
                      clear eb
                      have ga := na
                      clear na
                      have gb := nb
                      clear nb
                      have gc := nc
                      clear nc
                      have gs := ns
                      clear ns
                      have gp := np
                      clear np
                      have gu := nu
                      clear nu
                      have gv := nv
                      clear nv
                      have gq := nq
                      clear nq
                      have gx := nx
                      clear nx
                      have gj := nj
                      clear nj
                      have HB := NB
                      clear NB
                      have hz := Below.refl X21.heap.size X21
                      have heq := fun W => eqv_yes zN zD W
                      have ca0 : X21.cell? ⟨ba, 0, none⟩ = some (.int .i64 n1) := (ga).cell 0
                      have ca1 : X21.cell? ⟨ba, 1, none⟩ = some (.int .i64 d1) := (ga).cell 1
                      have cb0 : X21.cell? ⟨bb, 0, none⟩ = some (.int .i64 n2) := (gb).cell 0
                      have cb1 : X21.cell? ⟨bb, 1, none⟩ = some (.int .i64 d2) := (gb).cell 1
                      have cc0 : X21.cell? ⟨bc, 0, none⟩ = some (.int .i64 n3) := (gc).cell 0
                      have cc1 : X21.cell? ⟨bc, 1, none⟩ = some (.int .i64 d3) := (gc).cell 1
                      have cs0 : X21.cell? ⟨bs, 0, none⟩ = some (.int .i64 sN) := (gs).cell 0
                      have cs1 : X21.cell? ⟨bs, 1, none⟩ = some (.int .i64 sD) := (gs).cell 1
                      have cp0 : X21.cell? ⟨bp, 0, none⟩ = some (.int .i64 pN) := (gp).cell 0
                      have cp1 : X21.cell? ⟨bp, 1, none⟩ = some (.int .i64 pD) := (gp).cell 1
                      have cu0 : X21.cell? ⟨bu, 0, none⟩ = some (.int .i64 uN) := (gu).cell 0
                      have cu1 : X21.cell? ⟨bu, 1, none⟩ = some (.int .i64 uD) := (gu).cell 1
                      have cv0 : X21.cell? ⟨bv, 0, none⟩ = some (.int .i64 vN) := (gv).cell 0
                      have cv1 : X21.cell? ⟨bv, 1, none⟩ = some (.int .i64 vD) := (gv).cell 1
                      have cq0 : X21.cell? ⟨bq, 0, none⟩ = some (.int .i64 qN) := (gq).cell 0
                      have cq1 : X21.cell? ⟨bq, 1, none⟩ = some (.int .i64 qD) := (gq).cell 1
                      have cx0 : X21.cell? ⟨bx, 0, none⟩ = some (.int .i64 zN) := (gx).cell 0
                      have cx1 : X21.cell? ⟨bx, 1, none⟩ = some (.int .i64 zD) := (gx).cell 1
                      have cj0 : X21.cell? ⟨bj, 0, none⟩ = some (.int .i64 zN) := (gj).cell 0
                      have cj1 : X21.cell? ⟨bj, 1, none⟩ = some (.int .i64 zD) := (gj).cell 1
                      go_wp2
                      go_ret
                      exact ⟨rfl, by (repeat (first | with_reducible assumption | with_reducible exact Below.refl _ _ | with_reducible refine below_drewN ?_ _ | with_reducible refine Below.drew ?_ | with_reducible refine below_alloc ?_ _ | with_reducible refine Below.setCell ?_ (by first | omega | (simp; done) | (simp; omega)) _ | with_reducible refine below_then ?_ (by with_reducible assumption) | (refine below_then (a := World.drew _) ?_ (by with_reducible assumption))))⟩
end Go.Proofs.YtbkekabhdpoddaaDoor
