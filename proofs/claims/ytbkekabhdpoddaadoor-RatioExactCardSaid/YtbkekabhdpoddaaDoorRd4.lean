/- The walk of RatioExact at small ratios. -/
import Derived.Test.YtbkekabhdpoddaaDoorRd0
namespace Go.Proofs.YtbkekabhdpoddaaDoor
open Go.RowKit

set_option maxRecDepth 100000 in
set_option maxHeartbeats 6400000 in
theorem exact_key (n1 d1 n2 d2 M M2 sN sD eN eD pN pD qN qD qE m y1 y2 y4 x1 x2 x3 x4 z1 : Int) (w : World)
    (HH : Hid (∀ W, Below w.heap.size w W → Calls Tryd.prog 11 #[] W fun e w' => e = .returned (.bool true) ∧ Below W.heap.size W w'))
    (HV1 : Hid (∀ W, Calls Tryd.prog 15 #[.agg #[.int .i64 n1, .int .i64 d1]] W fun e w' => e = .returned (.bool true) ∧ Below W.heap.size W w'))
    (HV2 : Hid (∀ W, Calls Tryd.prog 15 #[.agg #[.int .i64 n2, .int .i64 d2]] W fun e w' => e = .returned (.bool true) ∧ Below W.heap.size W w'))
    (hm4 : ∀ W ts t, (Builtin.max_ ts t #[.int .i64 n1, .int .i64 (-n1), .int .i64 n2, .int .i64 (-n2)]).run Tryd.prog W = .ok (.int .i64 M) W) (hm2 : ∀ W ts t, (Builtin.max_ ts t #[.int .i64 d1, .int .i64 d2]).run Tryd.prog W = .ok (.int .i64 M2) W) (hM : ¬ 1000 < M) (hM2 : ¬ 1000 < M2)
    (b1 : -1000 ≤ n1 ∧ n1 ≤ 1000) (b2 : -1000 ≤ n2 ∧ n2 ≤ 1000) (b3 : 1 ≤ d1 ∧ d1 ≤ 1000) (b4 : 1 ≤ d2 ∧ d2 ≤ 1000)
    (HOs : Hid (∀ W, Calls Tryd.prog 17 #[.agg #[.int .i64 n1, .int .i64 d1], .agg #[.int .i64 n2, .int .i64 d2]] W fun e w' => e = .returned (.tuple #[.agg #[.int .i64 sN, .int .i64 sD], .int .i64 0]) ∧ Below W.heap.size W w'))
    (HOe : Hid (∀ W, Calls Tryd.prog 28 #[.agg #[.int .i64 n1, .int .i64 d1], .agg #[.int .i64 n2, .int .i64 d2]] W fun e w' => e = .returned (.tuple #[.agg #[.int .i64 eN, .int .i64 eD], .int .i64 0]) ∧ Below W.heap.size W w'))
    (HOp : Hid (∀ W, Calls Tryd.prog 18 #[.agg #[.int .i64 n1, .int .i64 d1], .agg #[.int .i64 n2, .int .i64 d2]] W fun e w' => e = .returned (.tuple #[.agg #[.int .i64 pN, .int .i64 pD], .int .i64 0]) ∧ Below W.heap.size W w'))
    (HOq : Hid (∀ W, Calls Tryd.prog 31 #[.agg #[.int .i64 n1, .int .i64 d1], .agg #[.int .i64 n2, .int .i64 d2]] W fun e w' => e = .returned (.tuple #[.agg #[.int .i64 qN, .int .i64 qD], .int .i64 qE]) ∧ Below W.heap.size W w'))
    (HVs : Hid (∀ W, Calls Tryd.prog 15 #[.agg #[.int .i64 sN, .int .i64 sD]] W fun e w' => e = .returned (.bool true) ∧ Below W.heap.size W w'))
    (HVe : Hid (∀ W, Calls Tryd.prog 15 #[.agg #[.int .i64 eN, .int .i64 eD]] W fun e w' => e = .returned (.bool true) ∧ Below W.heap.size W w'))
    (HVp : Hid (∀ W, Calls Tryd.prog 15 #[.agg #[.int .i64 pN, .int .i64 pD]] W fun e w' => e = .returned (.bool true) ∧ Below W.heap.size W w'))
    (HVq : Hid (∀ W, n2 ≠ 0 → Calls Tryd.prog 15 #[.agg #[.int .i64 qN, .int .i64 qD]] W fun e w' => e = .returned (.bool true) ∧ Below W.heap.size W w'))
    (hm : d1 * d2 = m) (rm : (-1000000 ≤ m ∧ m ≤ 1000000)) (hy1 : n1 * d2 = y1) (hy2 : n2 * d1 = y2) (hy4 : n1 * n2 = y4) (ry1 : (-1000000 ≤ y1 ∧ y1 ≤ 1000000)) (ry2 : (-1000000 ≤ y2 ∧ y2 ≤ 1000000)) (ry4 : (-1000000 ≤ y4 ∧ y4 ≤ 1000000))
    (hx1 : sN * m = x1) (hx1' : (y1 + y2) * sD = x1) (hx2 : eN * m = x2) (hx2' : (y1 - y2) * eD = x2) (hx3 : pN * m = x3) (hx3' : y4 * pD = x3) (rx1 : (-10000000000000 ≤ x1 ∧ x1 ≤ 10000000000000)) (rx2 : (-10000000000000 ≤ x2 ∧ x2 ≤ 10000000000000)) (rx3 : (-10000000000000 ≤ x3 ∧ x3 ≤ 10000000000000))
    (hz1 : d1 * n2 = z1) (rz1 : (-1000000 ≤ z1 ∧ z1 ≤ 1000000)) (hx4 : n2 ≠ 0 → qN * z1 = x4 ∧ y1 * qD = x4) (rx4 : (-10000000000000 ≤ x4 ∧ x4 ≤ 10000000000000)) (hq : (n2 = 0 → qE = 1) ∧ (n2 ≠ 0 → qE = 0)) :
    Calls Tryd.prog 10 #[.agg #[.int .i64 n1, .int .i64 d1], .agg #[.int .i64 n2, .int .i64 d2]] w fun e w' => e = .returned (.bool true) ∧ Below w.heap.size w w' := by
  have t1 := decide_eq_false hM
  have t2 := decide_eq_false hM2
  clear hM hM2
  go_enter Tryd.func10, Tryd.ntmps10
  go_upto_region 1 with (fail)
  refine name_wp ?_
  intro X0 hX
  have ga : Blk X0 (w.heap.size) 25 #[.int .i64 n1, .int .i64 d1] := by rw [hX]; exact ((blk_at (by simp))).alloc _
  have gb : Blk X0 (w.heap.size + 1) 25 #[.int .i64 n2, .int .i64 d2] := by rw [hX]; exact (blk_at (by simp))
  have HB : Below w.heap.size w X0 := by rw [hX]; (repeat (first | with_reducible assumption | with_reducible exact Below.refl _ _ | with_reducible refine below_drewN ?_ _ | with_reducible refine Below.drew ?_ | with_reducible refine below_alloc ?_ _ | with_reducible refine Below.setCell ?_ (by first | omega | (simp; done) | (simp; omega)) _ | with_reducible refine below_then ?_ (by with_reducible assumption) | (refine below_then (a := World.drew _) ?_ (by with_reducible assumption))))
  clear hX
  obtain ⟨bb, eb⟩ : ∃ b, w.heap.size + 1 = b := ⟨_, rfl⟩
  rw [eb] at gb ⊢
  clear eb
  obtain ⟨ba, eb⟩ : ∃ b, w.heap.size = b := ⟨_, rfl⟩
  rw [eb] at ga ⊢
  clear eb
  have hz := Below.refl X0.heap.size X0
  go_upto_region 2 with ((go_at_call 11; (with_reducible refine (HH.out _ HB).mono ?_); rintro e w1 ⟨rfl, hbw1⟩))
  refine name_wp ?_
  intro X1 hX
  have na : Blk X1 ba 25 #[.int .i64 n1, .int .i64 d1] := by rw [hX]; (repeat (first | with_reducible assumption | with_reducible exact Blk.new _ _ _ | with_reducible refine Blk.drew ?_ | with_reducible refine Blk.alloc ?_ _ | with_reducible refine Blk.drewN ?_ _ | with_reducible apply Blk.setT0 | with_reducible apply Blk.setT1 | with_reducible refine Blk.far ?_ (by first | (simp; done) | omega | (simp; omega)) _ | with_reducible refine Blk.then_ ?_ (by with_reducible assumption)))
  have nb : Blk X1 bb 25 #[.int .i64 n2, .int .i64 d2] := by rw [hX]; (repeat (first | with_reducible assumption | with_reducible exact Blk.new _ _ _ | with_reducible refine Blk.drew ?_ | with_reducible refine Blk.alloc ?_ _ | with_reducible refine Blk.drewN ?_ _ | with_reducible apply Blk.setT0 | with_reducible apply Blk.setT1 | with_reducible refine Blk.far ?_ (by first | (simp; done) | omega | (simp; omega)) _ | with_reducible refine Blk.then_ ?_ (by with_reducible assumption)))
  have NB : Below w.heap.size w X1 := by rw [hX]; (repeat (first | with_reducible assumption | with_reducible exact Below.refl _ _ | with_reducible refine below_drewN ?_ _ | with_reducible refine Below.drew ?_ | with_reducible refine below_alloc ?_ _ | with_reducible refine Below.setCell ?_ (by first | omega | (simp; done) | (simp; omega)) _ | with_reducible refine below_then ?_ (by with_reducible assumption) | (refine below_then (a := World.drew _) ?_ (by with_reducible assumption))))
  clear hX ga gb HB
  have ga := na
  clear na
  have gb := nb
  clear nb
  have HB := NB
  clear NB
  have hz := Below.refl X1.heap.size X1
  have ca0 : X1.cell? ⟨ba, 0, none⟩ = some (.int .i64 n1) := (ga).cell 0
  have ca1 : X1.cell? ⟨ba, 1, none⟩ = some (.int .i64 d1) := (ga).cell 1
  have cb0 : X1.cell? ⟨bb, 0, none⟩ = some (.int .i64 n2) := (gb).cell 0
  have cb1 : X1.cell? ⟨bb, 1, none⟩ = some (.int .i64 d2) := (gb).cell 1
  go_upto_region 4 with (first | (go_at_call 15; (with_reducible refine (HV1.out _).mono ?_); rintro e w1 ⟨rfl, hbw1⟩; have k1a0 : w1.cell? ⟨ba, 0, none⟩ = some (.int .i64 n1) := ((ga.then_ hbw1)).cell 0; have k1a1 : w1.cell? ⟨ba, 1, none⟩ = some (.int .i64 d1) := ((ga.then_ hbw1)).cell 1; have k1b0 : w1.cell? ⟨bb, 0, none⟩ = some (.int .i64 n2) := ((gb.then_ hbw1)).cell 0; have k1b1 : w1.cell? ⟨bb, 1, none⟩ = some (.int .i64 d2) := ((gb.then_ hbw1)).cell 1) | (go_at_call 15; (with_reducible refine (HV2.out _).mono ?_); rintro e w2 ⟨rfl, hbw2⟩; have k2a0 : w2.cell? ⟨ba, 0, none⟩ = some (.int .i64 n1) := (((ga.then_ hbw1).then_ hbw2)).cell 0; have k2a1 : w2.cell? ⟨ba, 1, none⟩ = some (.int .i64 d1) := (((ga.then_ hbw1).then_ hbw2)).cell 1; have k2b0 : w2.cell? ⟨bb, 0, none⟩ = some (.int .i64 n2) := (((gb.then_ hbw1).then_ hbw2)).cell 0; have k2b1 : w2.cell? ⟨bb, 1, none⟩ = some (.int .i64 d2) := (((gb.then_ hbw1).then_ hbw2)).cell 1))
  clear hm4 hm2 t1 t2 HV1 HV2
  clear ca0 ca1 cb0 cb1
  try clear k1a0 k1a1 k1b0 k1b1
  try clear k2a0 k2a1 k2b0 k2b1
  refine name_wp ?_
  intro X2 hX
  have na : Blk X2 ba 25 #[.int .i64 n1, .int .i64 d1] := by rw [hX]; (repeat (first | with_reducible assumption | with_reducible exact Blk.new _ _ _ | with_reducible refine Blk.drew ?_ | with_reducible refine Blk.alloc ?_ _ | with_reducible refine Blk.drewN ?_ _ | with_reducible apply Blk.setT0 | with_reducible apply Blk.setT1 | with_reducible refine Blk.far ?_ (by first | (simp; done) | omega | (simp; omega)) _ | with_reducible refine Blk.then_ ?_ (by with_reducible assumption)))
  have nb : Blk X2 bb 25 #[.int .i64 n2, .int .i64 d2] := by rw [hX]; (repeat (first | with_reducible assumption | with_reducible exact Blk.new _ _ _ | with_reducible refine Blk.drew ?_ | with_reducible refine Blk.alloc ?_ _ | with_reducible refine Blk.drewN ?_ _ | with_reducible apply Blk.setT0 | with_reducible apply Blk.setT1 | with_reducible refine Blk.far ?_ (by first | (simp; done) | omega | (simp; omega)) _ | with_reducible refine Blk.then_ ?_ (by with_reducible assumption)))
  have NB : Below w.heap.size w X2 := by rw [hX]; (repeat (first | with_reducible assumption | with_reducible exact Below.refl _ _ | with_reducible refine below_drewN ?_ _ | with_reducible refine Below.drew ?_ | with_reducible refine below_alloc ?_ _ | with_reducible refine Below.setCell ?_ (by first | omega | (simp; done) | (simp; omega)) _ | with_reducible refine below_then ?_ (by with_reducible assumption) | (refine below_then (a := World.drew _) ?_ (by with_reducible assumption))))
  clear hX ga gb HB
  have ga := na
  clear na
  have gb := nb
  clear nb
  have HB := NB
  clear NB
  have hz := Below.refl X2.heap.size X2
  have ca0 : X2.cell? ⟨ba, 0, none⟩ = some (.int .i64 n1) := (ga).cell 0
  have ca1 : X2.cell? ⟨ba, 1, none⟩ = some (.int .i64 d1) := (ga).cell 1
  have cb0 : X2.cell? ⟨bb, 0, none⟩ = some (.int .i64 n2) := (gb).cell 0
  have cb1 : X2.cell? ⟨bb, 1, none⟩ = some (.int .i64 d2) := (gb).cell 1
  go_upto_region 5 with ((go_at_call 17; (with_reducible refine (HOs.out _).mono ?_); rintro e w1 ⟨rfl, hbw1⟩))
  clear HOs
  clear ca0 ca1 cb0 cb1
  refine name_wp ?_
  intro X3 hX
  have na : Blk X3 ba 25 #[.int .i64 n1, .int .i64 d1] := by rw [hX]; (repeat (first | with_reducible assumption | with_reducible exact Blk.new _ _ _ | with_reducible refine Blk.drew ?_ | with_reducible refine Blk.alloc ?_ _ | with_reducible refine Blk.drewN ?_ _ | with_reducible apply Blk.setT0 | with_reducible apply Blk.setT1 | with_reducible refine Blk.far ?_ (by first | (simp; done) | omega | (simp; omega)) _ | with_reducible refine Blk.then_ ?_ (by with_reducible assumption)))
  have nb : Blk X3 bb 25 #[.int .i64 n2, .int .i64 d2] := by rw [hX]; (repeat (first | with_reducible assumption | with_reducible exact Blk.new _ _ _ | with_reducible refine Blk.drew ?_ | with_reducible refine Blk.alloc ?_ _ | with_reducible refine Blk.drewN ?_ _ | with_reducible apply Blk.setT0 | with_reducible apply Blk.setT1 | with_reducible refine Blk.far ?_ (by first | (simp; done) | omega | (simp; omega)) _ | with_reducible refine Blk.then_ ?_ (by with_reducible assumption)))
  have ns : Blk X3 (w1.heap.size) 25 #[.int .i64 sN, .int .i64 sD] := by rw [hX]; exact Blk.new _ _ _
  have ls : w.heap.size ≤ w1.heap.size := (below_then HB hbw1).size
  have oas : ba < w1.heap.size := (ga.then_ hbw1).lt
  have obs : bb < w1.heap.size := (gb.then_ hbw1).lt
  have NB : Below w.heap.size w X3 := by rw [hX]; (repeat (first | with_reducible assumption | with_reducible exact Below.refl _ _ | with_reducible refine below_drewN ?_ _ | with_reducible refine Below.drew ?_ | with_reducible refine below_alloc ?_ _ | with_reducible refine Below.setCell ?_ (by first | omega | (simp; done) | (simp; omega)) _ | with_reducible refine below_then ?_ (by with_reducible assumption) | (refine below_then (a := World.drew _) ?_ (by with_reducible assumption))))
  clear hX ga gb HB
  obtain ⟨bs, eb⟩ : ∃ b, w1.heap.size = b := ⟨_, rfl⟩
  rw [eb] at ns ls oas obs ⊢
  clear eb
  have ga := na
  clear na
  have gb := nb
  clear nb
  have gs := ns
  clear ns
  have HB := NB
  clear NB
  have hz := Below.refl X3.heap.size X3
  have ca0 : X3.cell? ⟨ba, 0, none⟩ = some (.int .i64 n1) := (ga).cell 0
  have ca1 : X3.cell? ⟨ba, 1, none⟩ = some (.int .i64 d1) := (ga).cell 1
  have cb0 : X3.cell? ⟨bb, 0, none⟩ = some (.int .i64 n2) := (gb).cell 0
  have cb1 : X3.cell? ⟨bb, 1, none⟩ = some (.int .i64 d2) := (gb).cell 1
  go_upto_region 6 with ((go_at_call 28; (with_reducible refine (HOe.out _).mono ?_); rintro e w1 ⟨rfl, hbw1⟩))
  clear HOe
  clear ca0 ca1 cb0 cb1
  refine name_wp ?_
  intro X4 hX
  have na : Blk X4 ba 25 #[.int .i64 n1, .int .i64 d1] := by rw [hX]; (repeat (first | with_reducible assumption | with_reducible exact Blk.new _ _ _ | with_reducible refine Blk.drew ?_ | with_reducible refine Blk.alloc ?_ _ | with_reducible refine Blk.drewN ?_ _ | with_reducible apply Blk.setT0 | with_reducible apply Blk.setT1 | with_reducible refine Blk.far ?_ (by first | (simp; done) | omega | (simp; omega)) _ | with_reducible refine Blk.then_ ?_ (by with_reducible assumption)))
  have nb : Blk X4 bb 25 #[.int .i64 n2, .int .i64 d2] := by rw [hX]; (repeat (first | with_reducible assumption | with_reducible exact Blk.new _ _ _ | with_reducible refine Blk.drew ?_ | with_reducible refine Blk.alloc ?_ _ | with_reducible refine Blk.drewN ?_ _ | with_reducible apply Blk.setT0 | with_reducible apply Blk.setT1 | with_reducible refine Blk.far ?_ (by first | (simp; done) | omega | (simp; omega)) _ | with_reducible refine Blk.then_ ?_ (by with_reducible assumption)))
  have ns : Blk X4 bs 25 #[.int .i64 sN, .int .i64 sD] := by rw [hX]; (repeat (first | with_reducible assumption | with_reducible exact Blk.new _ _ _ | with_reducible refine Blk.drew ?_ | with_reducible refine Blk.alloc ?_ _ | with_reducible refine Blk.drewN ?_ _ | with_reducible apply Blk.setT0 | with_reducible apply Blk.setT1 | with_reducible refine Blk.far ?_ (by first | (simp; done) | omega | (simp; omega)) _ | with_reducible refine Blk.then_ ?_ (by with_reducible assumption)))
  have ne : Blk X4 (w1.heap.size) 25 #[.int .i64 eN, .int .i64 eD] := by rw [hX]; exact Blk.new _ _ _
  have le : w.heap.size ≤ w1.heap.size := (below_then HB hbw1).size
  have oae : ba < w1.heap.size := (ga.then_ hbw1).lt
  have obe : bb < w1.heap.size := (gb.then_ hbw1).lt
  have ose : bs < w1.heap.size := (gs.then_ hbw1).lt
  have NB : Below w.heap.size w X4 := by rw [hX]; (repeat (first | with_reducible assumption | with_reducible exact Below.refl _ _ | with_reducible refine below_drewN ?_ _ | with_reducible refine Below.drew ?_ | with_reducible refine below_alloc ?_ _ | with_reducible refine Below.setCell ?_ (by first | omega | (simp; done) | (simp; omega)) _ | with_reducible refine below_then ?_ (by with_reducible assumption) | (refine below_then (a := World.drew _) ?_ (by with_reducible assumption))))
  clear hX ga gb gs HB
  obtain ⟨be, eb⟩ : ∃ b, w1.heap.size = b := ⟨_, rfl⟩
  rw [eb] at ne le oae obe ose ⊢
  clear eb
  have ga := na
  clear na
  have gb := nb
  clear nb
  have gs := ns
  clear ns
  have ge := ne
  clear ne
  have HB := NB
  clear NB
  have hz := Below.refl X4.heap.size X4
  have ca0 : X4.cell? ⟨ba, 0, none⟩ = some (.int .i64 n1) := (ga).cell 0
  have ca1 : X4.cell? ⟨ba, 1, none⟩ = some (.int .i64 d1) := (ga).cell 1
  have cb0 : X4.cell? ⟨bb, 0, none⟩ = some (.int .i64 n2) := (gb).cell 0
  have cb1 : X4.cell? ⟨bb, 1, none⟩ = some (.int .i64 d2) := (gb).cell 1
  go_upto_region 7 with ((go_at_call 18; (with_reducible refine (HOp.out _).mono ?_); rintro e w1 ⟨rfl, hbw1⟩))
  clear HOp
  clear ca0 ca1 cb0 cb1
  refine name_wp ?_
  intro X5 hX
  have na : Blk X5 ba 25 #[.int .i64 n1, .int .i64 d1] := by rw [hX]; (repeat (first | with_reducible assumption | with_reducible exact Blk.new _ _ _ | with_reducible refine Blk.drew ?_ | with_reducible refine Blk.alloc ?_ _ | with_reducible refine Blk.drewN ?_ _ | with_reducible apply Blk.setT0 | with_reducible apply Blk.setT1 | with_reducible refine Blk.far ?_ (by first | (simp; done) | omega | (simp; omega)) _ | with_reducible refine Blk.then_ ?_ (by with_reducible assumption)))
  have nb : Blk X5 bb 25 #[.int .i64 n2, .int .i64 d2] := by rw [hX]; (repeat (first | with_reducible assumption | with_reducible exact Blk.new _ _ _ | with_reducible refine Blk.drew ?_ | with_reducible refine Blk.alloc ?_ _ | with_reducible refine Blk.drewN ?_ _ | with_reducible apply Blk.setT0 | with_reducible apply Blk.setT1 | with_reducible refine Blk.far ?_ (by first | (simp; done) | omega | (simp; omega)) _ | with_reducible refine Blk.then_ ?_ (by with_reducible assumption)))
  have ns : Blk X5 bs 25 #[.int .i64 sN, .int .i64 sD] := by rw [hX]; (repeat (first | with_reducible assumption | with_reducible exact Blk.new _ _ _ | with_reducible refine Blk.drew ?_ | with_reducible refine Blk.alloc ?_ _ | with_reducible refine Blk.drewN ?_ _ | with_reducible apply Blk.setT0 | with_reducible apply Blk.setT1 | with_reducible refine Blk.far ?_ (by first | (simp; done) | omega | (simp; omega)) _ | with_reducible refine Blk.then_ ?_ (by with_reducible assumption)))
  have ne : Blk X5 be 25 #[.int .i64 eN, .int .i64 eD] := by rw [hX]; (repeat (first | with_reducible assumption | with_reducible exact Blk.new _ _ _ | with_reducible refine Blk.drew ?_ | with_reducible refine Blk.alloc ?_ _ | with_reducible refine Blk.drewN ?_ _ | with_reducible apply Blk.setT0 | with_reducible apply Blk.setT1 | with_reducible refine Blk.far ?_ (by first | (simp; done) | omega | (simp; omega)) _ | with_reducible refine Blk.then_ ?_ (by with_reducible assumption)))
  have np : Blk X5 (w1.heap.size) 25 #[.int .i64 pN, .int .i64 pD] := by rw [hX]; exact Blk.new _ _ _
  have lp : w.heap.size ≤ w1.heap.size := (below_then HB hbw1).size
  have oap : ba < w1.heap.size := (ga.then_ hbw1).lt
  have obp : bb < w1.heap.size := (gb.then_ hbw1).lt
  have osp : bs < w1.heap.size := (gs.then_ hbw1).lt
  have oep : be < w1.heap.size := (ge.then_ hbw1).lt
  have NB : Below w.heap.size w X5 := by rw [hX]; (repeat (first | with_reducible assumption | with_reducible exact Below.refl _ _ | with_reducible refine below_drewN ?_ _ | with_reducible refine Below.drew ?_ | with_reducible refine below_alloc ?_ _ | with_reducible refine Below.setCell ?_ (by first | omega | (simp; done) | (simp; omega)) _ | with_reducible refine below_then ?_ (by with_reducible assumption) | (refine below_then (a := World.drew _) ?_ (by with_reducible assumption))))
  clear hX ga gb gs ge HB
  obtain ⟨bp, eb⟩ : ∃ b, w1.heap.size = b := ⟨_, rfl⟩
  rw [eb] at np lp oap obp osp oep ⊢
  clear eb
  have ga := na
  clear na
  have gb := nb
  clear nb
  have gs := ns
  clear ns
  have ge := ne
  clear ne
  have gp := np
  clear np
  have HB := NB
  clear NB
  have hz := Below.refl X5.heap.size X5
  have ca0 : X5.cell? ⟨ba, 0, none⟩ = some (.int .i64 n1) := (ga).cell 0
  have ca1 : X5.cell? ⟨ba, 1, none⟩ = some (.int .i64 d1) := (ga).cell 1
  have cb0 : X5.cell? ⟨bb, 0, none⟩ = some (.int .i64 n2) := (gb).cell 0
  have cb1 : X5.cell? ⟨bb, 1, none⟩ = some (.int .i64 d2) := (gb).cell 1
  go_upto_region 8 with ((go_at_call 31; (with_reducible refine (HOq.out _).mono ?_); rintro e w1 ⟨rfl, hbw1⟩))
  clear HOq
  clear ca0 ca1 cb0 cb1
  refine name_wp ?_
  intro X6 hX
  have na : Blk X6 ba 25 #[.int .i64 n1, .int .i64 d1] := by rw [hX]; (repeat (first | with_reducible assumption | with_reducible exact Blk.new _ _ _ | with_reducible refine Blk.drew ?_ | with_reducible refine Blk.alloc ?_ _ | with_reducible refine Blk.drewN ?_ _ | with_reducible apply Blk.setT0 | with_reducible apply Blk.setT1 | with_reducible refine Blk.far ?_ (by first | (simp; done) | omega | (simp; omega)) _ | with_reducible refine Blk.then_ ?_ (by with_reducible assumption)))
  have nb : Blk X6 bb 25 #[.int .i64 n2, .int .i64 d2] := by rw [hX]; (repeat (first | with_reducible assumption | with_reducible exact Blk.new _ _ _ | with_reducible refine Blk.drew ?_ | with_reducible refine Blk.alloc ?_ _ | with_reducible refine Blk.drewN ?_ _ | with_reducible apply Blk.setT0 | with_reducible apply Blk.setT1 | with_reducible refine Blk.far ?_ (by first | (simp; done) | omega | (simp; omega)) _ | with_reducible refine Blk.then_ ?_ (by with_reducible assumption)))
  have ns : Blk X6 bs 25 #[.int .i64 sN, .int .i64 sD] := by rw [hX]; (repeat (first | with_reducible assumption | with_reducible exact Blk.new _ _ _ | with_reducible refine Blk.drew ?_ | with_reducible refine Blk.alloc ?_ _ | with_reducible refine Blk.drewN ?_ _ | with_reducible apply Blk.setT0 | with_reducible apply Blk.setT1 | with_reducible refine Blk.far ?_ (by first | (simp; done) | omega | (simp; omega)) _ | with_reducible refine Blk.then_ ?_ (by with_reducible assumption)))
  have ne : Blk X6 be 25 #[.int .i64 eN, .int .i64 eD] := by rw [hX]; (repeat (first | with_reducible assumption | with_reducible exact Blk.new _ _ _ | with_reducible refine Blk.drew ?_ | with_reducible refine Blk.alloc ?_ _ | with_reducible refine Blk.drewN ?_ _ | with_reducible apply Blk.setT0 | with_reducible apply Blk.setT1 | with_reducible refine Blk.far ?_ (by first | (simp; done) | omega | (simp; omega)) _ | with_reducible refine Blk.then_ ?_ (by with_reducible assumption)))
  have np : Blk X6 bp 25 #[.int .i64 pN, .int .i64 pD] := by rw [hX]; (repeat (first | with_reducible assumption | with_reducible exact Blk.new _ _ _ | with_reducible refine Blk.drew ?_ | with_reducible refine Blk.alloc ?_ _ | with_reducible refine Blk.drewN ?_ _ | with_reducible apply Blk.setT0 | with_reducible apply Blk.setT1 | with_reducible refine Blk.far ?_ (by first | (simp; done) | omega | (simp; omega)) _ | with_reducible refine Blk.then_ ?_ (by with_reducible assumption)))
  have nq : Blk X6 (w1.heap.size) 25 #[.int .i64 qN, .int .i64 qD] := by rw [hX]; exact Blk.new _ _ _
  have lq : w.heap.size ≤ w1.heap.size := (below_then HB hbw1).size
  have oaq : ba < w1.heap.size := (ga.then_ hbw1).lt
  have obq : bb < w1.heap.size := (gb.then_ hbw1).lt
  have osq : bs < w1.heap.size := (gs.then_ hbw1).lt
  have oeq : be < w1.heap.size := (ge.then_ hbw1).lt
  have opq : bp < w1.heap.size := (gp.then_ hbw1).lt
  have NB : Below w.heap.size w X6 := by rw [hX]; (repeat (first | with_reducible assumption | with_reducible exact Below.refl _ _ | with_reducible refine below_drewN ?_ _ | with_reducible refine Below.drew ?_ | with_reducible refine below_alloc ?_ _ | with_reducible refine Below.setCell ?_ (by first | omega | (simp; done) | (simp; omega)) _ | with_reducible refine below_then ?_ (by with_reducible assumption) | (refine below_then (a := World.drew _) ?_ (by with_reducible assumption))))
  clear hX ga gb gs ge gp HB
  obtain ⟨bq, eb⟩ : ∃ b, w1.heap.size = b := ⟨_, rfl⟩
  rw [eb] at nq lq oaq obq osq oeq opq ⊢
  clear eb
  have ga := na
  clear na
  have gb := nb
  clear nb
  have gs := ns
  clear ns
  have ge := ne
  clear ne
  have gp := np
  clear np
  have gq := nq
  clear nq
  have HB := NB
  clear NB
  have hz := Below.refl X6.heap.size X6
  have ca0 : X6.cell? ⟨ba, 0, none⟩ = some (.int .i64 n1) := (ga).cell 0
  have ca1 : X6.cell? ⟨ba, 1, none⟩ = some (.int .i64 d1) := (ga).cell 1
  have cb0 : X6.cell? ⟨bb, 0, none⟩ = some (.int .i64 n2) := (gb).cell 0
  have cb1 : X6.cell? ⟨bb, 1, none⟩ = some (.int .i64 d2) := (gb).cell 1
  have cs0 : X6.cell? ⟨bs, 0, none⟩ = some (.int .i64 sN) := (gs).cell 0
  have cs1 : X6.cell? ⟨bs, 1, none⟩ = some (.int .i64 sD) := (gs).cell 1
  have ce0 : X6.cell? ⟨be, 0, none⟩ = some (.int .i64 eN) := (ge).cell 0
  have ce1 : X6.cell? ⟨be, 1, none⟩ = some (.int .i64 eD) := (ge).cell 1
  have cp0 : X6.cell? ⟨bp, 0, none⟩ = some (.int .i64 pN) := (gp).cell 0
  have cp1 : X6.cell? ⟨bp, 1, none⟩ = some (.int .i64 pD) := (gp).cell 1
  have cq0 : X6.cell? ⟨bq, 0, none⟩ = some (.int .i64 qN) := (gq).cell 0
  have cq1 : X6.cell? ⟨bq, 1, none⟩ = some (.int .i64 qD) := (gq).cell 1
  go_upto_region 11 with (first | (go_at_call 15; (with_reducible refine (HVs.out _).mono ?_); rintro e w1 ⟨rfl, hbw1⟩; have k1a0 : w1.cell? ⟨ba, 0, none⟩ = some (.int .i64 n1) := ((ga.then_ hbw1)).cell 0; have k1a1 : w1.cell? ⟨ba, 1, none⟩ = some (.int .i64 d1) := ((ga.then_ hbw1)).cell 1; have k1b0 : w1.cell? ⟨bb, 0, none⟩ = some (.int .i64 n2) := ((gb.then_ hbw1)).cell 0; have k1b1 : w1.cell? ⟨bb, 1, none⟩ = some (.int .i64 d2) := ((gb.then_ hbw1)).cell 1; have k1s0 : w1.cell? ⟨bs, 0, none⟩ = some (.int .i64 sN) := ((gs.then_ hbw1)).cell 0; have k1s1 : w1.cell? ⟨bs, 1, none⟩ = some (.int .i64 sD) := ((gs.then_ hbw1)).cell 1; have k1e0 : w1.cell? ⟨be, 0, none⟩ = some (.int .i64 eN) := ((ge.then_ hbw1)).cell 0; have k1e1 : w1.cell? ⟨be, 1, none⟩ = some (.int .i64 eD) := ((ge.then_ hbw1)).cell 1; have k1p0 : w1.cell? ⟨bp, 0, none⟩ = some (.int .i64 pN) := ((gp.then_ hbw1)).cell 0; have k1p1 : w1.cell? ⟨bp, 1, none⟩ = some (.int .i64 pD) := ((gp.then_ hbw1)).cell 1; have k1q0 : w1.cell? ⟨bq, 0, none⟩ = some (.int .i64 qN) := ((gq.then_ hbw1)).cell 0; have k1q1 : w1.cell? ⟨bq, 1, none⟩ = some (.int .i64 qD) := ((gq.then_ hbw1)).cell 1) | (go_at_call 15; (with_reducible refine (HVe.out _).mono ?_); rintro e w2 ⟨rfl, hbw2⟩; have k2a0 : w2.cell? ⟨ba, 0, none⟩ = some (.int .i64 n1) := (((ga.then_ hbw1).then_ hbw2)).cell 0; have k2a1 : w2.cell? ⟨ba, 1, none⟩ = some (.int .i64 d1) := (((ga.then_ hbw1).then_ hbw2)).cell 1; have k2b0 : w2.cell? ⟨bb, 0, none⟩ = some (.int .i64 n2) := (((gb.then_ hbw1).then_ hbw2)).cell 0; have k2b1 : w2.cell? ⟨bb, 1, none⟩ = some (.int .i64 d2) := (((gb.then_ hbw1).then_ hbw2)).cell 1; have k2s0 : w2.cell? ⟨bs, 0, none⟩ = some (.int .i64 sN) := (((gs.then_ hbw1).then_ hbw2)).cell 0; have k2s1 : w2.cell? ⟨bs, 1, none⟩ = some (.int .i64 sD) := (((gs.then_ hbw1).then_ hbw2)).cell 1; have k2e0 : w2.cell? ⟨be, 0, none⟩ = some (.int .i64 eN) := (((ge.then_ hbw1).then_ hbw2)).cell 0; have k2e1 : w2.cell? ⟨be, 1, none⟩ = some (.int .i64 eD) := (((ge.then_ hbw1).then_ hbw2)).cell 1; have k2p0 : w2.cell? ⟨bp, 0, none⟩ = some (.int .i64 pN) := (((gp.then_ hbw1).then_ hbw2)).cell 0; have k2p1 : w2.cell? ⟨bp, 1, none⟩ = some (.int .i64 pD) := (((gp.then_ hbw1).then_ hbw2)).cell 1; have k2q0 : w2.cell? ⟨bq, 0, none⟩ = some (.int .i64 qN) := (((gq.then_ hbw1).then_ hbw2)).cell 0; have k2q1 : w2.cell? ⟨bq, 1, none⟩ = some (.int .i64 qD) := (((gq.then_ hbw1).then_ hbw2)).cell 1) | (go_at_call 15; (with_reducible refine (HVp.out _).mono ?_); rintro e w3 ⟨rfl, hbw3⟩; have k3a0 : w3.cell? ⟨ba, 0, none⟩ = some (.int .i64 n1) := ((((ga.then_ hbw1).then_ hbw2).then_ hbw3)).cell 0; have k3a1 : w3.cell? ⟨ba, 1, none⟩ = some (.int .i64 d1) := ((((ga.then_ hbw1).then_ hbw2).then_ hbw3)).cell 1; have k3b0 : w3.cell? ⟨bb, 0, none⟩ = some (.int .i64 n2) := ((((gb.then_ hbw1).then_ hbw2).then_ hbw3)).cell 0; have k3b1 : w3.cell? ⟨bb, 1, none⟩ = some (.int .i64 d2) := ((((gb.then_ hbw1).then_ hbw2).then_ hbw3)).cell 1; have k3s0 : w3.cell? ⟨bs, 0, none⟩ = some (.int .i64 sN) := ((((gs.then_ hbw1).then_ hbw2).then_ hbw3)).cell 0; have k3s1 : w3.cell? ⟨bs, 1, none⟩ = some (.int .i64 sD) := ((((gs.then_ hbw1).then_ hbw2).then_ hbw3)).cell 1; have k3e0 : w3.cell? ⟨be, 0, none⟩ = some (.int .i64 eN) := ((((ge.then_ hbw1).then_ hbw2).then_ hbw3)).cell 0; have k3e1 : w3.cell? ⟨be, 1, none⟩ = some (.int .i64 eD) := ((((ge.then_ hbw1).then_ hbw2).then_ hbw3)).cell 1; have k3p0 : w3.cell? ⟨bp, 0, none⟩ = some (.int .i64 pN) := ((((gp.then_ hbw1).then_ hbw2).then_ hbw3)).cell 0; have k3p1 : w3.cell? ⟨bp, 1, none⟩ = some (.int .i64 pD) := ((((gp.then_ hbw1).then_ hbw2).then_ hbw3)).cell 1; have k3q0 : w3.cell? ⟨bq, 0, none⟩ = some (.int .i64 qN) := ((((gq.then_ hbw1).then_ hbw2).then_ hbw3)).cell 0; have k3q1 : w3.cell? ⟨bq, 1, none⟩ = some (.int .i64 qD) := ((((gq.then_ hbw1).then_ hbw2).then_ hbw3)).cell 1))
  clear HVs HVe HVp
  clear ca0 ca1 cb0 cb1 cs0 cs1 ce0 ce1 cp0 cp1 cq0 cq1
  try clear k1a0 k1a1 k1b0 k1b1 k1s0 k1s1 k1e0 k1e1 k1p0 k1p1 k1q0 k1q1
  try clear k2a0 k2a1 k2b0 k2b1 k2s0 k2s1 k2e0 k2e1 k2p0 k2p1 k2q0 k2q1
  try clear k3a0 k3a1 k3b0 k3b1 k3s0 k3s1 k3e0 k3e1 k3p0 k3p1 k3q0 k3q1
  refine name_wp ?_
  intro X7 hX
  have na : Blk X7 ba 25 #[.int .i64 n1, .int .i64 d1] := by rw [hX]; (repeat (first | with_reducible assumption | with_reducible exact Blk.new _ _ _ | with_reducible refine Blk.drew ?_ | with_reducible refine Blk.alloc ?_ _ | with_reducible refine Blk.drewN ?_ _ | with_reducible apply Blk.setT0 | with_reducible apply Blk.setT1 | with_reducible refine Blk.far ?_ (by first | (simp; done) | omega | (simp; omega)) _ | with_reducible refine Blk.then_ ?_ (by with_reducible assumption)))
  have nb : Blk X7 bb 25 #[.int .i64 n2, .int .i64 d2] := by rw [hX]; (repeat (first | with_reducible assumption | with_reducible exact Blk.new _ _ _ | with_reducible refine Blk.drew ?_ | with_reducible refine Blk.alloc ?_ _ | with_reducible refine Blk.drewN ?_ _ | with_reducible apply Blk.setT0 | with_reducible apply Blk.setT1 | with_reducible refine Blk.far ?_ (by first | (simp; done) | omega | (simp; omega)) _ | with_reducible refine Blk.then_ ?_ (by with_reducible assumption)))
  have ns : Blk X7 bs 25 #[.int .i64 sN, .int .i64 sD] := by rw [hX]; (repeat (first | with_reducible assumption | with_reducible exact Blk.new _ _ _ | with_reducible refine Blk.drew ?_ | with_reducible refine Blk.alloc ?_ _ | with_reducible refine Blk.drewN ?_ _ | with_reducible apply Blk.setT0 | with_reducible apply Blk.setT1 | with_reducible refine Blk.far ?_ (by first | (simp; done) | omega | (simp; omega)) _ | with_reducible refine Blk.then_ ?_ (by with_reducible assumption)))
  have ne : Blk X7 be 25 #[.int .i64 eN, .int .i64 eD] := by rw [hX]; (repeat (first | with_reducible assumption | with_reducible exact Blk.new _ _ _ | with_reducible refine Blk.drew ?_ | with_reducible refine Blk.alloc ?_ _ | with_reducible refine Blk.drewN ?_ _ | with_reducible apply Blk.setT0 | with_reducible apply Blk.setT1 | with_reducible refine Blk.far ?_ (by first | (simp; done) | omega | (simp; omega)) _ | with_reducible refine Blk.then_ ?_ (by with_reducible assumption)))
  have np : Blk X7 bp 25 #[.int .i64 pN, .int .i64 pD] := by rw [hX]; (repeat (first | with_reducible assumption | with_reducible exact Blk.new _ _ _ | with_reducible refine Blk.drew ?_ | with_reducible refine Blk.alloc ?_ _ | with_reducible refine Blk.drewN ?_ _ | with_reducible apply Blk.setT0 | with_reducible apply Blk.setT1 | with_reducible refine Blk.far ?_ (by first | (simp; done) | omega | (simp; omega)) _ | with_reducible refine Blk.then_ ?_ (by with_reducible assumption)))
  have nq : Blk X7 bq 25 #[.int .i64 qN, .int .i64 qD] := by rw [hX]; (repeat (first | with_reducible assumption | with_reducible exact Blk.new _ _ _ | with_reducible refine Blk.drew ?_ | with_reducible refine Blk.alloc ?_ _ | with_reducible refine Blk.drewN ?_ _ | with_reducible apply Blk.setT0 | with_reducible apply Blk.setT1 | with_reducible refine Blk.far ?_ (by first | (simp; done) | omega | (simp; omega)) _ | with_reducible refine Blk.then_ ?_ (by with_reducible assumption)))
  have NB : Below w.heap.size w X7 := by rw [hX]; (repeat (first | with_reducible assumption | with_reducible exact Below.refl _ _ | with_reducible refine below_drewN ?_ _ | with_reducible refine Below.drew ?_ | with_reducible refine below_alloc ?_ _ | with_reducible refine Below.setCell ?_ (by first | omega | (simp; done) | (simp; omega)) _ | with_reducible refine below_then ?_ (by with_reducible assumption) | (refine below_then (a := World.drew _) ?_ (by with_reducible assumption))))
  clear hX ga gb gs ge gp gq HB
  have ga := na
  clear na
  have gb := nb
  clear nb
  have gs := ns
  clear ns
  have ge := ne
  clear ne
  have gp := np
  clear np
  have gq := nq
  clear nq
  have HB := NB
  clear NB
  have hz := Below.refl X7.heap.size X7
  have ca0 : X7.cell? ⟨ba, 0, none⟩ = some (.int .i64 n1) := (ga).cell 0
  have ca1 : X7.cell? ⟨ba, 1, none⟩ = some (.int .i64 d1) := (ga).cell 1
  have cb0 : X7.cell? ⟨bb, 0, none⟩ = some (.int .i64 n2) := (gb).cell 0
  have cb1 : X7.cell? ⟨bb, 1, none⟩ = some (.int .i64 d2) := (gb).cell 1
  have cs0 : X7.cell? ⟨bs, 0, none⟩ = some (.int .i64 sN) := (gs).cell 0
  have cs1 : X7.cell? ⟨bs, 1, none⟩ = some (.int .i64 sD) := (gs).cell 1
  have ce0 : X7.cell? ⟨be, 0, none⟩ = some (.int .i64 eN) := (ge).cell 0
  have ce1 : X7.cell? ⟨be, 1, none⟩ = some (.int .i64 eD) := (ge).cell 1
  have cp0 : X7.cell? ⟨bp, 0, none⟩ = some (.int .i64 pN) := (gp).cell 0
  have cp1 : X7.cell? ⟨bp, 1, none⟩ = some (.int .i64 pD) := (gp).cell 1
  have cq0 : X7.cell? ⟨bq, 0, none⟩ = some (.int .i64 qN) := (gq).cell 0
  have cq1 : X7.cell? ⟨bq, 1, none⟩ = some (.int .i64 qD) := (gq).cell 1
  go_upto_region 13 with (fail)
  clear hx1 hx2 hx3 hx1' hx2' hx3' rx1 rx2 rx3
  by_cases h0 : n2 = 0
  · have hqe := hq.1 h0
    subst h0 hqe
    clear hq hx4
    go_wp2
    go_ret
    exact ⟨rfl, by (repeat (first | with_reducible assumption | with_reducible exact Below.refl _ _ | with_reducible refine below_drewN ?_ _ | with_reducible refine Below.drew ?_ | with_reducible refine below_alloc ?_ _ | with_reducible refine Below.setCell ?_ (by first | omega | (simp; done) | (simp; omega)) _ | with_reducible refine below_then ?_ (by with_reducible assumption) | (refine below_then (a := World.drew _) ?_ (by with_reducible assumption))))⟩
  · have hqe := hq.2 h0
    obtain ⟨hx4, hx4'⟩ := hx4 h0
    have HVQ := Lib.hid (fun W => HVq.out W h0)
    have t0 : (n2 == 0) = false := by simpa using h0
    subst hqe
    clear hq HVq
    go_wp2_with ((go_at_call 15; (with_reducible refine (HVQ.out _).mono ?_); rintro e w1 ⟨rfl, hbw1⟩; have k1a0 : w1.cell? ⟨ba, 0, none⟩ = some (.int .i64 n1) := ((ga.then_ hbw1)).cell 0; have k1a1 : w1.cell? ⟨ba, 1, none⟩ = some (.int .i64 d1) := ((ga.then_ hbw1)).cell 1; have k1b0 : w1.cell? ⟨bb, 0, none⟩ = some (.int .i64 n2) := ((gb.then_ hbw1)).cell 0; have k1b1 : w1.cell? ⟨bb, 1, none⟩ = some (.int .i64 d2) := ((gb.then_ hbw1)).cell 1; have k1s0 : w1.cell? ⟨bs, 0, none⟩ = some (.int .i64 sN) := ((gs.then_ hbw1)).cell 0; have k1s1 : w1.cell? ⟨bs, 1, none⟩ = some (.int .i64 sD) := ((gs.then_ hbw1)).cell 1; have k1e0 : w1.cell? ⟨be, 0, none⟩ = some (.int .i64 eN) := ((ge.then_ hbw1)).cell 0; have k1e1 : w1.cell? ⟨be, 1, none⟩ = some (.int .i64 eD) := ((ge.then_ hbw1)).cell 1; have k1p0 : w1.cell? ⟨bp, 0, none⟩ = some (.int .i64 pN) := ((gp.then_ hbw1)).cell 0; have k1p1 : w1.cell? ⟨bp, 1, none⟩ = some (.int .i64 pD) := ((gp.then_ hbw1)).cell 1; have k1q0 : w1.cell? ⟨bq, 0, none⟩ = some (.int .i64 qN) := ((gq.then_ hbw1)).cell 0; have k1q1 : w1.cell? ⟨bq, 1, none⟩ = some (.int .i64 qD) := ((gq.then_ hbw1)).cell 1))
    go_ret
    exact ⟨rfl, by (repeat (first | with_reducible assumption | with_reducible exact Below.refl _ _ | with_reducible refine below_drewN ?_ _ | with_reducible refine Below.drew ?_ | with_reducible refine below_alloc ?_ _ | with_reducible refine Below.setCell ?_ (by first | omega | (simp; done) | (simp; omega)) _ | with_reducible refine below_then ?_ (by with_reducible assumption) | (refine below_then (a := World.drew _) ?_ (by with_reducible assumption))))⟩
end Go.Proofs.YtbkekabhdpoddaaDoor
