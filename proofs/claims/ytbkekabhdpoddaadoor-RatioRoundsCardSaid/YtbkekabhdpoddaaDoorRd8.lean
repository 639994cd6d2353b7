/- The walk of RatioRounds at ratios that are not too large. -/
import Derived.Test.YtbkekabhdpoddaaDoorRd0
namespace Go.Proofs.YtbkekabhdpoddaaDoor
open Go.RowKit

set_option maxRecDepth 100000 in
set_option maxHeartbeats 6400000 in
theorem rounds_key (n1 d1 n2 d2 p A B r R n xN xD yN yD t k u v f c1 c2 : Int) (w : World)
    (HH : Hid (∀ W, Below w.heap.size w W → Calls Tryd.prog 11 #[] W fun e w' => e = .returned (.bool true) ∧ Below W.heap.size W w'))
    (HV1 : Hid (∀ W, Calls Tryd.prog 15 #[.agg #[.int .i64 n1, .int .i64 d1]] W fun e w' => e = .returned (.bool true) ∧ Below W.heap.size W w'))
    (HV2 : Hid (∀ W, Calls Tryd.prog 15 #[.agg #[.int .i64 n2, .int .i64 d2]] W fun e w' => e = .returned (.bool true) ∧ Below W.heap.size W w'))
    (hA : (∀ W ts t, (Builtin.max_ ts t #[.int .i64 n1, .int .i64 (-n1)]).run Tryd.prog W = .ok (.int .i64 A) W)) (hB : (∀ W ts t, (Builtin.max_ ts t #[.int .i64 n2, .int .i64 (-n2)]).run Tryd.prog W = .ok (.int .i64 B) W)) (qA : ¬ 1000000000 < A) (qB : ¬ 1000000000 < B)
    (b1 : -1000000000 ≤ n1 ∧ n1 ≤ 1000000000) (b2 : -1000000000 ≤ n2 ∧ n2 ≤ 1000000000) (b3 : 1 ≤ d1 ∧ d1 ≤ 1000000)
    (hr : p.tmod 1000 = r) (rr : -999 ≤ r ∧ r ≤ 999) (hR : (∀ W ts t, (Builtin.max_ ts t #[.int .i64 r, .int .i64 (-r)]).run Tryd.prog W = .ok (.int .i64 R) W)) (rR : 0 ≤ R ∧ R ≤ 999) (hn : 1 + R = n) (rn : 1 ≤ n ∧ n ≤ 1000)
    (HR1 : Hid (∀ W, Calls Tryd.prog 21 #[.agg #[.int .i64 n1, .int .i64 d1], .int .i64 n] W fun e w' => e = .returned (.tuple #[.agg #[.int .i64 xN, .int .i64 xD], .int .i64 0]) ∧ Below W.heap.size W w'))
    (HR2 : Hid (∀ W, Calls Tryd.prog 21 #[.agg #[.int .i64 n2, .int .i64 d2], .int .i64 n] W fun e w' => e = .returned (.tuple #[.agg #[.int .i64 yN, .int .i64 yD], .int .i64 0]) ∧ Below W.heap.size W w'))
    (HR3 : Hid (∀ W, Calls Tryd.prog 21 #[.agg #[.int .i64 xN, .int .i64 xD], .int .i64 n] W fun e w' => e = .returned (.tuple #[.agg #[.int .i64 xN, .int .i64 xD], .int .i64 0]) ∧ Below W.heap.size W w'))
    (HVx : Hid (∀ W, Calls Tryd.prog 15 #[.agg #[.int .i64 xN, .int .i64 xD]] W fun e w' => e = .returned (.bool true) ∧ Below W.heap.size W w')) (qx : 1 ≤ xD ∧ xD ≤ 1000) (qx2 : -1000000000000 ≤ xN ∧ xN ≤ 1000000000000)
    (hrem : n.tmod xD = 0) (ht : n.tdiv xD = t) (rt : 0 ≤ t ∧ t ≤ 1000) (hk : xN * t = k) (rk : -1000000000000000 ≤ k ∧ k ≤ 1000000000000000)
    (hu : k * d1 = u) (hv : n1 * n = v) (ru : -4000000000000000 ≤ u ∧ u ≤ 4000000000000000) (rv : -4000000000000000 ≤ v ∧ v ≤ 4000000000000000) (hf : 2 * (u - v) = f)
    (f1 : ¬ d1 < f) (f2 : ¬ f < -d1) (f3 : (f = d1 ∨ f = -d1) → k.tmod 2 = 0)
    (HC1 : Hid (∀ W, Calls Tryd.prog 16 #[.agg #[.int .i64 n1, .int .i64 d1], .agg #[.int .i64 n2, .int .i64 d2]] W fun e w' => e = .returned (.int .i64 c1) ∧ Below W.heap.size W w')) (HC2 : Hid (∀ W, Calls Tryd.prog 16 #[.agg #[.int .i64 xN, .int .i64 xD], .agg #[.int .i64 yN, .int .i64 yD]] W fun e w' => e = .returned (.int .i64 c2) ∧ Below W.heap.size W w')) (hc : c1 ≤ 0 → c2 ≤ 0) :
    Calls Tryd.prog 6 #[.agg #[.int .i64 n1, .int .i64 d1], .agg #[.int .i64 n2, .int .i64 d2], .int .i64 p] w fun e w' => e = .returned (.bool true) ∧ Below w.heap.size w w' := by
  have t1 := decide_eq_false qA
  have t2 := decide_eq_false qB
  clear qA qB
  go_enter Tryd.func6, Tryd.ntmps6
  go_upto_region 1 with (fail)
  refine name_wp ?_
  intro X0 hX
  have ga : Blk X0 (w.heap.size) 25 #[.int .i64 n1, .int .i64 d1] := by rw [hX]; exact ((blk_at (by simp))).alloc _
  have gb : Blk X0 (w.heap.size + 1) 25 #[.int .i64 n2, .int .i64 d2] := by rw [hX]; exact (blk_at (by simp))
  have HB : Below w.heap.size w X0 := by rw [hX]; (repeat (first | with_reducible assumption | with_reducible exact Below.refl _ _ | with_reducible refine below_drewN ?_ _ | with_reducible refine Below.drew ?_ | with_reducible refine below_alloc ?_ _ | with_reducible refine Below.setCell ?_ (by first | omega | (simp; done) | (simp; omega)) _ | with_reducible refine below_then ?_ (by with_reducible assumption) | (refine below_then (a := World.drew _) ?_ (by with_reducible assumption))))
  clear hX
  obtain ⟨bb, eb⟩ : ∃ b, w.heap.size + 1 = b := ⟨_, rfl⟩
  rw [eb] at gb ⊢
  clear eb
  obtain ⟨ba, eb⟩ : ∃ b, w.heap.size = b := ⟨_, rfl⟩
  rw [eb] at ga ⊢
  clear eb
  have hz := Below.refl X0.heap.size X0
  go_upto_region 2 with ((go_at_call 11; (with_reducible refine (HH.out _ HB).mono ?_); rintro e w1 ⟨rfl, hbw1⟩))
  refine name_wp ?_
  intro X1 hX
  have na : Blk X1 ba 25 #[.int .i64 n1, .int .i64 d1] := by rw [hX]; (repeat (first | with_reducible assumption | with_reducible exact Blk.new _ _ _ | with_reducible refine Blk.drew ?_ | with_reducible refine Blk.alloc ?_ _ | with_reducible refine Blk.drewN ?_ _ | with_reducible apply Blk.setT0 | with_reducible apply Blk.setT1 | with_reducible refine Blk.far ?_ (by first | (simp; done) | omega | (simp; omega)) _ | with_reducible refine Blk.then_ ?_ (by with_reducible assumption)))
  have nb : Blk X1 bb 25 #[.int .i64 n2, .int .i64 d2] := by rw [hX]; (repeat (first | with_reducible assumption | with_reducible exact Blk.new _ _ _ | with_reducible refine Blk.drew ?_ | with_reducible refine Blk.alloc ?_ _ | with_reducible refine Blk.drewN ?_ _ | with_reducible apply Blk.setT0 | with_reducible apply Blk.setT1 | with_reducible refine Blk.far ?_ (by first | (simp; done) | omega | (simp; omega)) _ | with_reducible refine Blk.then_ ?_ (by with_reducible assumption)))
  have NB : Below w.heap.size w X1 := by rw [hX]; (repeat (first | with_reducible assumption | with_reducible exact Below.refl _ _ | with_reducible refine below_drewN ?_ _ | with_reducible refine Below.drew ?_ | with_reducible refine below_alloc ?_ _ | with_reducible refine Below.setCell ?_ (by first | omega | (simp; done) | (simp; omega)) _ | with_reducible refine below_then ?_ (by with_reducible assumption) | (refine below_then (a := World.drew _) ?_ (by with_reducible assumption))))
  clear hX ga gb HB
  have ga := na
  clear na
  have gb := nb
  clear nb
  have HB := NB
  clear NB
  have hz := Below.refl X1.heap.size X1
  have ca0 : X1.cell? ⟨ba, 0, none⟩ = some (.int .i64 n1) := (ga).cell 0
  have ca1 : X1.cell? ⟨ba, 1, none⟩ = some (.int .i64 d1) := (ga).cell 1
  have cb0 : X1.cell? ⟨bb, 0, none⟩ = some (.int .i64 n2) := (gb).cell 0
  have cb1 : X1.cell? ⟨bb, 1, none⟩ = some (.int .i64 d2) := (gb).cell 1
  go_upto_region 5 with (first | (go_at_call 15; (with_reducible refine (HV1.out _).mono ?_); rintro e w1 ⟨rfl, hbw1⟩; have k1a0 : w1.cell? ⟨ba, 0, none⟩ = some (.int .i64 n1) := ((ga.then_ hbw1)).cell 0; have k1a1 : w1.cell? ⟨ba, 1, none⟩ = some (.int .i64 d1) := ((ga.then_ hbw1)).cell 1; have k1b0 : w1.cell? ⟨bb, 0, none⟩ = some (.int .i64 n2) := ((gb.then_ hbw1)).cell 0; have k1b1 : w1.cell? ⟨bb, 1, none⟩ = some (.int .i64 d2) := ((gb.then_ hbw1)).cell 1) | (go_at_call 15; (with_reducible refine (HV2.out _).mono ?_); rintro e w2 ⟨rfl, hbw2⟩; have k2a0 : w2.cell? ⟨ba, 0, none⟩ = some (.int .i64 n1) := (((ga.then_ hbw1).then_ hbw2)).cell 0; have k2a1 : w2.cell? ⟨ba, 1, none⟩ = some (.int .i64 d1) := (((ga.then_ hbw1).then_ hbw2)).cell 1; have k2b0 : w2.cell? ⟨bb, 0, none⟩ = some (.int .i64 n2) := (((gb.then_ hbw1).then_ hbw2)).cell 0; have k2b1 : w2.cell? ⟨bb, 1, none⟩ = some (.int .i64 d2) := (((gb.then_ hbw1).then_ hbw2)).cell 1))
  clear HV1 HV2 hA hB t1 t2 hr rr hR rR hn
  clear ca0 ca1 cb0 cb1
  try clear k1a0 k1a1 k1b0 k1b1
  try clear k2a0 k2a1 k2b0 k2b1
  refine name_wp ?_
  intro X2 hX
  have na : Blk X2 ba 25 #[.int .i64 n1, .int .i64 d1] := by rw [hX]; (repeat (first | with_reducible assumption | with_reducible exact Blk.new _ _ _ | with_reducible refine Blk.drew ?_ | with_reducible refine Blk.alloc ?_ _ | with_reducible refine Blk.drewN ?_ _ | with_reducible apply Blk.setT0 | with_reducible apply Blk.setT1 | with_reducible refine Blk.far ?_ (by first | (simp; done) | omega | (simp; omega)) _ | with_reducible refine Blk.then_ ?_ (by with_reducible assumption)))
  have nb : Blk X2 bb 25 #[.int .i64 n2, .int .i64 d2] := by rw [hX]; (repeat (first | with_reducible assumption | with_reducible exact Blk.new _ _ _ | with_reducible refine Blk.drew ?_ | with_reducible refine Blk.alloc ?_ _ | with_reducible refine Blk.drewN ?_ _ | with_reducible apply Blk.setT0 | with_reducible apply Blk.setT1 | with_reducible refine Blk.far ?_ (by first | (simp; done) | omega | (simp; omega)) _ | with_reducible refine Blk.then_ ?_ (by with_reducible assumption)))
  have NB : Below w.heap.size w X2 := by rw [hX]; (repeat (first | with_reducible assumption | with_reducible exact Below.refl _ _ | with_reducible refine below_drewN ?_ _ | with_reducible refine Below.drew ?_ | with_reducible refine below_alloc ?_ _ | with_reducible refine Below.setCell ?_ (by first | omega | (simp; done) | (simp; omega)) _ | with_reducible refine below_then ?_ (by with_reducible assumption) | (refine below_then (a := World.drew _) ?_ (by with_reducible assumption))))
  clear hX ga gb HB
  have ga := na
  clear na
  have gb := nb
  clear nb
  have HB := NB
  clear NB
  have hz := Below.refl X2.heap.size X2
  have ca0 : X2.cell? ⟨ba, 0, none⟩ = some (.int .i64 n1) := (ga).cell 0
  have ca1 : X2.cell? ⟨ba, 1, none⟩ = some (.int .i64 d1) := (ga).cell 1
  have cb0 : X2.cell? ⟨bb, 0, none⟩ = some (.int .i64 n2) := (gb).cell 0
  have cb1 : X2.cell? ⟨bb, 1, none⟩ = some (.int .i64 d2) := (gb).cell 1
  go_upto_region 6 with ((go_at_call 21; (with_reducible refine (HR1.out _).mono ?_); rintro e w1 ⟨rfl, hbw1⟩))
  clear HR1
  clear ca0 ca1 cb0 cb1
  refine name_wp ?_
  intro X3 hX
  have na : Blk X3 ba 25 #[.int .i64 n1, .int .i64 d1] := by rw [hX]; (repeat (first | with_reducible assumption | with_reducible exact Blk.new _ _ _ | with_reducible refine Blk.drew ?_ | with_reducible refine Blk.alloc ?_ _ | with_reducible refine Blk.drewN ?_ _ | with_reducible apply Blk.setT0 | with_reducible apply Blk.setT1 | with_reducible refine Blk.far ?_ (by first | (simp; done) | omega | (simp; omega)) _ | with_reducible refine Blk.then_ ?_ (by with_reducible assumption)))
  have nb : Blk X3 bb 25 #[.int .i64 n2, .int .i64 d2] := by rw [hX]; (repeat (first | with_reducible assumption | with_reducible exact Blk.new _ _ _ | with_reducible refine Blk.drew ?_ | with_reducible refine Blk.alloc ?_ _ | with_reducible refine Blk.drewN ?_ _ | with_reducible apply Blk.setT0 | with_reducible apply Blk.setT1 | with_reducible refine Blk.far ?_ (by first | (simp; done) | omega | (simp; omega)) _ | with_reducible refine Blk.then_ ?_ (by with_reducible assumption)))
  have nx : Blk X3 (w1.heap.size) 25 #[.int .i64 xN, .int .i64 xD] := by rw [hX]; exact Blk.new _ _ _
  have lx : w.heap.size ≤ w1.heap.size := (below_then HB hbw1).size
  have oax : ba < w1.heap.size := (ga.then_ hbw1).lt
  have obx : bb < w1.heap.size := (gb.then_ hbw1).lt
  have NB : Below w.heap.size w X3 := by rw [hX]; (repeat (first | with_reducible assumption | with_reducible exact Below.refl _ _ | with_reducible refine below_drewN ?_ _ | with_reducible refine Below.drew ?_ | with_reducible refine below_alloc ?_ _ | with_reducible refine Below.setCell ?_ (by first | omega | (simp; done) | (simp; omega)) _ | with_reducible refine below_then ?_ (by with_reducible assumption) | (refine below_then (a := World.drew _) ?_ (by with_reducible assumption))))
  clear hX ga gb HB
  obtain ⟨bx, eb⟩ : ∃ b, w1.heap.size = b := ⟨_, rfl⟩
  rw [eb] at nx lx oax obx ⊢
  clear eb
  have ga := na
  clear na
  have gb := nb
  clear nb
  have gx := nx
  clear nx
  have HB := NB
  clear NB
  have hz := Below.refl X3.heap.size X3
  have ca0 : X3.cell? ⟨ba, 0, none⟩ = some (.int .i64 n1) := (ga).cell 0
  have ca1 : X3.cell? ⟨ba, 1, none⟩ = some (.int .i64 d1) := (ga).cell 1
  have cb0 : X3.cell? ⟨bb, 0, none⟩ = some (.int .i64 n2) := (gb).cell 0
  have cb1 : X3.cell? ⟨bb, 1, none⟩ = some (.int .i64 d2) := (gb).cell 1
  go_upto_region 7 with ((go_at_call 21; (with_reducible refine (HR2.out _).mono ?_); rintro e w1 ⟨rfl, hbw1⟩))
  clear HR2
  clear ca0 ca1 cb0 cb1
  refine name_wp ?_
  intro X4 hX
  have na : Blk X4 ba 25 #[.int .i64 n1, .int .i64 d1] := by rw [hX]; (repeat (first | with_reducible assumption | with_reducible exact Blk.new _ _ _ | with_reducible refine Blk.drew ?_ | with_reducible refine Blk.alloc ?_ _ | with_reducible refine Blk.drewN ?_ _ | with_reducible apply Blk.setT0 | with_reducible apply Blk.setT1 | with_reducible refine Blk.far ?_ (by first | (simp; done) | omega | (simp; omega)) _ | with_reducible refine Blk.then_ ?_ (by with_reducible assumption)))
  have nb : Blk X4 bb 25 #[.int .i64 n2, .int .i64 d2] := by rw [hX]; (repeat (first | with_reducible assumption | with_reducible exact Blk.new _ _ _ | with_reducible refine Blk.drew ?_ | with_reducible refine Blk.alloc ?_ _ | with_reducible refine Blk.drewN ?_ _ | with_reducible apply Blk.setT0 | with_reducible apply Blk.setT1 | with_reducible refine Blk.far ?_ (by first | (simp; done) | omega | (simp; omega)) _ | with_reducible refine Blk.then_ ?_ (by with_reducible assumption)))
  have nx : Blk X4 bx 25 #[.int .i64 xN, .int .i64 xD] := by rw [hX]; (repeat (first | with_reducible assumption | with_reducible exact Blk.new _ _ _ | with_reducible refine Blk.drew ?_ | with_reducible refine Blk.alloc ?_ _ | with_reducible refine Blk.drewN ?_ _ | with_reducible apply Blk.setT0 | with_reducible apply Blk.setT1 | with_reducible refine Blk.far ?_ (by first | (simp; done) | omega | (simp; omega)) _ | with_reducible refine Blk.then_ ?_ (by with_reducible assumption)))
  have nj : Blk X4 (w1.heap.size) 25 #[.int .i64 yN, .int .i64 yD] := by rw [hX]; exact Blk.new _ _ _
  have lj : w.heap.size ≤ w1.heap.size := (below_then HB hbw1).size
  have oaj : ba < w1.heap.size := (ga.then_ hbw1).lt
  have obj : bb < w1.heap.size := (gb.then_ hbw1).lt
  have oxj : bx < w1.heap.size := (gx.then_ hbw1).lt
  have NB : Below w.heap.size w X4 := by rw [hX]; (repeat (first | with_reducible assumption | with_reducible exact Below.refl _ _ | with_reducible refine below_drewN ?_ _ | with_reducible refine Below.drew ?_ | with_reducible refine below_alloc ?_ _ | with_reducible refine Below.setCell ?_ (by first | omega | (simp; done) | (simp; omega)) _ | with_reducible refine below_then ?_ (by with_reducible assumption) | (refine below_then (a := World.drew _) ?_ (by with_reducible assumption))))
  clear hX ga gb gx HB
  obtain ⟨bj, eb⟩ : ∃ b, w1.heap.size = b := ⟨_, rfl⟩
  rw [eb] at nj lj oaj obj oxj ⊢
  clear eb
  have ga := na
  clear na
  have gb := nb
  clear nb
  have gx := nx
  clear nx
  have gj := nj
  clear nj
  have HB := NB
  clear NB
  have hz := Below.refl X4.heap.size X4
  have ca0 : X4.cell? ⟨ba, 0, none⟩ = some (.int .i64 n1) := (ga).cell 0
  have ca1 : X4.cell? ⟨ba, 1, none⟩ = some (.int .i64 d1) := (ga).cell 1
  have cb0 : X4.cell? ⟨bb, 0, none⟩ = some (.int .i64 n2) := (gb).cell 0
  have cb1 : X4.cell? ⟨bb, 1, none⟩ = some (.int .i64 d2) := (gb).cell 1
  have cx0 : X4.cell? ⟨bx, 0, none⟩ = some (.int .i64 xN) := (gx).cell 0
  have cx1 : X4.cell? ⟨bx, 1, none⟩ = some (.int .i64 xD) := (gx).cell 1
  have cj0 : X4.cell? ⟨bj, 0, none⟩ = some (.int .i64 yN) := (gj).cell 0
  have cj1 : X4.cell? ⟨bj, 1, none⟩ = some (.int .i64 yD) := (gj).cell 1
  go_upto_region 9 with ((go_at_call 15; (with_reducible refine (HVx.out _).mono ?_); rintro e w1 ⟨rfl, hbw1⟩; have k1a0 : w1.cell? ⟨ba, 0, none⟩ = some (.int .i64 n1) := ((ga.then_ hbw1)).cell 0; have k1a1 : w1.cell? ⟨ba, 1, none⟩ = some (.int .i64 d1) := ((ga.then_ hbw1)).cell 1; have k1b0 : w1.cell? ⟨bb, 0, none⟩ = some (.int .i64 n2) := ((gb.then_ hbw1)).cell 0; have k1b1 : w1.cell? ⟨bb, 1, none⟩ = some (.int .i64 d2) := ((gb.then_ hbw1)).cell 1; have k1x0 : w1.cell? ⟨bx, 0, none⟩ = some (.int .i64 xN) := ((gx.then_ hbw1)).cell 0; have k1x1 : w1.cell? ⟨bx, 1, none⟩ = some (.int .i64 xD) := ((gx.then_ hbw1)).cell 1; have k1j0 : w1.cell? ⟨bj, 0, none⟩ = some (.int .i64 yN) := ((gj.then_ hbw1)).cell 0; have k1j1 : w1.cell? ⟨bj, 1, none⟩ = some (.int .i64 yD) := ((gj.then_ hbw1)).cell 1))
  clear HVx hrem
  clear ca0 ca1 cb0 cb1 cx0 cx1 cj0 cj1
  try clear k1a0 k1a1 k1b0 k1b1 k1x0 k1x1 k1j0 k1j1
  refine name_wp ?_
  intro X5 hX
  have na : Blk X5 ba 25 #[.int .i64 n1, .int .i64 d1] := by rw [hX]; (repeat (first | with_reducible assumption | with_reducible exact Blk.new _ _ _ | with_reducible refine Blk.drew ?_ | with_reducible refine Blk.alloc ?_ _ | with_reducible refine Blk.drewN ?_ _ | with_reducible apply Blk.setT0 | with_reducible apply Blk.setT1 | with_reducible refine Blk.far ?_ (by first | (simp; done) | omega | (simp; omega)) _ | with_reducible refine Blk.then_ ?_ (by with_reducible assumption)))
  have nb : Blk X5 bb 25 #[.int .i64 n2, .int .i64 d2] := by rw [hX]; (repeat (first | with_reducible assumption | with_reducible exact Blk.new _ _ _ | with_reducible refine Blk.drew ?_ | with_reducible refine Blk.alloc ?_ _ | with_reducible refine Blk.drewN ?_ _ | with_reducible apply Blk.setT0 | with_reducible apply Blk.setT1 | with_reducible refine Blk.far ?_ (by first | (simp; done) | omega | (simp; omega)) _ | with_reducible refine Blk.then_ ?_ (by with_reducible assumption)))
  have nx : Blk X5 bx 25 #[.int .i64 xN, .int .i64 xD] := by rw [hX]; (repeat (first | with_reducible assumption | with_reducible exact Blk.new _ _ _ | with_reducible refine Blk.drew ?_ | with_reducible refine Blk.alloc ?_ _ | with_reducible refine Blk.drewN ?_ _ | with_reducible apply Blk.setT0 | with_reducible apply Blk.setT1 | with_reducible refine Blk.far ?_ (by first | (simp; done) | omega | (simp; omega)) _ | with_reducible refine Blk.then_ ?_ (by with_reducible assumption)))
  have nj : Blk X5 bj 25 #[.int .i64 yN, .int .i64 yD] := by rw [hX]; (repeat (first | with_reducible assumption | with_reducible exact Blk.new _ _ _ | with_reducible refine Blk.drew ?_ | with_reducible refine Blk.alloc ?_ _ | with_reducible refine Blk.drewN ?_ _ | with_reducible apply Blk.setT0 | with_reducible apply Blk.setT1 | with_reducible refine Blk.far ?_ (by first | (simp; done) | omega | (simp; omega)) _ | with_reducible refine Blk.then_ ?_ (by with_reducible assumption)))
  have NB : Below w.heap.size w X5 := by rw [hX]; (repeat (first | with_reducible assumption | with_reducible exact Below.refl _ _ | with_reducible refine below_drewN ?_ _ | with_reducible refine Below.drew ?_ | with_reducible refine below_alloc ?_ _ | with_reducible refine Below.setCell ?_ (by first | omega | (simp; done) | (simp; omega)) _ | with_reducible refine below_then ?_ (by with_reducible assumption) | (refine below_then (a := World.drew _) ?_ (by with_reducible assumption))))
  clear hX ga gb gx gj HB
  have ga := na
  clear na
  have gb := nb
  clear nb
  have gx := nx
  clear nx
  have gj := nj
  clear nj
  have HB := NB
  clear NB
  have hz := Below.refl X5.heap.size X5
  have ca0 : X5.cell? ⟨ba, 0, none⟩ = some (.int .i64 n1) := (ga).cell 0
  have ca1 : X5.cell? ⟨ba, 1, none⟩ = some (.int .i64 d1) := (ga).cell 1
  have cb0 : X5.cell? ⟨bb, 0, none⟩ = some (.int .i64 n2) := (gb).cell 0
  have cb1 : X5.cell? ⟨bb, 1, none⟩ = some (.int .i64 d2) := (gb).cell 1
  have cx0 : X5.cell? ⟨bx, 0, none⟩ = some (.int .i64 xN) := (gx).cell 0
  have cx1 : X5.cell? ⟨bx, 1, none⟩ = some (.int .i64 xD) := (gx).cell 1
  have cj0 : X5.cell? ⟨bj, 0, none⟩ = some (.int .i64 yN) := (gj).cell 0
  have cj1 : X5.cell? ⟨bj, 1, none⟩ = some (.int .i64 yD) := (gj).cell 1
  have rg0 := cell_regrown cx0
  have rg1 := cell_regrown cx1
  refine wp_region_qt [0, 1, 2, 3, 4, 5, 6] [7] (by kernel_rfl) (by kernel_rfl) (by repeat (first | with_reducible refine panOk_then ?_ | with_reducible refine panOk_block ?_ | exact panOk_body)) ?_
  simp only [opsAt, List.getElem?_toArray, List.getElem?_cons_succ, List.getElem?_cons_zero, Option.toList_some, List.cons_append, List.nil_append]
  repeat (go_big_quiet_step (fail))
  refine wpQuiet_nil ?_
  intro X9 hw2
  have hbX9 := qt_world hw2
  clear hw2 rg0 rg1
  clear cx0 cx1 ca0 ca1 cb0 cb1 cj0 cj1 ht rt hk qx
  go_upto_region 10 with (fail)
  have hbw1 := hbX9
  clear hbX9
  refine name_wp ?_
  intro X6 hX
  have na : Blk X6 ba 25 #[.int .i64 n1, .int .i64 d1] := by rw [hX]; (repeat (first | with_reducible assumption | with_reducible exact Blk.new _ _ _ | with_reducible refine Blk.drew ?_ | with_reducible refine Blk.alloc ?_ _ | with_reducible refine Blk.drewN ?_ _ | with_reducible apply Blk.setT0 | with_reducible apply Blk.setT1 | with_reducible refine Blk.far ?_ (by first | (simp; done) | omega | (simp; omega)) _ | with_reducible refine Blk.then_ ?_ (by with_reducible assumption)))
  have nb : Blk X6 bb 25 #[.int .i64 n2, .int .i64 d2] := by rw [hX]; (repeat (first | with_reducible assumption | with_reducible exact Blk.new _ _ _ | with_reducible refine Blk.drew ?_ | with_reducible refine Blk.alloc ?_ _ | with_reducible refine Blk.drewN ?_ _ | with_reducible apply Blk.setT0 | with_reducible apply Blk.setT1 | with_reducible refine Blk.far ?_ (by first | (simp; done) | omega | (simp; omega)) _ | with_reducible refine Blk.then_ ?_ (by with_reducible assumption)))
  have nx : Blk X6 bx 25 #[.int .i64 xN, .int .i64 xD] := by rw [hX]; (repeat (first | with_reducible assumption | with_reducible exact Blk.new _ _ _ | with_reducible refine Blk.drew ?_ | with_reducible refine Blk.alloc ?_ _ | with_reducible refine Blk.drewN ?_ _ | with_reducible apply Blk.setT0 | with_reducible apply Blk.setT1 | with_reducible refine Blk.far ?_ (by first | (simp; done) | omega | (simp; omega)) _ | with_reducible refine Blk.then_ ?_ (by with_reducible assumption)))
  have nj : Blk X6 bj 25 #[.int .i64 yN, .int .i64 yD] := by rw [hX]; (repeat (first | with_reducible assumption | with_reducible exact Blk.new _ _ _ | with_reducible refine Blk.drew ?_ | with_reducible refine Blk.alloc ?_ _ | with_reducible refine Blk.drewN ?_ _ | with_reducible apply Blk.setT0 | with_reducible apply Blk.setT1 | with_reducible refine Blk.far ?_ (by first | (simp; done) | omega | (simp; omega)) _ | with_reducible refine Blk.then_ ?_ (by with_reducible assumption)))
  have NB : Below w.heap.size w X6 := by rw [hX]; (repeat (first | with_reducible assumption | with_reducible exact Below.refl _ _ | with_reducible refine below_drewN ?_ _ | with_reducible refine Below.drew ?_ | with_reducible refine below_alloc ?_ _ | with_reducible refine Below.setCell ?_ (by first | omega | (simp; done) | (simp; omega)) _ | with_reducible refine below_then ?_ (by with_reducible assumption) | (refine below_then (a := World.drew _) ?_ (by with_reducible assumption))))
  clear hX ga gb gx gj HB
  have ga := na
  clear na
  have gb := nb
  clear nb
  have gx := nx
  clear nx
  have gj := nj
  clear nj
  have HB := NB
  clear NB
  have hz := Below.refl X6.heap.size X6
  have ca0 : X6.cell? ⟨ba, 0, none⟩ = some (.int .i64 n1) := (ga).cell 0
  have ca1 : X6.cell? ⟨ba, 1, none⟩ = some (.int .i64 d1) := (ga).cell 1
  have cb0 : X6.cell? ⟨bb, 0, none⟩ = some (.int .i64 n2) := (gb).cell 0
  have cb1 : X6.cell? ⟨bb, 1, none⟩ = some (.int .i64 d2) := (gb).cell 1
  have cx0 : X6.cell? ⟨bx, 0, none⟩ = some (.int .i64 xN) := (gx).cell 0
  have cx1 : X6.cell? ⟨bx, 1, none⟩ = some (.int .i64 xD) := (gx).cell 1
  have cj0 : X6.cell? ⟨bj, 0, none⟩ = some (.int .i64 yN) := (gj).cell 0
  have cj1 : X6.cell? ⟨bj, 1, none⟩ = some (.int .i64 yD) := (gj).cell 1
  go_upto_region 11 with (fail)
  clear hu hv ru rv hf
  go_cut [127] from 99 to 127 (fun v W => v = .bool false ∧ W = X6)
  case first =>
    have g1 := decide_eq_false (show ¬ d1 < f by omega)
    have g2 := decide_eq_false (show ¬ f < -d1 by omega)
    clear f1 f2
    by_cases h1 : f = d1
    · have h2 := f3 (.inl h1)
      have t1 : (f == d1) = true := by simpa using h1
      clear f3 h1
      go_wp2
      go_meet
      case rel => exact ⟨rfl, rfl⟩
    · have t1 : (f == d1) = false := by simpa using h1
      by_cases h3 : f = -d1
      · have h2 := f3 (.inr h3)
        have t2 : (f == -d1) = true := by simpa using h3
        clear f3 h1 h3
        go_wp2
        go_meet
        case rel => exact ⟨rfl, rfl⟩
      · have t2 : (f == -d1) = false := by simpa using h3
        clear f3 h1 h3
        go_wp2
        go_meet
        case rel => exact ⟨rfl, rfl⟩
  case rest =>
    obtain ⟨hv', hw⟩ := hcut
    subst hv'
    replace hw := hw.symm
    subst hw
    clear f1 f2 f3
    go_upto_region 14 with ((go_at_call 21; (with_reducible refine (HR3.out _).mono ?_); rintro e w1 ⟨rfl, hbw1⟩))
    clear HR3
    clear ca0 ca1 cb0 cb1 cx0 cx1 cj0 cj1
    refine name_wp ?_
    intro X7 hX
    have na : Blk X7 ba 25 #[.int .i64 n1, .int .i64 d1] := by rw [hX]; (repeat (first | with_reducible assumption | with_reducible exact Blk.new _ _ _ | with_reducible refine Blk.drew ?_ | with_reducible refine Blk.alloc ?_ _ | with_reducible refine Blk.drewN ?_ _ | with_reducible apply Blk.setT0 | with_reducible apply Blk.setT1 | with_reducible refine Blk.far ?_ (by first | (simp; done) | omega | (simp; omega)) _ | with_reducible refine Blk.then_ ?_ (by with_reducible assumption)))
    have nb : Blk X7 bb 25 #[.int .i64 n2, .int .i64 d2] := by rw [hX]; (repeat (first | with_reducible assumption | with_reducible exact Blk.new _ _ _ | with_reducible refine Blk.drew ?_ | with_reducible refine Blk.alloc ?_ _ | with_reducible refine Blk.drewN ?_ _ | with_reducible apply Blk.setT0 | with_reducible apply Blk.setT1 | with_reducible refine Blk.far ?_ (by first | (simp; done) | omega | (simp; omega)) _ | with_reducible refine Blk.then_ ?_ (by with_reducible assumption)))
    have nx : Blk X7 bx 25 #[.int .i64 xN, .int .i64 xD] := by rw [hX]; (repeat (first | with_reducible assumption | with_reducible exact Blk.new _ _ _ | with_reducible refine Blk.drew ?_ | with_reducible refine Blk.alloc ?_ _ | with_reducible refine Blk.drewN ?_ _ | with_reducible apply Blk.setT0 | with_reducible apply Blk.setT1 | with_reducible refine Blk.far ?_ (by first | (simp; done) | omega | (simp; omega)) _ | with_reducible refine Blk.then_ ?_ (by with_reducible assumption)))
    have nj : Blk X7 bj 25 #[.int .i64 yN, .int .i64 yD] := by rw [hX]; (repeat (first | with_reducible assumption | with_reducible exact Blk.new _ _ _ | with_reducible refine Blk.drew ?_ | with_reducible refine Blk.alloc ?_ _ | with_reducible refine Blk.drewN ?_ _ | with_reducible apply Blk.setT0 | with_reducible apply Blk.setT1 | with_reducible refine Blk.far ?_ (by first | (simp; done) | omega | (simp; omega)) _ | with_reducible refine Blk.then_ ?_ (by with_reducible assumption)))
    have nz : Blk X7 (w1.heap.size) 25 #[.int .i64 xN, .int .i64 xD] := by rw [hX]; exact Blk.new _ _ _
    have lz : w.heap.size ≤ w1.heap.size := (below_then HB hbw1).size
    have oaz : ba < w1.heap.size := (ga.then_ hbw1).lt
    have obz : bb < w1.heap.size := (gb.then_ hbw1).lt
    have oxz : bx < w1.heap.size := (gx.then_ hbw1).lt
    have ojz : bj < w1.heap.size := (gj.then_ hbw1).lt
    have NB : Below w.heap.size w X7 := by rw [hX]; (repeat (first | with_reducible assumption | with_reducible exact Below.refl _ _ | with_reducible refine below_drewN ?_ _ | with_reducible refine Below.drew ?_ | with_reducible refine below_alloc ?_ _ | with_reducible refine Below.setCell ?_ (by first | omega | (simp; done) | (simp; omega)) _ | with_reducible refine below_then ?_ (by with_reducible assumption) | (refine below_then (a := World.drew _) ?_ (by with_reducible assumption))))
    clear hX ga gb gx gj HB
    obtain ⟨bz, eb⟩ : ∃ b, w1.heap.size = b := ⟨_, rfl⟩
    rw [eb] at nz lz oaz obz oxz ojz ⊢
    clear eb
    have ga := na
    clear na
    have gb := nb
    clear nb
    have gx := nx
    clear nx
    have gj := nj
    clear nj
    have gz := nz
    clear nz
    have HB := NB
    clear NB
    have hz := Below.refl X7.heap.size X7
    have heq := fun W => eqv_yes xN xD W
    by_cases h1 : 0 < c1
    · have t1 := decide_eq_true h1
      clear hc h1
      have ca0 : X7.cell? ⟨ba, 0, none⟩ = some (.int .i64 n1) := (ga).cell 0
      have ca1 : X7.cell? ⟨ba, 1, none⟩ = some (.int .i64 d1) := (ga).cell 1
      have cb0 : X7.cell? ⟨bb, 0, none⟩ = some (.int .i64 n2) := (gb).cell 0
      have cb1 : X7.cell? ⟨bb, 1, none⟩ = some (.int .i64 d2) := (gb).cell 1
      have cx0 : X7.cell? ⟨bx, 0, none⟩ = some (.int .i64 xN) := (gx).cell 0
      have cx1 : X7.cell? ⟨bx, 1, none⟩ = some (.int .i64 xD) := (gx).cell 1
      have cj0 : X7.cell? ⟨bj, 0, none⟩ = some (.int .i64 yN) := (gj).cell 0
      have cj1 : X7.cell? ⟨bj, 1, none⟩ = some (.int .i64 yD) := (gj).cell 1
      have cz0 : X7.cell? ⟨bz, 0, none⟩ = some (.int .i64 xN) := (gz).cell 0
      have cz1 : X7.cell? ⟨bz, 1, none⟩ = some (.int .i64 xD) := (gz).cell 1
      go_wp2_with (first | (go_at_call 16; (with_reducible refine (HC1.out _).mono ?_); rintro e w1 ⟨rfl, hbw1⟩; have k1a0 : w1.cell? ⟨ba, 0, none⟩ = some (.int .i64 n1) := ((ga.then_ hbw1)).cell 0; have k1a1 : w1.cell? ⟨ba, 1, none⟩ = some (.int .i64 d1) := ((ga.then_ hbw1)).cell 1; have k1b0 : w1.cell? ⟨bb, 0, none⟩ = some (.int .i64 n2) := ((gb.then_ hbw1)).cell 0; have k1b1 : w1.cell? ⟨bb, 1, none⟩ = some (.int .i64 d2) := ((gb.then_ hbw1)).cell 1; have k1x0 : w1.cell? ⟨bx, 0, none⟩ = some (.int .i64 xN) := ((gx.then_ hbw1)).cell 0; have k1x1 : w1.cell? ⟨bx, 1, none⟩ = some (.int .i64 xD) := ((gx.then_ hbw1)).cell 1; have k1j0 : w1.cell? ⟨bj, 0, none⟩ = some (.int .i64 yN) := ((gj.then_ hbw1)).cell 0; have k1j1 : w1.cell? ⟨bj, 1, none⟩ = some (.int .i64 yD) := ((gj.then_ hbw1)).cell 1; have k1z0 : w1.cell? ⟨bz, 0, none⟩ = some (.int .i64 xN) := ((gz.then_ hbw1)).cell 0; have k1z1 : w1.cell? ⟨bz, 1, none⟩ = some (.int .i64 xD) := ((gz.then_ hbw1)).cell 1) | (go_at_call 16; (with_reducible refine (HC2.out _).mono ?_); rintro e w2 ⟨rfl, hbw2⟩; have k2a0 : w2.cell? ⟨ba, 0, none⟩ = some (.int .i64 n1) := (((ga.then_ hbw1).then_ hbw2)).cell 0; have k2a1 : w2.cell? ⟨ba, 1, none⟩ = some (.int .i64 d1) := (((ga.then_ hbw1).then_ hbw2)).cell 1; have k2b0 : w2.cell? ⟨bb, 0, none⟩ = some (.int .i64 n2) := (((gb.then_ hbw1).then_ hbw2)).cell 0; have k2b1 : w2.cell? ⟨bb, 1, none⟩ = some (.int .i64 d2) := (((gb.then_ hbw1).then_ hbw2)).cell 1; have k2x0 : w2.cell? ⟨bx, 0, none⟩ = some (.int .i64 xN) := (((gx.then_ hbw1).then_ hbw2)).cell 0; have k2x1 : w2.cell? ⟨bx, 1, none⟩ = some (.int .i64 xD) := (((gx.then_ hbw1).then_ hbw2)).cell 1; have k2j0 : w2.cell? ⟨bj, 0, none⟩ = some (.int .i64 yN) := (((gj.then_ hbw1).then_ hbw2)).cell 0; have k2j1 : w2.cell? ⟨bj, 1, none⟩ = some (.int .i64 yD) := (((gj.then_ hbw1).then_ hbw2)).cell 1; have k2z0 : w2.cell? ⟨bz, 0, none⟩ = some (.int .i64 xN) := (((gz.then_ hbw1).then_ hbw2)).cell 0; have k2z1 : w2.cell? ⟨bz, 1, none⟩ = some (.int .i64 xD) := (((gz.then_ hbw1).then_ hbw2)).cell 1))
      go_ret
      exact ⟨rfl, by (repeat (first | with_reducible assumption | with_reducible exact Below.refl _ _ | with_reducible refine below_drewN ?_ _ | with_reducible refine Below.drew ?_ | with_reducible refine below_alloc ?_ _ | with_reducible refine Below.setCell ?_ (by first | omega | (simp; done) | (simp; omega)) _ | with_reducible refine below_then ?_ (by with_reducible assumption) | (refine below_then (a := World.drew _) ?_ (by with_reducible assumption))))⟩
    · have t1 := decide_eq_false h1
      have t2 := decide_eq_true (hc (by omega))
      clear hc h1
      have ca0 : X7.cell? ⟨ba, 0, none⟩ = some (.int .i64 n1) := (ga).cell 0
      have ca1 : X7.cell? ⟨ba, 1, none⟩ = some (.int .i64 d1) := (ga).cell 1
      have cb0 : X7.cell? ⟨bb, 0, none⟩ = some (.int .i64 n2) := (gb).cell 0
      have cb1 : X7.cell? ⟨bb, 1, none⟩ = some (.int .i64 d2) := (gb).cell 1
      have cx0 : X7.cell? ⟨bx, 0, none⟩ = some (.int .i64 xN) := (gx).cell 0
      have cx1 : X7.cell? ⟨bx, 1, none⟩ = some (.int .i64 xD) := (gx).cell 1
      have cj0 : X7.cell? ⟨bj, 0, none⟩ = some (.int .i64 yN) := (gj).cell 0
      have cj1 : X7.cell? ⟨bj, 1, none⟩ = some (.int .i64 yD) := (gj).cell 1
      have cz0 : X7.cell? ⟨bz, 0, none⟩ = some (.int .i64 xN) := (gz).cell 0
      have cz1 : X7.cell? ⟨bz, 1, none⟩ = some (.int .i64 xD) := (gz).cell 1
      go_wp2_with (first | (go_at_call 16; (with_reducible refine (HC1.out _).mono ?_); rintro e w1 ⟨rfl, hbw1⟩; have k1a0 : w1.cell? ⟨ba, 0, none⟩ = some (.int .i64 n1) := ((ga.then_ hbw1)).cell 0; have k1a1 : w1.cell? ⟨ba, 1, none⟩ = some (.int .i64 d1) := ((ga.then_ hbw1)).cell 1; have k1b0 : w1.cell? ⟨bb, 0, none⟩ = some (.int .i64 n2) := ((gb.then_ hbw1)).cell 0; have k1b1 : w1.cell? ⟨bb, 1, none⟩ = some (.int .i64 d2) := ((gb.then_ hbw1)).cell 1; have k1x0 : w1.cell? ⟨bx, 0, none⟩ = some (.int .i64 xN) := ((gx.then_ hbw1)).cell 0; have k1x1 : w1.cell? ⟨bx, 1, none⟩ = some (.int .i64 xD) := ((gx.then_ hbw1)).cell 1; have k1j0 : w1.cell? ⟨bj, 0, none⟩ = some (.int .i64 yN) := ((gj.then_ hbw1)).cell 0; have k1j1 : w1.cell? ⟨bj, 1, none⟩ = some (.int .i64 yD) := ((gj.then_ hbw1)).cell 1; have k1z0 : w1.cell? ⟨bz, 0, none⟩ = some (.int .i64 xN) := ((gz.then_ hbw1)).cell 0; have k1z1 : w1.cell? ⟨bz, 1, none⟩ = some (.int .i64 xD) := ((gz.then_ hbw1)).cell 1) | (go_at_call 16; (with_reducible refine (HC2.out _).mono ?_); rintro e w2 ⟨rfl, hbw2⟩; have k2a0 : w2.cell? ⟨ba, 0, none⟩ = some (.int .i64 n1) := (((ga.then_ hbw1).then_ hbw2)).cell 0; have k2a1 : w2.cell? ⟨ba, 1, none⟩ = some (.int .i64 d1) := (((ga.then_ hbw1).then_ hbw2)).cell 1; have k2b0 : w2.cell? ⟨bb, 0, none⟩ = some (.int .i64 n2) := (((gb.then_ hbw1).then_ hbw2)).cell 0; have k2b1 : w2.cell? ⟨bb, 1, none⟩ = some (.int .i64 d2) := (((gb.then_ hbw1).then_ hbw2)).cell 1; have k2x0 : w2.cell? ⟨bx, 0, none⟩ = some (.int .i64 xN) := (((gx.then_ hbw1).then_ hbw2)).cell 0; have k2x1 : w2.cell? ⟨bx, 1, none⟩ = some (.int .i64 xD) := (((gx.then_ hbw1).then_ hbw2)).cell 1; have k2j0 : w2.cell? ⟨bj, 0, none⟩ = some (.int .i64 yN) := (((gj.then_ hbw1).then_ hbw2)).cell 0; have k2j1 : w2.cell? ⟨bj, 1, none⟩ = some (.int .i64 yD) := (((gj.then_ hbw1).then_ hbw2)).cell 1; have k2z0 : w2.cell? ⟨bz, 0, none⟩ = some (.int .i64 xN) := (((gz.then_ hbw1).then_ hbw2)).cell 0; have k2z1 : w2.cell? ⟨bz, 1, none⟩ = some (.int .i64 xD) := (((gz.then_ hbw1).then_ hbw2)).cell 1))
      go_ret
      exact ⟨rfl, by (repeat (first | with_reducible assumption | with_reducible exact Below.refl _ _ | with_reducible refine below_drewN ?_ _ | with_reducible refine Below.drew ?_ | with_reducible refine below_alloc ?_ _ | with_reducible refine Below.setCell ?_ (by first | omega | (simp; done) | (simp; omega)) _ | with_reducible refine below_then ?_ (by with_reducible assumption) | (refine below_then (a := World.drew _) ?_ (by with_reducible assumption))))⟩
end Go.Proofs.YtbkekabhdpoddaaDoor
