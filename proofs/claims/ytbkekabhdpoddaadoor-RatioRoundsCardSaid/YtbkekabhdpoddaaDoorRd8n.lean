/- The walk of RatioRounds: what is returned early. -/
import Derived.Test.YtbkekabhdpoddaaDoorRd0
namespace Go.Proofs.YtbkekabhdpoddaaDoor
open Go.RowKit

set_option maxRecDepth 100000 in
set_option maxHeartbeats 6400000 in
theorem rounds_no (n1 d1 n2 d2 p A B : Int) (v1 v2 : Bool) (w : World)
    (HH : Hid (∀ W, Below w.heap.size w W → Calls Tryd.prog 11 #[] W fun e w' => e = .returned (.bool true) ∧ Below W.heap.size W w'))
    (HV1 : Hid (∀ W, Calls Tryd.prog 15 #[.agg #[.int .i64 n1, .int .i64 d1]] W fun e w' => e = .returned (.bool v1) ∧ Below W.heap.size W w'))
    (HV2 : Hid (∀ W, Calls Tryd.prog 15 #[.agg #[.int .i64 n2, .int .i64 d2]] W fun e w' => e = .returned (.bool v2) ∧ Below W.heap.size W w'))
    (hA : (∀ W ts t, (Builtin.max_ ts t #[.int .i64 n1, .int .i64 (-n1)]).run Tryd.prog W = .ok (.int .i64 A) W)) (hB : (∀ W ts t, (Builtin.max_ ts t #[.int .i64 n2, .int .i64 (-n2)]).run Tryd.prog W = .ok (.int .i64 B) W))
    (hv : v1 = false ∨ (v1 = true ∧ v2 = false) ∨ ((-1000000000000000 ≤ n1 ∧ n1 ≤ 1000000000000000) ∧ (-1000000000000000 ≤ n2 ∧ n2 ≤ 1000000000000000) ∧ v1 = true ∧ v2 = true ∧ (1000000000 < A ∨ (¬ 1000000000 < A ∧ 1000000000 < B)))) :
    Calls Tryd.prog 6 #[.agg #[.int .i64 n1, .int .i64 d1], .agg #[.int .i64 n2, .int .i64 d2], .int .i64 p] w fun e w' => e = .returned (.bool true) ∧ Below w.heap.size w w' := by
  rcases hv with rfl | ⟨rfl, rfl⟩ | ⟨b1, b2, rfl, rfl, h | ⟨h, h2⟩⟩
  · go_enter Tryd.func6, Tryd.ntmps6
    go_upto_region 1 with (fail)
    refine name_wp ?_
    intro X0 hX
    have ga : Blk X0 (w.heap.size) 25 #[.int .i64 n1, .int .i64 d1] := by rw [hX]; exact ((blk_at (by simp))).alloc _
    have gb : Blk X0 (w.heap.size + 1) 25 #[.int .i64 n2, .int .i64 d2] := by rw [hX]; exact (blk_at (by simp))
    have HB : Below w.heap.size w X0 := by rw [hX]; (repeat (first | with_reducible assumption | with_reducible exact Below.refl _ _ | with_reducible refine below_drewN ?_ _ | with_reducible refine Below.drew ?_ | with_reducible refine below_alloc ?_ _ | with_reducible refine Below.setCell ?_ (by first | omega | (simp; done) | (simp; omega)) _ | with_reducible refine below_then ?_ (by with_reducible assumption) | (refine below_then (a := World.drew _) ?_ (by with_reducible assumption))))
    clear hX
    obtain ⟨bb, eb⟩ : ∃ b, w.heap.size + 1 = b := ⟨_, rfl⟩
    rw [eb] at gb ⊢
    clear eb
    obtain ⟨ba, eb⟩ : ∃ b, w.heap.size = b := ⟨_, rfl⟩
    rw [eb] at ga ⊢
    clear eb
    have hz := Below.refl X0.heap.size X0
    go_upto_region 2 with ((go_at_call 11; (with_reducible refine (HH.out _ HB).mono ?_); rintro e w1 ⟨rfl, hbw1⟩))
    refine name_wp ?_
    intro X1 hX
    have na : Blk X1 ba 25 #[.int .i64 n1, .int .i64 d1] := by rw [hX]; (repeat (first | with_reducible assumption | with_reducible exact Blk.new _ _ _ | with_reducible refine Blk.drew ?_ | with_reducible refine Blk.alloc ?_ _ | with_reducible refine Blk.drewN ?_ _ | with_reducible apply Blk.setT0 | with_reducible apply Blk.setT1 | with_reducible refine Blk.far ?_ (by first | (simp; done) | omega | (simp; omega)) _ | with_reducible refine Blk.then_ ?_ (by with_reducible assumption)))
    have nb : Blk X1 bb 25 #[.int .i64 n2, .int .i64 d2] := by rw [hX]; (repeat (first | with_reducible assumption | with_reducible exact Blk.new _ _ _ | with_reducible refine Blk.drew ?_ | with_reducible refine Blk.alloc ?_ _ | with_reducible refine Blk.drewN ?_ _ | with_reducible apply Blk.setT0 | with_reducible apply Blk.setT1 | with_reducible refine Blk.far ?_ (by first | (simp; done) | omega | (simp; omega)) _ | with_reducible refine Blk.then_ ?_ (by with_reducible assumption)))
    have NB : Below w.heap.size w X1 := by rw [hX]; (repeat (first | with_reducible assumption | with_reducible exact Below.refl _ _ | with_reducible refine below_drewN ?_ _ | with_reducible refine Below.drew ?_ | with_reducible refine below_alloc ?_ _ | with_reducible refine Below.setCell ?_ (by first | omega | (simp; done) | (simp; omega)) _ | with_reducible refine below_then ?_ (by with_reducible assumption) | (refine below_then (a := World.drew _) ?_ (by with_reducible assumption))))
    clear hX ga gb HB
    have ga := na
    clear na
    have gb := nb
    clear nb
    have HB := NB
    clear NB
    have hz := Below.refl X1.heap.size X1
    have ca0 : X1.cell? ⟨ba, 0, none⟩ = some (.int .i64 n1) := (ga).cell 0
    have ca1 : X1.cell? ⟨ba, 1, none⟩ = some (.int .i64 d1) := (ga).cell 1
    have cb0 : X1.cell? ⟨bb, 0, none⟩ = some (.int .i64 n2) := (gb).cell 0
    have cb1 : X1.cell? ⟨bb, 1, none⟩ = some (.int .i64 d2) := (gb).cell 1
    go_wp2_with (first | (go_at_call 15; (with_reducible refine (HV1.out _).mono ?_); rintro e w1 ⟨rfl, hbw1⟩; have k1a0 : w1.cell? ⟨ba, 0, none⟩ = some (.int .i64 n1) := ((ga.then_ hbw1)).cell 0; have k1a1 : w1.cell? ⟨ba, 1, none⟩ = some (.int .i64 d1) := ((ga.then_ hbw1)).cell 1; have k1b0 : w1.cell? ⟨bb, 0, none⟩ = some (.int .i64 n2) := ((gb.then_ hbw1)).cell 0; have k1b1 : w1.cell? ⟨bb, 1, none⟩ = some (.int .i64 d2) := ((gb.then_ hbw1)).cell 1) | (go_at_call 15; (with_reducible refine (HV2.out _).mono ?_); rintro e w2 ⟨rfl, hbw2⟩; have k2a0 : w2.cell? ⟨ba, 0, none⟩ = some (.int .i64 n1) := (((ga.then_ hbw1).then_ hbw2)).cell 0; have k2a1 : w2.cell? ⟨ba, 1, none⟩ = some (.int .i64 d1) := (((ga.then_ hbw1).then_ hbw2)).cell 1; have k2b0 : w2.cell? ⟨bb, 0, none⟩ = some (.int .i64 n2) := (((gb.then_ hbw1).then_ hbw2)).cell 0; have k2b1 : w2.cell? ⟨bb, 1, none⟩ = some (.int .i64 d2) := (((gb.then_ hbw1).then_ hbw2)).cell 1))
    go_ret
    exact ⟨rfl, by (repeat (first | with_reducible assumption | with_reducible exact Below.refl _ _ | with_reducible refine below_drewN ?_ _ | with_reducible refine Below.drew ?_ | with_reducible refine below_alloc ?_ _ | with_reducible refine Below.setCell ?_ (by first | omega | (simp; done) | (simp; omega)) _ | with_reducible refine below_then ?_ (by with_reducible assumption) | (refine below_then (a := World.drew _) ?_ (by with_reducible assumption))))⟩
  · go_enter Tryd.func6, Tryd.ntmps6
    go_upto_region 1 with (fail)
    refine name_wp ?_
    intro X0 hX
    have ga : Blk X0 (w.heap.size) 25 #[.int .i64 n1, .int .i64 d1] := by rw [hX]; exact ((blk_at (by simp))).alloc _
    have gb : Blk X0 (w.heap.size + 1) 25 #[.int .i64 n2, .int .i64 d2] := by rw [hX]; exact (blk_at (by simp))
    have HB : Below w.heap.size w X0 := by rw [hX]; (repeat (first | with_reducible assumption | with_reducible exact Below.refl _ _ | with_reducible refine below_drewN ?_ _ | with_reducible refine Below.drew ?_ | with_reducible refine below_alloc ?_ _ | with_reducible refine Below.setCell ?_ (by first | omega | (simp; done) | (simp; omega)) _ | with_reducible refine below_then ?_ (by with_reducible assumption) | (refine below_then (a := World.drew _) ?_ (by with_reducible assumption))))
    clear hX
    obtain ⟨bb, eb⟩ : ∃ b, w.heap.size + 1 = b := ⟨_, rfl⟩
    rw [eb] at gb ⊢
    clear eb
    obtain ⟨ba, eb⟩ : ∃ b, w.heap.size = b := ⟨_, rfl⟩
    rw [eb] at ga ⊢
    clear eb
    have hz := Below.refl X0.heap.size X0
    go_upto_region 2 with ((go_at_call 11; (with_reducible refine (HH.out _ HB).mono ?_); rintro e w1 ⟨rfl, hbw1⟩))
    refine name_wp ?_
    intro X1 hX
    have na : Blk X1 ba 25 #[.int .i64 n1, .int .i64 d1] := by rw [hX]; (repeat (first | with_reducible assumption | with_reducible exact Blk.new _ _ _ | with_reducible refine Blk.drew ?_ | with_reducible refine Blk.alloc ?_ _ | with_reducible refine Blk.drewN ?_ _ | with_reducible apply Blk.setT0 | with_reducible apply Blk.setT1 | with_reducible refine Blk.far ?_ (by first | (simp; done) | omega | (simp; omega)) _ | with_reducible refine Blk.then_ ?_ (by with_reducible assumption)))
    have nb : Blk X1 bb 25 #[.int .i64 n2, .int .i64 d2] := by rw [hX]; (repeat (first | with_reducible assumption | with_reducible exact Blk.new _ _ _ | with_reducible refine Blk.drew ?_ | with_reducible refine Blk.alloc ?_ _ | with_reducible refine Blk.drewN ?_ _ | with_reducible apply Blk.setT0 | with_reducible apply Blk.setT1 | with_reducible refine Blk.far ?_ (by first | (simp; done) | omega | (simp; omega)) _ | with_reducible refine Blk.then_ ?_ (by with_reducible assumption)))
    have NB : Below w.heap.size w X1 := by rw [hX]; (repeat (first | with_reducible assumption | with_reducible exact Below.refl _ _ | with_reducible refine below_drewN ?_ _ | with_reducible refine Below.drew ?_ | with_reducible refine below_alloc ?_ _ | with_reducible refine Below.setCell ?_ (by first | omega | (simp; done) | (simp; omega)) _ | with_reducible refine below_then ?_ (by with_reducible assumption) | (refine below_then (a := World.drew _) ?_ (by with_reducible assumption))))
    clear hX ga gb HB
    have ga := na
    clear na
    have gb := nb
    clear nb
    have HB := NB
    clear NB
    have hz := Below.refl X1.heap.size X1
    have ca0 : X1.cell? ⟨ba, 0, none⟩ = some (.int .i64 n1) := (ga).cell 0
    have ca1 : X1.cell? ⟨ba, 1, none⟩ = some (.int .i64 d1) := (ga).cell 1
    have cb0 : X1.cell? ⟨bb, 0, none⟩ = some (.int .i64 n2) := (gb).cell 0
    have cb1 : X1.cell? ⟨bb, 1, none⟩ = some (.int .i64 d2) := (gb).cell 1
    go_wp2_with (first | (go_at_call 15; (with_reducible refine (HV1.out _).mono ?_); rintro e w1 ⟨rfl, hbw1⟩; have k1a0 : w1.cell? ⟨ba, 0, none⟩ = some (.int .i64 n1) := ((ga.then_ hbw1)).cell 0; have k1a1 : w1.cell? ⟨ba, 1, none⟩ = some (.int .i64 d1) := ((ga.then_ hbw1)).cell 1; have k1b0 : w1.cell? ⟨bb, 0, none⟩ = some (.int .i64 n2) := ((gb.then_ hbw1)).cell 0; have k1b1 : w1.cell? ⟨bb, 1, none⟩ = some (.int .i64 d2) := ((gb.then_ hbw1)).cell 1) | (go_at_call 15; (with_reducible refine (HV2.out _).mono ?_); rintro e w2 ⟨rfl, hbw2⟩; have k2a0 : w2.cell? ⟨ba, 0, none⟩ = some (.int .i64 n1) := (((ga.then_ hbw1).then_ hbw2)).cell 0; have k2a1 : w2.cell? ⟨ba, 1, none⟩ = some (.int .i64 d1) := (((ga.then_ hbw1).then_ hbw2)).cell 1; have k2b0 : w2.cell? ⟨bb, 0, none⟩ = some (.int .i64 n2) := (((gb.then_ hbw1).then_ hbw2)).cell 0; have k2b1 : w2.cell? ⟨bb, 1, none⟩ = some (.int .i64 d2) := (((gb.then_ hbw1).then_ hbw2)).cell 1))
    go_ret
    exact ⟨rfl, by (repeat (first | with_reducible assumption | with_reducible exact Below.refl _ _ | with_reducible refine below_drewN ?_ _ | with_reducible refine Below.drew ?_ | with_reducible refine below_alloc ?_ _ | with_reducible refine Below.setCell ?_ (by first | omega | (simp; done) | (simp; omega)) _ | with_reducible refine below_then ?_ (by with_reducible assumption) | (refine below_then (a := World.drew _) ?_ (by with_reducible assumption))))⟩
  · have t1 := decide_eq_true h
    clear h
    go_enter Tryd.func6, Tryd.ntmps6
    go_upto_region 1 with (fail)
    refine name_wp ?_
    intro X0 hX
    have ga : Blk X0 (w.heap.size) 25 #[.int .i64 n1, .int .i64 d1] := by rw [hX]; exact ((blk_at (by simp))).alloc _
    have gb : Blk X0 (w.heap.size + 1) 25 #[.int .i64 n2, .int .i64 d2] := by rw [hX]; exact (blk_at (by simp))
    have HB : Below w.heap.size w X0 := by rw [hX]; (repeat (first | with_reducible assumption | with_reducible exact Below.refl _ _ | with_reducible refine below_drewN ?_ _ | with_reducible refine Below.drew ?_ | with_reducible refine below_alloc ?_ _ | with_reducible refine Below.setCell ?_ (by first | omega | (simp; done) | (simp; omega)) _ | with_reducible refine below_then ?_ (by with_reducible assumption) | (refine below_then (a := World.drew _) ?_ (by with_reducible assumption))))
    clear hX
    obtain ⟨bb, eb⟩ : ∃ b, w.heap.size + 1 = b := ⟨_, rfl⟩
    rw [eb] at gb ⊢
    clear eb
    obtain ⟨ba, eb⟩ : ∃ b, w.heap.size = b := ⟨_, rfl⟩
    rw [eb] at ga ⊢
    clear eb
    have hz := Below.refl X0.heap.size X0
    go_upto_region 2 with ((go_at_call 11; (with_reducible refine (HH.out _ HB).mono ?_); rintro e w1 ⟨rfl, hbw1⟩))
    refine name_wp ?_
    intro X1 hX
    have na : Blk X1 ba 25 #[.int .i64 n1, .int .i64 d1] := by rw [hX]; (repeat (first | with_reducible assumption | with_reducible exact Blk.new _ _ _ | with_reducible refine Blk.drew ?_ | with_reducible refine Blk.alloc ?_ _ | with_reducible refine Blk.drewN ?_ _ | with_reducible apply Blk.setT0 | with_reducible apply Blk.setT1 | with_reducible refine Blk.far ?_ (by first | (simp; done) | omega | (simp; omega)) _ | with_reducible refine Blk.then_ ?_ (by with_reducible assumption)))
    have nb : Blk X1 bb 25 #[.int .i64 n2, .int .i64 d2] := by rw [hX]; (repeat (first | with_reducible assumption | with_reducible exact Blk.new _ _ _ | with_reducible refine Blk.drew ?_ | with_reducible refine Blk.alloc ?_ _ | with_reducible refine Blk.drewN ?_ _ | with_reducible apply Blk.setT0 | with_reducible apply Blk.setT1 | with_reducible refine Blk.far ?_ (by first | (simp; done) | omega | (simp; omega)) _ | with_reducible refine Blk.then_ ?_ (by with_reducible assumption)))
    have NB : Below w.heap.size w X1 := by rw [hX]; (repeat (first | with_reducible assumption | with_reducible exact Below.refl _ _ | with_reducible refine below_drewN ?_ _ | with_reducible refine Below.drew ?_ | with_reducible refine below_alloc ?_ _ | with_reducible refine Below.setCell ?_ (by first | omega | (simp; done) | (simp; omega)) _ | with_reducible refine below_then ?_ (by with_reducible assumption) | (refine below_then (a := World.drew _) ?_ (by with_reducible assumption))))
    clear hX ga gb HB
    have ga := na
    clear na
    have gb := nb
    clear nb
    have HB := NB
    clear NB
    have hz := Below.refl X1.heap.size X1
    have ca0 : X1.cell? ⟨ba, 0, none⟩ = some (.int .i64 n1) := (ga).cell 0
    have ca1 : X1.cell? ⟨ba, 1, none⟩ = some (.int .i64 d1) := (ga).cell 1
    have cb0 : X1.cell? ⟨bb, 0, none⟩ = some (.int .i64 n2) := (gb).cell 0
    have cb1 : X1.cell? ⟨bb, 1, none⟩ = some (.int .i64 d2) := (gb).cell 1
    go_wp2_with (first | (go_at_call 15; (with_reducible refine (HV1.out _).mono ?_); rintro e w1 ⟨rfl, hbw1⟩; have k1a0 : w1.cell? ⟨ba, 0, none⟩ = some (.int .i64 n1) := ((ga.then_ hbw1)).cell 0; have k1a1 : w1.cell? ⟨ba, 1, none⟩ = some (.int .i64 d1) := ((ga.then_ hbw1)).cell 1; have k1b0 : w1.cell? ⟨bb, 0, none⟩ = some (.int .i64 n2) := ((gb.then_ hbw1)).cell 0; have k1b1 : w1.cell? ⟨bb, 1, none⟩ = some (.int .i64 d2) := ((gb.then_ hbw1)).cell 1) | (go_at_call 15; (with_reducible refine (HV2.out _).mono ?_); rintro e w2 ⟨rfl, hbw2⟩; have k2a0 : w2.cell? ⟨ba, 0, none⟩ = some (.int .i64 n1) := (((ga.then_ hbw1).then_ hbw2)).cell 0; have k2a1 : w2.cell? ⟨ba, 1, none⟩ = some (.int .i64 d1) := (((ga.then_ hbw1).then_ hbw2)).cell 1; have k2b0 : w2.cell? ⟨bb, 0, none⟩ = some (.int .i64 n2) := (((gb.then_ hbw1).then_ hbw2)).cell 0; have k2b1 : w2.cell? ⟨bb, 1, none⟩ = some (.int .i64 d2) := (((gb.then_ hbw1).then_ hbw2)).cell 1))
    go_ret
    exact ⟨rfl, by (repeat (first | with_reducible assumption | with_reducible exact Below.refl _ _ | with_reducible refine below_drewN ?_ _ | with_reducible refine Below.drew ?_ | with_reducible refine below_alloc ?_ _ | with_reducible refine Below.setCell ?_ (by first | omega | (simp; done) | (simp; omega)) _ | with_reducible refine below_then ?_ (by with_reducible assumption) | (refine below_then (a := World.drew _) ?_ (by with_reducible assumption))))⟩
  · have t1 := decide_eq_false h
    have t2 := decide_eq_true h2
    clear h h2
    go_enter Tryd.func6, Tryd.ntmps6
    go_upto_region 1 with (fail)
    refine name_wp ?_
    intro X0 hX
    have ga : Blk X0 (w.heap.size) 25 #[.int .i64 n1, .int .i64 d1] := by rw [hX]; exact ((blk_at (by simp))).alloc _
    have gb : Blk X0 (w.heap.size + 1) 25 #[.int .i64 n2, .int .i64 d2] := by rw [hX]; exact (blk_at (by simp))
    have HB : Below w.heap.size w X0 := by rw [hX]; (repeat (first | with_reducible assumption | with_reducible exact Below.refl _ _ | with_reducible refine below_drewN ?_ _ | with_reducible refine Below.drew ?_ | with_reducible refine below_alloc ?_ _ | with_reducible refine Below.setCell ?_ (by first | omega | (simp; done) | (simp; omega)) _ | with_reducible refine below_then ?_ (by with_reducible assumption) | (refine below_then (a := World.drew _) ?_ (by with_reducible assumption))))
    clear hX
    obtain ⟨bb, eb⟩ : ∃ b, w.heap.size + 1 = b := ⟨_, rfl⟩
    rw [eb] at gb ⊢
    clear eb
    obtain ⟨ba, eb⟩ : ∃ b, w.heap.size = b := ⟨_, rfl⟩
    rw [eb] at ga ⊢
    clear eb
    have hz := Below.refl X0.heap.size X0
    go_upto_region 2 with ((go_at_call 11; (with_reducible refine (HH.out _ HB).mono ?_); rintro e w1 ⟨rfl, hbw1⟩))
    refine name_wp ?_
    intro X1 hX
    have na : Blk X1 ba 25 #[.int .i64 n1, .int .i64 d1] := by rw [hX]; (repeat (first | with_reducible assumption | with_reducible exact Blk.new _ _ _ | with_reducible refine Blk.drew ?_ | with_reducible refine Blk.alloc ?_ _ | with_reducible refine Blk.drewN ?_ _ | with_reducible apply Blk.setT0 | with_reducible apply Blk.setT1 | with_reducible refine Blk.far ?_ (by first | (simp; done) | omega | (simp; omega)) _ | with_reducible refine Blk.then_ ?_ (by with_reducible assumption)))
    have nb : Blk X1 bb 25 #[.int .i64 n2, .int .i64 d2] := by rw [hX]; (repeat (first | with_reducible assumption | with_reducible exact Blk.new _ _ _ | with_reducible refine Blk.drew ?_ | with_reducible refine Blk.alloc ?_ _ | with_reducible refine Blk.drewN ?_ _ | with_reducible apply Blk.setT0 | with_reducible apply Blk.setT1 | with_reducible refine Blk.far ?_ (by first | (simp; done) | omega | (simp; omega)) _ | with_reducible refine Blk.then_ ?_ (by with_reducible assumption)))
    have NB : Below w.heap.size w X1 := by rw [hX]; (repeat (first | with_reducible assumption | with_reducible exact Below.refl _ _ | with_reducible refine below_drewN ?_ _ | with_reducible refine Below.drew ?_ | with_reducible refine below_alloc ?_ _ | with_reducible refine Below.setCell ?_ (by first | omega | (simp; done) | (simp; omega)) _ | with_reducible refine below_then ?_ (by with_reducible assumption) | (refine below_then (a := World.drew _) ?_ (by with_reducible assumption))))
    clear hX ga gb HB
    have ga := na
    clear na
    have gb := nb
    clear nb
    have HB := NB
    clear NB
    have hz := Below.refl X1.heap.size X1
    have ca0 : X1.cell? ⟨ba, 0, none⟩ = some (.int .i64 n1) := (ga).cell 0
    have ca1 : X1.cell? ⟨ba, 1, none⟩ = some (.int .i64 d1) := (ga).cell 1
    have cb0 : X1.cell? ⟨bb, 0, none⟩ = some (.int .i64 n2) := (gb).cell 0
    have cb1 : X1.cell? ⟨bb, 1, none⟩ = some (.int .i64 d2) := (gb).cell 1
    go_wp2_with (first | (go_at_call 15; (with_reducible refine (HV1.out _).mono ?_); rintro e w1 ⟨rfl, hbw1⟩; have k1a0 : w1.cell? ⟨ba, 0, none⟩ = some (.int .i64 n1) := ((ga.then_ hbw1)).cell 0; have k1a1 : w1.cell? ⟨ba, 1, none⟩ = some (.int .i64 d1) := ((ga.then_ hbw1)).cell 1; have k1b0 : w1.cell? ⟨bb, 0, none⟩ = some (.int .i64 n2) := ((gb.then_ hbw1)).cell 0; have k1b1 : w1.cell? ⟨bb, 1, none⟩ = some (.int .i64 d2) := ((gb.then_ hbw1)).cell 1) | (go_at_call 15; (with_reducible refine (HV2.out _).mono ?_); rintro e w2 ⟨rfl, hbw2⟩; have k2a0 : w2.cell? ⟨ba, 0, none⟩ = some (.int .i64 n1) := (((ga.then_ hbw1).then_ hbw2)).cell 0; have k2a1 : w2.cell? ⟨ba, 1, none⟩ = some (.int .i64 d1) := (((ga.then_ hbw1).then_ hbw2)).cell 1; have k2b0 : w2.cell? ⟨bb, 0, none⟩ = some (.int .i64 n2) := (((gb.then_ hbw1).then_ hbw2)).cell 0; have k2b1 : w2.cell? ⟨bb, 1, none⟩ = some (.int .i64 d2) := (((gb.then_ hbw1).then_ hbw2)).cell 1))
    go_ret
    exact ⟨rfl, by (repeat (first | with_reducible assumption | with_reducible exact Below.refl _ _ | with_reducible refine below_drewN ?_ _ | with_reducible refine Below.drew ?_ | with_reducible refine below_alloc ?_ _ | with_reducible refine Below.setCell ?_ (by first | omega | (simp; done) | (simp; omega)) _ | with_reducible refine below_then ?_ (by with_reducible assumption) | (refine below_then (a := World.drew _) ?_ (by with_reducible assumption))))⟩
end Go.Proofs.YtbkekabhdpoddaaDoor
