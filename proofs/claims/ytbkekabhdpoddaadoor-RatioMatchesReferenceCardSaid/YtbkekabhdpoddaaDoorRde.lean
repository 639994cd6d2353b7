/- The walk of RatioTexts. -/
import Derived.Test.YtbkekabhdpoddaaDoorRd0
namespace Go.Proofs.YtbkekabhdpoddaaDoor
open Go.RowKit

set_option maxRecDepth 100000 in
set_option maxHeartbeats 6400000 in
theorem texts_long (n1 d1 : Int) (t : ByteArray) (w : World)
    (HH : Hid (∀ W, Below w.heap.size w W → Calls Tryd.prog 11 #[] W fun e w' => e = .returned (.bool true) ∧ Below W.heap.size W w')) (ht : (1000 : Int) < t.size) :
    Calls Tryd.prog 7 #[.agg #[.int .i64 n1, .int .i64 d1], .string t] w fun e w' => e = .returned (.bool true) ∧ Below w.heap.size w w' := by
  have t1 := decide_eq_true ht
  clear ht
  go_enter Tryd.func7, Tryd.ntmps7
  go_upto_region 1 with (fail)
  refine name_wp ?_
  intro X0 hX
  have ga : Blk X0 (w.heap.size) 25 #[.int .i64 n1, .int .i64 d1] := by rw [hX]; exact (blk_at (by simp))
  have HB : Below w.heap.size w X0 := by rw [hX]; (repeat (first | with_reducible assumption | with_reducible exact Below.refl _ _ | with_reducible refine below_drewN ?_ _ | with_reducible refine Below.drew ?_ | with_reducible refine below_alloc ?_ _ | with_reducible refine Below.setCell ?_ (by first | omega | (simp; done) | (simp; omega)) _ | with_reducible refine below_then ?_ (by with_reducible assumption) | (refine below_then (a := World.drew _) ?_ (by with_reducible assumption))))
  clear hX
  obtain ⟨ba, eb⟩ : ∃ b, w.heap.size = b := ⟨_, rfl⟩
  rw [eb] at ga ⊢
  clear eb
  have hz := Below.refl X0.heap.size X0
  go_upto_region 2 with ((go_at_call 11; (with_reducible refine (HH.out _ HB).mono ?_); rintro e w1 ⟨rfl, hbw1⟩))
  refine name_wp ?_
  intro X1 hX
  have na : Blk X1 ba 25 #[.int .i64 n1, .int .i64 d1] := by rw [hX]; (repeat (first | with_reducible assumption | with_reducible exact Blk.new _ _ _ | with_reducible refine Blk.drew ?_ | with_reducible refine Blk.alloc ?_ _ | with_reducible refine Blk.drewN ?_ _ | with_reducible apply Blk.setT0 | with_reducible apply Blk.setT1 | with_reducible refine Blk.far ?_ (by first | (simp; done) | omega | (simp; omega)) _ | with_reducible refine Blk.then_ ?_ (by with_reducible assumption)))
  have NB : Below w.heap.size w X1 := by rw [hX]; (repeat (first | with_reducible assumption | with_reducible exact Below.refl _ _ | with_reducible refine below_drewN ?_ _ | with_reducible refine Below.drew ?_ | with_reducible refine below_alloc ?_ _ | with_reducible refine Below.setCell ?_ (by first | omega | (simp; done) | (simp; omega)) _ | with_reducible refine below_then ?_ (by with_reducible assumption) | (refine below_then (a := World.drew _) ?_ (by with_reducible assumption))))
  clear hX ga HB
  have ga := na
  clear na
  have HB := NB
  clear NB
  have hz := Below.refl X1.heap.size X1
  have ca0 : X1.cell? ⟨ba, 0, none⟩ = some (.int .i64 n1) := (ga).cell 0
  have ca1 : X1.cell? ⟨ba, 1, none⟩ = some (.int .i64 d1) := (ga).cell 1
  go_wp2
  go_ret
  exact ⟨rfl, by (repeat (first | with_reducible assumption | with_reducible exact Below.refl _ _ | with_reducible refine below_drewN ?_ _ | with_reducible refine Below.drew ?_ | with_reducible refine below_alloc ?_ _ | with_reducible refine Below.setCell ?_ (by first | omega | (simp; done) | (simp; omega)) _ | with_reducible refine below_then ?_ (by with_reducible assumption) | (refine below_then (a := World.drew _) ?_ (by with_reducible assumption))))⟩
set_option maxRecDepth 100000 in
set_option maxHeartbeats 6400000 in
theorem texts_key (n1 d1 : Int) (t S S2 : ByteArray) (v : Bool) (bN bD bE cN cD cE : Int) (w : World)
    (HH : Hid (∀ W, Below w.heap.size w W → Calls Tryd.prog 11 #[] W fun e w' => e = .returned (.bool true) ∧ Below W.heap.size W w'))
    (ht : ¬ (1000 : Int) < t.size)
    (HT : Hid (∀ W, Below w.heap.size w W → Calls Tryd.prog 22 #[.agg #[.int .i64 n1, .int .i64 d1]] W fun e w' => e = .returned (.string S) ∧ Below W.heap.size W w'))
    (HV : Hid (∀ W, Calls Tryd.prog 15 #[.agg #[.int .i64 n1, .int .i64 d1]] W fun e w' => e = .returned (.bool v) ∧ Below W.heap.size W w'))
    (hS : (S.toList = [] ∧ v = false) ∨ (S.toList ≠ [] ∧ v = true))
    (HP : Hid (∀ W, Below w.heap.size w W → Calls Tryd.prog 23 #[.string S] W fun e w' => e = .returned (.tuple #[.agg #[.int .i64 bN, .int .i64 bD], .int .i64 bE]) ∧ Below W.heap.size W w'))
    (hb : (v = true → bN = n1 ∧ bD = d1 ∧ bE = 0) ∧ (v = false → bE = 5))
    (HQ : Hid (∀ W, Below w.heap.size w W → Calls Tryd.prog 23 #[.string t] W fun e w' => e = .returned (.tuple #[.agg #[.int .i64 cN, .int .i64 cD], .int .i64 cE]) ∧ Below W.heap.size W w'))
    (hc : (cE = 5 ∧ cN = 0 ∧ cD = 0) ∨ cE = 0)
    (HVc : Hid (∀ W, cE = 0 → Calls Tryd.prog 15 #[.agg #[.int .i64 cN, .int .i64 cD]] W fun e w' => e = .returned (.bool true) ∧ Below W.heap.size W w')) (HTc : Hid (∀ W, Below w.heap.size w W → cE = 0 → Calls Tryd.prog 22 #[.agg #[.int .i64 cN, .int .i64 cD]] W fun e w' => e = .returned (.string S2) ∧ Below W.heap.size W w'))
    (hS2 : cE = 0 → S2 = t) :
    Calls Tryd.prog 7 #[.agg #[.int .i64 n1, .int .i64 d1], .string t] w fun e w' => e = .returned (.bool true) ∧ Below w.heap.size w w' := by
  have t1 := decide_eq_false ht
  clear ht
  go_enter Tryd.func7, Tryd.ntmps7
  go_upto_region 1 with (fail)
  refine name_wp ?_
  intro X0 hX
  have ga : Blk X0 (w.heap.size) 25 #[.int .i64 n1, .int .i64 d1] := by rw [hX]; exact (blk_at (by simp))
  have HB : Below w.heap.size w X0 := by rw [hX]; (repeat (first | with_reducible assumption | with_reducible exact Below.refl _ _ | with_reducible refine below_drewN ?_ _ | with_reducible refine Below.drew ?_ | with_reducible refine below_alloc ?_ _ | with_reducible refine Below.setCell ?_ (by first | omega | (simp; done) | (simp; omega)) _ | with_reducible refine below_then ?_ (by with_reducible assumption) | (refine below_then (a := World.drew _) ?_ (by with_reducible assumption))))
  clear hX
  obtain ⟨ba, eb⟩ : ∃ b, w.heap.size = b := ⟨_, rfl⟩
  rw [eb] at ga ⊢
  clear eb
  have hz := Below.refl X0.heap.size X0
  go_upto_region 2 with ((go_at_call 11; (with_reducible refine (HH.out _ HB).mono ?_); rintro e w1 ⟨rfl, hbw1⟩))
  refine name_wp ?_
  intro X1 hX
  have na : Blk X1 ba 25 #[.int .i64 n1, .int .i64 d1] := by rw [hX]; (repeat (first | with_reducible assumption | with_reducible exact Blk.new _ _ _ | with_reducible refine Blk.drew ?_ | with_reducible refine Blk.alloc ?_ _ | with_reducible refine Blk.drewN ?_ _ | with_reducible apply Blk.setT0 | with_reducible apply Blk.setT1 | with_reducible refine Blk.far ?_ (by first | (simp; done) | omega | (simp; omega)) _ | with_reducible refine Blk.then_ ?_ (by with_reducible assumption)))
  have NB : Below w.heap.size w X1 := by rw [hX]; (repeat (first | with_reducible assumption | with_reducible exact Below.refl _ _ | with_reducible refine below_drewN ?_ _ | with_reducible refine Below.drew ?_ | with_reducible refine below_alloc ?_ _ | with_reducible refine Below.setCell ?_ (by first | omega | (simp; done) | (simp; omega)) _ | with_reducible refine below_then ?_ (by with_reducible assumption) | (refine below_then (a := World.drew _) ?_ (by with_reducible assumption))))
  clear hX ga HB
  have ga := na
  clear na
  have HB := NB
  clear NB
  have hz := Below.refl X1.heap.size X1
  have ca0 : X1.cell? ⟨ba, 0, none⟩ = some (.int .i64 n1) := (ga).cell 0
  have ca1 : X1.cell? ⟨ba, 1, none⟩ = some (.int .i64 d1) := (ga).cell 1
  go_upto_region 5 with ((go_at_call 22; (with_reducible refine (HT.out _ (by (repeat (first | with_reducible assumption | with_reducible exact Below.refl _ _ | with_reducible refine below_drewN ?_ _ | with_reducible refine Below.drew ?_ | with_reducible refine below_alloc ?_ _ | with_reducible refine Below.setCell ?_ (by first | omega | (simp; done) | (simp; omega)) _ | with_reducible refine below_then ?_ (by with_reducible assumption) | (refine below_then (a := World.drew _) ?_ (by with_reducible assumption)))))).mono ?_); rintro e w1 ⟨rfl, hbw1⟩; have k1a0 : w1.cell? ⟨ba, 0, none⟩ = some (.int .i64 n1) := ((ga.then_ hbw1)).cell 0; have k1a1 : w1.cell? ⟨ba, 1, none⟩ = some (.int .i64 d1) := ((ga.then_ hbw1)).cell 1))
  clear HT t1
  clear ca0 ca1
  try clear k1a0 k1a1
  refine name_wp ?_
  intro X2 hX
  have na : Blk X2 ba 25 #[.int .i64 n1, .int .i64 d1] := by rw [hX]; (repeat (first | with_reducible assumption | with_reducible exact Blk.new _ _ _ | with_reducible refine Blk.drew ?_ | with_reducible refine Blk.alloc ?_ _ | with_reducible refine Blk.drewN ?_ _ | with_reducible apply Blk.setT0 | with_reducible apply Blk.setT1 | with_reducible refine Blk.far ?_ (by first | (simp; done) | omega | (simp; omega)) _ | with_reducible refine Blk.then_ ?_ (by with_reducible assumption)))
  have NB : Below w.heap.size w X2 := by rw [hX]; (repeat (first | with_reducible assumption | with_reducible exact Below.refl _ _ | with_reducible refine below_drewN ?_ _ | with_reducible refine Below.drew ?_ | with_reducible refine below_alloc ?_ _ | with_reducible refine Below.setCell ?_ (by first | omega | (simp; done) | (simp; omega)) _ | with_reducible refine below_then ?_ (by with_reducible assumption) | (refine below_then (a := World.drew _) ?_ (by with_reducible assumption))))
  clear hX ga HB
  have ga := na
  clear na
  have HB := NB
  clear NB
  have hz := Below.refl X2.heap.size X2
  rcases hS with ⟨hS, rfl⟩ | ⟨hS, rfl⟩
  · have hb5 := hb.2 rfl
    subst hb5
    clear hb
    have e1 : (S.toList == ([] : List UInt8)) = true := by simp [hS]
    clear hS
    have ca0 : X2.cell? ⟨ba, 0, none⟩ = some (.int .i64 n1) := (ga).cell 0
    have ca1 : X2.cell? ⟨ba, 1, none⟩ = some (.int .i64 d1) := (ga).cell 1
    go_upto_region 7 with ((go_at_call 15; (with_reducible refine (HV.out _).mono ?_); rintro e w1 ⟨rfl, hbw1⟩; have k1a0 : w1.cell? ⟨ba, 0, none⟩ = some (.int .i64 n1) := ((ga.then_ hbw1)).cell 0; have k1a1 : w1.cell? ⟨ba, 1, none⟩ = some (.int .i64 d1) := ((ga.then_ hbw1)).cell 1))
    clear HV
    clear ca0 ca1
    try clear k1a0 k1a1
    refine name_wp ?_
    intro X3 hX
    have na : Blk X3 ba 25 #[.int .i64 n1, .int .i64 d1] := by rw [hX]; (repeat (first | with_reducible assumption | with_reducible exact Blk.new _ _ _ | with_reducible refine Blk.drew ?_ | with_reducible refine Blk.alloc ?_ _ | with_reducible refine Blk.drewN ?_ _ | with_reducible apply Blk.setT0 | with_reducible apply Blk.setT1 | with_reducible refine Blk.far ?_ (by first | (simp; done) | omega | (simp; omega)) _ | with_reducible refine Blk.then_ ?_ (by with_reducible assumption)))
    have NB : Below w.heap.size w X3 := by rw [hX]; (repeat (first | with_reducible assumption | with_reducible exact Below.refl _ _ | with_reducible refine below_drewN ?_ _ | with_reducible refine Below.drew ?_ | with_reducible refine below_alloc ?_ _ | with_reducible refine Below.setCell ?_ (by first | omega | (simp; done) | (simp; omega)) _ | with_reducible refine below_then ?_ (by with_reducible assumption) | (refine below_then (a := World.drew _) ?_ (by with_reducible assumption))))
    clear hX ga HB
    have ga := na
    clear na
    have HB := NB
    clear NB
    have hz := Below.refl X3.heap.size X3
    have ca0 : X3.cell? ⟨ba, 0, none⟩ = some (.int .i64 n1) := (ga).cell 0
    have ca1 : X3.cell? ⟨ba, 1, none⟩ = some (.int .i64 d1) := (ga).cell 1
    go_upto_region 8 with ((go_at_call 23; (with_reducible refine (HP.out _ (by (repeat (first | with_reducible assumption | with_reducible exact Below.refl _ _ | with_reducible refine below_drewN ?_ _ | with_reducible refine Below.drew ?_ | with_reducible refine below_alloc ?_ _ | with_reducible refine Below.setCell ?_ (by first | omega | (simp; done) | (simp; omega)) _ | with_reducible refine below_then ?_ (by with_reducible assumption) | (refine below_then (a := World.drew _) ?_ (by with_reducible assumption)))))).mono ?_); rintro e w1 ⟨rfl, hbw1⟩))
    clear HP
    clear ca0 ca1
    refine name_wp ?_
    intro X4 hX
    have na : Blk X4 ba 25 #[.int .i64 n1, .int .i64 d1] := by rw [hX]; (repeat (first | with_reducible assumption | with_reducible exact Blk.new _ _ _ | with_reducible refine Blk.drew ?_ | with_reducible refine Blk.alloc ?_ _ | with_reducible refine Blk.drewN ?_ _ | with_reducible apply Blk.setT0 | with_reducible apply Blk.setT1 | with_reducible refine Blk.far ?_ (by first | (simp; done) | omega | (simp; omega)) _ | with_reducible refine Blk.then_ ?_ (by with_reducible assumption)))
    have nb : Blk X4 (w1.heap.size) 25 #[.int .i64 bN, .int .i64 bD] := by rw [hX]; exact Blk.new _ _ _
    have lb : w.heap.size ≤ w1.heap.size := (below_then HB hbw1).size
    have oab : ba < w1.heap.size := (ga.then_ hbw1).lt
    have NB : Below w.heap.size w X4 := by rw [hX]; (repeat (first | with_reducible assumption | with_reducible exact Below.refl _ _ | with_reducible refine below_drewN ?_ _ | with_reducible refine Below.drew ?_ | with_reducible refine below_alloc ?_ _ | with_reducible refine Below.setCell ?_ (by first | omega | (simp; done) | (simp; omega)) _ | with_reducible refine below_then ?_ (by with_reducible assumption) | (refine below_then (a := World.drew _) ?_ (by with_reducible assumption))))
    clear hX ga HB
    obtain ⟨bb, eb⟩ : ∃ b, w1.heap.size = b := ⟨_, rfl⟩
    rw [eb] at nb lb oab ⊢
    clear eb
    have ga := na
    clear na
    have gb := nb
    clear nb
    have HB := NB
    clear NB
    have hz := Below.refl X4.heap.size X4
    have ca0 : X4.cell? ⟨ba, 0, none⟩ = some (.int .i64 n1) := (ga).cell 0
    have ca1 : X4.cell? ⟨ba, 1, none⟩ = some (.int .i64 d1) := (ga).cell 1
    have cb0 : X4.cell? ⟨bb, 0, none⟩ = some (.int .i64 bN) := (gb).cell 0
    have cb1 : X4.cell? ⟨bb, 1, none⟩ = some (.int .i64 bD) := (gb).cell 1
    go_upto_region 10 with (fail)
    clear ca0 ca1 cb0 cb1
    refine name_wp ?_
    intro X5 hX
    have na : Blk X5 ba 25 #[.int .i64 n1, .int .i64 d1] := by rw [hX]; (repeat (first | with_reducible assumption | with_reducible exact Blk.new _ _ _ | with_reducible refine Blk.drew ?_ | with_reducible refine Blk.alloc ?_ _ | with_reducible refine Blk.drewN ?_ _ | with_reducible apply Blk.setT0 | with_reducible apply Blk.setT1 | with_reducible refine Blk.far ?_ (by first | (simp; done) | omega | (simp; omega)) _ | with_reducible refine Blk.then_ ?_ (by with_reducible assumption)))
    have nb : Blk X5 bb 25 #[.int .i64 bN, .int .i64 bD] := by rw [hX]; (repeat (first | with_reducible assumption | with_reducible exact Blk.new _ _ _ | with_reducible refine Blk.drew ?_ | with_reducible refine Blk.alloc ?_ _ | with_reducible refine Blk.drewN ?_ _ | with_reducible apply Blk.setT0 | with_reducible apply Blk.setT1 | with_reducible refine Blk.far ?_ (by first | (simp; done) | omega | (simp; omega)) _ | with_reducible refine Blk.then_ ?_ (by with_reducible assumption)))
    have NB : Below w.heap.size w X5 := by rw [hX]; (repeat (first | with_reducible assumption | with_reducible exact Below.refl _ _ | with_reducible refine below_drewN ?_ _ | with_reducible refine Below.drew ?_ | with_reducible refine below_alloc ?_ _ | with_reducible refine Below.setCell ?_ (by first | omega | (simp; done) | (simp; omega)) _ | with_reducible refine below_then ?_ (by with_reducible assumption) | (refine below_then (a := World.drew _) ?_ (by with_reducible assumption))))
    clear hX ga gb HB
    have ga := na
    clear na
    have gb := nb
    clear nb
    have HB := NB
    clear NB
    have hz := Below.refl X5.heap.size X5
    have ca0 : X5.cell? ⟨ba, 0, none⟩ = some (.int .i64 n1) := (ga).cell 0
    have ca1 : X5.cell? ⟨ba, 1, none⟩ = some (.int .i64 d1) := (ga).cell 1
    have cb0 : X5.cell? ⟨bb, 0, none⟩ = some (.int .i64 bN) := (gb).cell 0
    have cb1 : X5.cell? ⟨bb, 1, none⟩ = some (.int .i64 bD) := (gb).cell 1
    go_upto_region 11 with ((go_at_call 23; (with_reducible refine (HQ.out _ (by (repeat (first | with_reducible assumption | with_reducible exact Below.refl _ _ | with_reducible refine below_drewN ?_ _ | with_reducible refine Below.drew ?_ | with_reducible refine below_alloc ?_ _ | with_reducible refine Below.setCell ?_ (by first | omega | (simp; done) | (simp; omega)) _ | with_reducible refine below_then ?_ (by with_reducible assumption) | (refine below_then (a := World.drew _) ?_ (by with_reducible assumption)))))).mono ?_); rintro e w1 ⟨rfl, hbw1⟩))
    clear HQ
    clear ca0 ca1 cb0 cb1
    refine name_wp ?_
    intro X6 hX
    have na : Blk X6 ba 25 #[.int .i64 n1, .int .i64 d1] := by rw [hX]; (repeat (first | with_reducible assumption | with_reducible exact Blk.new _ _ _ | with_reducible refine Blk.drew ?_ | with_reducible refine Blk.alloc ?_ _ | with_reducible refine Blk.drewN ?_ _ | with_reducible apply Blk.setT0 | with_reducible apply Blk.setT1 | with_reducible refine Blk.far ?_ (by first | (simp; done) | omega | (simp; omega)) _ | with_reducible refine Blk.then_ ?_ (by with_reducible assumption)))
    have nb : Blk X6 bb 25 #[.int .i64 bN, .int .i64 bD] := by rw [hX]; (repeat (first | with_reducible assumption | with_reducible exact Blk.new _ _ _ | with_reducible refine Blk.drew ?_ | with_reducible refine Blk.alloc ?_ _ | with_reducible refine Blk.drewN ?_ _ | with_reducible apply Blk.setT0 | with_reducible apply Blk.setT1 | with_reducible refine Blk.far ?_ (by first | (simp; done) | omega | (simp; omega)) _ | with_reducible refine Blk.then_ ?_ (by with_reducible assumption)))
    have nc : Blk X6 (w1.heap.size) 25 #[.int .i64 cN, .int .i64 cD] := by rw [hX]; exact Blk.new _ _ _
    have lc : w.heap.size ≤ w1.heap.size := (below_then HB hbw1).size
    have oac : ba < w1.heap.size := (ga.then_ hbw1).lt
    have obc : bb < w1.heap.size := (gb.then_ hbw1).lt
    have NB : Below w.heap.size w X6 := by rw [hX]; (repeat (first | with_reducible assumption | with_reducible exact Below.refl _ _ | with_reducible refine below_drewN ?_ _ | with_reducible refine Below.drew ?_ | with_reducible refine below_alloc ?_ _ | with_reducible refine Below.setCell ?_ (by first | omega | (simp; done) | (simp; omega)) _ | with_reducible refine below_then ?_ (by with_reducible assumption) | (refine below_then (a := World.drew _) ?_ (by with_reducible assumption))))
    clear hX ga gb HB
    obtain ⟨bc, eb⟩ : ∃ b, w1.heap.size = b := ⟨_, rfl⟩
    rw [eb] at nc lc oac obc ⊢
    clear eb
    have ga := na
    clear na
    have gb := nb
    clear nb
    have gc := nc
    clear nc
    have HB := NB
    clear NB
    have hz := Below.refl X6.heap.size X6
    rcases hc with ⟨rfl, rfl, rfl⟩ | rfl
    · have heq := fun W => eqv_yes 0 0 W
      have ca0 : X6.cell? ⟨ba, 0, none⟩ = some (.int .i64 n1) := (ga).cell 0
      have ca1 : X6.cell? ⟨ba, 1, none⟩ = some (.int .i64 d1) := (ga).cell 1
      have cb0 : X6.cell? ⟨bb, 0, none⟩ = some (.int .i64 bN) := (gb).cell 0
      have cb1 : X6.cell? ⟨bb, 1, none⟩ = some (.int .i64 bD) := (gb).cell 1
      have cc0 : X6.cell? ⟨bc, 0, none⟩ = some (.int .i64 0) := (gc).cell 0
      have cc1 : X6.cell? ⟨bc, 1, none⟩ = some (.int .i64 0) := (gc).cell 1
      go_wp2
      go_ret
      exact ⟨rfl, by (repeat (first | with_reducible assumption | with_reducible exact Below.refl _ _ | with_reducible refine below_drewN ?_ _ | with_reducible refine Below.drew ?_ | with_reducible refine below_alloc ?_ _ | with_reducible refine Below.setCell ?_ (by first | omega | (simp; done) | (simp; omega)) _ | with_reducible refine below_then ?_ (by with_reducible assumption) | (refine below_then (a := World.drew _) ?_ (by with_reducible assumption))))⟩
    · have hS3 := hS2 rfl
      subst hS3
      have HVC := Lib.hid (fun W => HVc.out W rfl)
      have HTC := Lib.hid (fun W h => HTc.out W h rfl)
      clear HVc HTc hS2
      have ca0 : X6.cell? ⟨ba, 0, none⟩ = some (.int .i64 n1) := (ga).cell 0
      have ca1 : X6.cell? ⟨ba, 1, none⟩ = some (.int .i64 d1) := (ga).cell 1
      have cb0 : X6.cell? ⟨bb, 0, none⟩ = some (.int .i64 bN) := (gb).cell 0
      have cb1 : X6.cell? ⟨bb, 1, none⟩ = some (.int .i64 bD) := (gb).cell 1
      have cc0 : X6.cell? ⟨bc, 0, none⟩ = some (.int .i64 cN) := (gc).cell 0
      have cc1 : X6.cell? ⟨bc, 1, none⟩ = some (.int .i64 cD) := (gc).cell 1
      go_wp2_with (first | (go_at_call 15; (with_reducible refine (HVC.out _).mono ?_); rintro e w1 ⟨rfl, hbw1⟩; have k1a0 : w1.cell? ⟨ba, 0, none⟩ = some (.int .i64 n1) := ((ga.then_ hbw1)).cell 0; have k1a1 : w1.cell? ⟨ba, 1, none⟩ = some (.int .i64 d1) := ((ga.then_ hbw1)).cell 1; have k1b0 : w1.cell? ⟨bb, 0, none⟩ = some (.int .i64 bN) := ((gb.then_ hbw1)).cell 0; have k1b1 : w1.cell? ⟨bb, 1, none⟩ = some (.int .i64 bD) := ((gb.then_ hbw1)).cell 1; have k1c0 : w1.cell? ⟨bc, 0, none⟩ = some (.int .i64 cN) := ((gc.then_ hbw1)).cell 0; have k1c1 : w1.cell? ⟨bc, 1, none⟩ = some (.int .i64 cD) := ((gc.then_ hbw1)).cell 1) | (go_at_call 22; (with_reducible refine (HTC.out _ (by (repeat (first | with_reducible assumption | with_reducible exact Below.refl _ _ | with_reducible refine below_drewN ?_ _ | with_reducible refine Below.drew ?_ | with_reducible refine below_alloc ?_ _ | with_reducible refine Below.setCell ?_ (by first | omega | (simp; done) | (simp; omega)) _ | with_reducible refine below_then ?_ (by with_reducible assumption) | (refine below_then (a := World.drew _) ?_ (by with_reducible assumption)))))).mono ?_); rintro e w2 ⟨rfl, hbw2⟩; have k2a0 : w2.cell? ⟨ba, 0, none⟩ = some (.int .i64 n1) := (((ga.then_ hbw1).then_ hbw2)).cell 0; have k2a1 : w2.cell? ⟨ba, 1, none⟩ = some (.int .i64 d1) := (((ga.then_ hbw1).then_ hbw2)).cell 1; have k2b0 : w2.cell? ⟨bb, 0, none⟩ = some (.int .i64 bN) := (((gb.then_ hbw1).then_ hbw2)).cell 0; have k2b1 : w2.cell? ⟨bb, 1, none⟩ = some (.int .i64 bD) := (((gb.then_ hbw1).then_ hbw2)).cell 1; have k2c0 : w2.cell? ⟨bc, 0, none⟩ = some (.int .i64 cN) := (((gc.then_ hbw1).then_ hbw2)).cell 0; have k2c1 : w2.cell? ⟨bc, 1, none⟩ = some (.int .i64 cD) := (((gc.then_ hbw1).then_ hbw2)).cell 1))
      go_ret
      exact ⟨rfl, by (repeat (first | with_reducible assumption | with_reducible exact Below.refl _ _ | with_reducible refine below_drewN ?_ _ | with_reducible refine Below.drew ?_ | with_reducible refine below_alloc ?_ _ | with_reducible refine Below.setCell ?_ (by first | omega | (simp; done) | (simp; omega)) _ | with_reducible refine below_then ?_ (by with_reducible assumption) | (refine below_then (a := World.drew _) ?_ (by with_reducible assumption))))⟩
  · obtain ⟨hb1, hb2, hb3⟩ := hb.1 rfl
    subst hb1 hb2 hb3
    clear hb
    have e1 : (S.toList == ([] : List UInt8)) = false := by simpa using hS
    clear hS
    have heq := fun W => eqv_yes bN bD W
    have ca0 : X2.cell? ⟨ba, 0, none⟩ = some (.int .i64 bN) := (ga).cell 0
    have ca1 : X2.cell? ⟨ba, 1, none⟩ = some (.int .i64 bD) := (ga).cell 1
    go_upto_region 7 with ((go_at_call 15; (with_reducible refine (HV.out _).mono ?_); rintro e w1 ⟨rfl, hbw1⟩; have k1a0 : w1.cell? ⟨ba, 0, none⟩ = some (.int .i64 bN) := ((ga.then_ hbw1)).cell 0; have k1a1 : w1.cell? ⟨ba, 1, none⟩ = some (.int .i64 bD) := ((ga.then_ hbw1)).cell 1))
    clear HV
    clear ca0 ca1
    try clear k1a0 k1a1
    refine name_wp ?_
    intro X3 hX
    have na : Blk X3 ba 25 #[.int .i64 bN, .int .i64 bD] := by rw [hX]; (repeat (first | with_reducible assumption | with_reducible exact Blk.new _ _ _ | with_reducible refine Blk.drew ?_ | with_reducible refine Blk.alloc ?_ _ | with_reducible refine Blk.drewN ?_ _ | with_reducible apply Blk.setT0 | with_reducible apply Blk.setT1 | with_reducible refine Blk.far ?_ (by first | (simp; done) | omega | (simp; omega)) _ | with_reducible refine Blk.then_ ?_ (by with_reducible assumption)))
    have NB : Below w.heap.size w X3 := by rw [hX]; (repeat (first | with_reducible assumption | with_reducible exact Below.refl _ _ | with_reducible refine below_drewN ?_ _ | with_reducible refine Below.drew ?_ | with_reducible refine below_alloc ?_ _ | with_reducible refine Below.setCell ?_ (by first | omega | (simp; done) | (simp; omega)) _ | with_reducible refine below_then ?_ (by with_reducible assumption) | (refine below_then (a := World.drew _) ?_ (by with_reducible assumption))))
    clear hX ga HB
    have ga := na
    clear na
    have HB := NB
    clear NB
    have hz := Below.refl X3.heap.size X3
    have ca0 : X3.cell? ⟨ba, 0, none⟩ = some (.int .i64 bN) := (ga).cell 0
    have ca1 : X3.cell? ⟨ba, 1, none⟩ = some (.int .i64 bD) := (ga).cell 1
    go_upto_region 8 with ((go_at_call 23; (with_reducible refine (HP.out _ (by (repeat (first | with_reducible assumption | with_reducible exact Below.refl _ _ | with_reducible refine below_drewN ?_ _ | with_reducible refine Below.drew ?_ | with_reducible refine below_alloc ?_ _ | with_reducible refine Below.setCell ?_ (by first | omega | (simp; done) | (simp; omega)) _ | with_reducible refine below_then ?_ (by with_reducible assumption) | (refine below_then (a := World.drew _) ?_ (by with_reducible assumption)))))).mono ?_); rintro e w1 ⟨rfl, hbw1⟩))
    clear HP
    clear ca0 ca1
    refine name_wp ?_
    intro X4 hX
    have na : Blk X4 ba 25 #[.int .i64 bN, .int .i64 bD] := by rw [hX]; (repeat (first | with_reducible assumption | with_reducible exact Blk.new _ _ _ | with_reducible refine Blk.drew ?_ | with_reducible refine Blk.alloc ?_ _ | with_reducible refine Blk.drewN ?_ _ | with_reducible apply Blk.setT0 | with_reducible apply Blk.setT1 | with_reducible refine Blk.far ?_ (by first | (simp; done) | omega | (simp; omega)) _ | with_reducible refine Blk.then_ ?_ (by with_reducible assumption)))
    have nb : Blk X4 (w1.heap.size) 25 #[.int .i64 bN, .int .i64 bD] := by rw [hX]; exact Blk.new _ _ _
    have lb : w.heap.size ≤ w1.heap.size := (below_then HB hbw1).size
    have oab : ba < w1.heap.size := (ga.then_ hbw1).lt
    have NB : Below w.heap.size w X4 := by rw [hX]; (repeat (first | with_reducible assumption | with_reducible exact Below.refl _ _ | with_reducible refine below_drewN ?_ _ | with_reducible refine Below.drew ?_ | with_reducible refine below_alloc ?_ _ | with_reducible refine Below.setCell ?_ (by first | omega | (simp; done) | (simp; omega)) _ | with_reducible refine below_then ?_ (by with_reducible assumption) | (refine below_then (a := World.drew _) ?_ (by with_reducible assumption))))
    clear hX ga HB
    obtain ⟨bb, eb⟩ : ∃ b, w1.heap.size = b := ⟨_, rfl⟩
    rw [eb] at nb lb oab ⊢
    clear eb
    have ga := na
    clear na
    have gb := nb
    clear nb
    have HB := NB
    clear NB
    have hz := Below.refl X4.heap.size X4
    have ca0 : X4.cell? ⟨ba, 0, none⟩ = some (.int .i64 bN) := (ga).cell 0
    have ca1 : X4.cell? ⟨ba, 1, none⟩ = some (.int .i64 bD) := (ga).cell 1
    have cb0 : X4.cell? ⟨bb, 0, none⟩ = some (.int .i64 bN) := (gb).cell 0
    have cb1 : X4.cell? ⟨bb, 1, none⟩ = some (.int .i64 bD) := (gb).cell 1
    go_upto_region 10 with (fail)
    clear ca0 ca1 cb0 cb1
    refine name_wp ?_
    intro X5 hX
    have na : Blk X5 ba 25 #[.int .i64 bN, .int .i64 bD] := by rw [hX]; (repeat (first | with_reducible assumption | with_reducible exact Blk.new _ _ _ | with_reducible refine Blk.drew ?_ | with_reducible refine Blk.alloc ?_ _ | with_reducible refine Blk.drewN ?_ _ | with_reducible apply Blk.setT0 | with_reducible apply Blk.setT1 | with_reducible refine Blk.far ?_ (by first | (simp; done) | omega | (simp; omega)) _ | with_reducible refine Blk.then_ ?_ (by with_reducible assumption)))
    have nb : Blk X5 bb 25 #[.int .i64 bN, .int .i64 bD] := by rw [hX]; (repeat (first | with_reducible assumption | with_reducible exact Blk.new _ _ _ | with_reducible refine Blk.drew ?_ | with_reducible refine Blk.alloc ?_ _ | with_reducible refine Blk.drewN ?_ _ | with_reducible apply Blk.setT0 | with_reducible apply Blk.setT1 | with_reducible refine Blk.far ?_ (by first | (simp; done) | omega | (simp; omega)) _ | with_reducible refine Blk.then_ ?_ (by with_reducible assumption)))
    have NB : Below w.heap.size w X5 := by rw [hX]; (repeat (first | with_reducible assumption | with_reducible exact Below.refl _ _ | with_reducible refine below_drewN ?_ _ | with_reducible refine Below.drew ?_ | with_reducible refine below_alloc ?_ _ | with_reducible refine Below.setCell ?_ (by first | omega | (simp; done) | (simp; omega)) _ | with_reducible refine below_then ?_ (by with_reducible assumption) | (refine below_then (a := World.drew _) ?_ (by with_reducible assumption))))
    clear hX ga gb HB
    have ga := na
    clear na
    have gb := nb
    clear nb
    have HB := NB
    clear NB
    have hz := Below.refl X5.heap.size X5
    have ca0 : X5.cell? ⟨ba, 0, none⟩ = some (.int .i64 bN) := (ga).cell 0
    have ca1 : X5.cell? ⟨ba, 1, none⟩ = some (.int .i64 bD) := (ga).cell 1
    have cb0 : X5.cell? ⟨bb, 0, none⟩ = some (.int .i64 bN) := (gb).cell 0
    have cb1 : X5.cell? ⟨bb, 1, none⟩ = some (.int .i64 bD) := (gb).cell 1
    go_upto_region 11 with ((go_at_call 23; (with_reducible refine (HQ.out _ (by (repeat (first | with_reducible assumption | with_reducible exact Below.refl _ _ | with_reducible refine below_drewN ?_ _ | with_reducible refine Below.drew ?_ | with_reducible refine below_alloc ?_ _ | with_reducible refine Below.setCell ?_ (by first | omega | (simp; done) | (simp; omega)) _ | with_reducible refine below_then ?_ (by with_reducible assumption) | (refine below_then (a := World.drew _) ?_ (by with_reducible assumption)))))).mono ?_); rintro e w1 ⟨rfl, hbw1⟩))
    clear HQ
    clear ca0 ca1 cb0 cb1
    refine name_wp ?_
    intro X6 hX
    have na : Blk X6 ba 25 #[.int .i64 bN, .int .i64 bD] := by rw [hX]; (repeat (first | with_reducible assumption | with_reducible exact Blk.new _ _ _ | with_reducible refine Blk.drew ?_ | with_reducible refine Blk.alloc ?_ _ | with_reducible refine Blk.drewN ?_ _ | with_reducible apply Blk.setT0 | with_reducible apply Blk.setT1 | with_reducible refine Blk.far ?_ (by first | (simp; done) | omega | (simp; omega)) _ | with_reducible refine Blk.then_ ?_ (by with_reducible assumption)))
    have nb : Blk X6 bb 25 #[.int .i64 bN, .int .i64 bD] := by rw [hX]; (repeat (first | with_reducible assumption | with_reducible exact Blk.new _ _ _ | with_reducible refine Blk.drew ?_ | with_reducible refine Blk.alloc ?_ _ | with_reducible refine Blk.drewN ?_ _ | with_reducible apply Blk.setT0 | with_reducible apply Blk.setT1 | with_reducible refine Blk.far ?_ (by first | (simp; done) | omega | (simp; omega)) _ | with_reducible refine Blk.then_ ?_ (by with_reducible assumption)))
    have nc : Blk X6 (w1.heap.size) 25 #[.int .i64 cN, .int .i64 cD] := by rw [hX]; exact Blk.new _ _ _
    have lc : w.heap.size ≤ w1.heap.size := (below_then HB hbw1).size
    have oac : ba < w1.heap.size := (ga.then_ hbw1).lt
    have obc : bb < w1.heap.size := (gb.then_ hbw1).lt
    have NB : Below w.heap.size w X6 := by rw [hX]; (repeat (first | with_reducible assumption | with_reducible exact Below.refl _ _ | with_reducible refine below_drewN ?_ _ | with_reducible refine Below.drew ?_ | with_reducible refine below_alloc ?_ _ | with_reducible refine Below.setCell ?_ (by first | omega | (simp; done) | (simp; omega)) _ | with_reducible refine below_then ?_ (by with_reducible assumption) | (refine below_then (a := World.drew _) ?_ (by with_reducible assumption))))
    clear hX ga gb HB
    obtain ⟨bc, eb⟩ : ∃ b, w1.heap.size = b := ⟨_, rfl⟩
    rw [eb] at nc lc oac obc ⊢
    clear eb
    have ga := na
    clear na
    have gb := nb
    clear nb
    have gc := nc
    clear nc
    have HB := NB
    clear NB
    have hz := Below.refl X6.heap.size X6
    clear heq
    rcases hc with ⟨rfl, rfl, rfl⟩ | rfl
    · have heq := fun W => eqv_yes 0 0 W
      have ca0 : X6.cell? ⟨ba, 0, none⟩ = some (.int .i64 bN) := (ga).cell 0
      have ca1 : X6.cell? ⟨ba, 1, none⟩ = some (.int .i64 bD) := (ga).cell 1
      have cb0 : X6.cell? ⟨bb, 0, none⟩ = some (.int .i64 bN) := (gb).cell 0
      have cb1 : X6.cell? ⟨bb, 1, none⟩ = some (.int .i64 bD) := (gb).cell 1
      have cc0 : X6.cell? ⟨bc, 0, none⟩ = some (.int .i64 0) := (gc).cell 0
      have cc1 : X6.cell? ⟨bc, 1, none⟩ = some (.int .i64 0) := (gc).cell 1
      go_wp2
      go_ret
      exact ⟨rfl, by (repeat (first | with_reducible assumption | with_reducible exact Below.refl _ _ | with_reducible refine below_drewN ?_ _ | with_reducible refine Below.drew ?_ | with_reducible refine below_alloc ?_ _ | with_reducible refine Below.setCell ?_ (by first | omega | (simp; done) | (simp; omega)) _ | with_reducible refine below_then ?_ (by with_reducible assumption) | (refine below_then (a := World.drew _) ?_ (by with_reducible assumption))))⟩
    · have hS3 := hS2 rfl
      subst hS3
      have HVC := Lib.hid (fun W => HVc.out W rfl)
      have HTC := Lib.hid (fun W h => HTc.out W h rfl)
      clear HVc HTc hS2
      have ca0 : X6.cell? ⟨ba, 0, none⟩ = some (.int .i64 bN) := (ga).cell 0
      have ca1 : X6.cell? ⟨ba, 1, none⟩ = some (.int .i64 bD) := (ga).cell 1
      have cb0 : X6.cell? ⟨bb, 0, none⟩ = some (.int .i64 bN) := (gb).cell 0
      have cb1 : X6.cell? ⟨bb, 1, none⟩ = some (.int .i64 bD) := (gb).cell 1
      have cc0 : X6.cell? ⟨bc, 0, none⟩ = some (.int .i64 cN) := (gc).cell 0
      have cc1 : X6.cell? ⟨bc, 1, none⟩ = some (.int .i64 cD) := (gc).cell 1
      go_wp2_with (first | (go_at_call 15; (with_reducible refine (HVC.out _).mono ?_); rintro e w1 ⟨rfl, hbw1⟩; have k1a0 : w1.cell? ⟨ba, 0, none⟩ = some (.int .i64 bN) := ((ga.then_ hbw1)).cell 0; have k1a1 : w1.cell? ⟨ba, 1, none⟩ = some (.int .i64 bD) := ((ga.then_ hbw1)).cell 1; have k1b0 : w1.cell? ⟨bb, 0, none⟩ = some (.int .i64 bN) := ((gb.then_ hbw1)).cell 0; have k1b1 : w1.cell? ⟨bb, 1, none⟩ = some (.int .i64 bD) := ((gb.then_ hbw1)).cell 1; have k1c0 : w1.cell? ⟨bc, 0, none⟩ = some (.int .i64 cN) := ((gc.then_ hbw1)).cell 0; have k1c1 : w1.cell? ⟨bc, 1, none⟩ = some (.int .i64 cD) := ((gc.then_ hbw1)).cell 1) | (go_at_call 22; (with_reducible refine (HTC.out _ (by (repeat (first | with_reducible assumption | with_reducible exact Below.refl _ _ | with_reducible refine below_drewN ?_ _ | with_reducible refine Below.drew ?_ | with_reducible refine below_alloc ?_ _ | with_reducible refine Below.setCell ?_ (by first | omega | (simp; done) | (simp; omega)) _ | with_reducible refine below_then ?_ (by with_reducible assumption) | (refine below_then (a := World.drew _) ?_ (by with_reducible assumption)))))).mono ?_); rintro e w2 ⟨rfl, hbw2⟩; have k2a0 : w2.cell? ⟨ba, 0, none⟩ = some (.int .i64 bN) := (((ga.then_ hbw1).then_ hbw2)).cell 0; have k2a1 : w2.cell? ⟨ba, 1, none⟩ = some (.int .i64 bD) := (((ga.then_ hbw1).then_ hbw2)).cell 1; have k2b0 : w2.cell? ⟨bb, 0, none⟩ = some (.int .i64 bN) := (((gb.then_ hbw1).then_ hbw2)).cell 0; have k2b1 : w2.cell? ⟨bb, 1, none⟩ = some (.int .i64 bD) := (((gb.then_ hbw1).then_ hbw2)).cell 1; have k2c0 : w2.cell? ⟨bc, 0, none⟩ = some (.int .i64 cN) := (((gc.then_ hbw1).then_ hbw2)).cell 0; have k2c1 : w2.cell? ⟨bc, 1, none⟩ = some (.int .i64 cD) := (((gc.then_ hbw1).then_ hbw2)).cell 1))
      go_ret
      exact ⟨rfl, by (repeat (first | with_reducible assumption | with_reducible exact Below.refl _ _ | with_reducible refine below_drewN ?_ _ | with_reducible refine Below.drew ?_ | with_reducible refine below_alloc ?_ _ | with_reducible refine Below.setCell ?_ (by first | omega | (simp; done) | (simp; omega)) _ | with_reducible refine below_then ?_ (by with_reducible assumption) | (refine below_then (a := World.drew _) ?_ (by with_reducible assumption))))⟩
end Go.Proofs.YtbkekabhdpoddaaDoor
