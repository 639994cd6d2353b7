/- The walk of RatioMatchesReference. -/
import Derived.Test.YtbkekabhdpoddaaDoorRd0
namespace Go.Proofs.YtbkekabhdpoddaaDoor
open Go.RowKit

set_option maxRecDepth 100000 in
set_option maxHeartbeats 6400000 in
theorem matches_long (n1 d1 n2 d2 xn xd xp : Int) (t : ByteArray) (w : World)
    (HH : Hid (∀ W, Below w.heap.size w W → Calls Tryd.prog 11 #[] W fun e w' => e = .returned (.bool true) ∧ Below W.heap.size W w')) (ht : (1000 : Int) < t.size) :
    Calls Tryd.prog 8 #[.agg #[.int .i64 n1, .int .i64 d1], .agg #[.int .i64 n2, .int .i64 d2], .agg #[.int .i64 xn, .int .i64 xd, .int .i64 xp, .string t]] w fun e w' => e = .returned (.bool true) ∧ Below w.heap.size w w' := by
  go_enter Tryd.func8, Tryd.ntmps8
  go_upto_region 1 with (fail)
  refine name_wp ?_
  intro X0 hX
  have ga : Blk X0 (w.heap.size) 25 #[.int .i64 n1, .int .i64 d1] := by rw [hX]; exact (((blk_at (by simp))).alloc _).alloc _
  have gb : Blk X0 (w.heap.size + 1) 25 #[.int .i64 n2, .int .i64 d2] := by rw [hX]; exact ((blk_at (by simp))).alloc _
  have gr : Blk X0 (w.heap.size + 2) 45 #[.int .i64 xn, .int .i64 xd, .int .i64 xp, .string t] := by rw [hX]; exact (blk_at (by simp))
  have HB : Below w.heap.size w X0 := by rw [hX]; (repeat (first | with_reducible assumption | with_reducible exact Below.refl _ _ | with_reducible refine below_drewN ?_ _ | with_reducible refine Below.drew ?_ | with_reducible refine below_alloc ?_ _ | with_reducible refine Below.setCell ?_ (by first | omega | (simp; done) | (simp; omega)) _ | with_reducible refine below_then ?_ (by with_reducible assumption) | (refine below_then (a := World.drew _) ?_ (by with_reducible assumption))))
  clear hX
  obtain ⟨br, eb⟩ : ∃ b, w.heap.size + 2 = b := ⟨_, rfl⟩
  rw [eb] at gr ⊢
  clear eb
  obtain ⟨bb, eb⟩ : ∃ b, w.heap.size + 1 = b := ⟨_, rfl⟩
  rw [eb] at gb ⊢
  clear eb
  obtain ⟨ba, eb⟩ : ∃ b, w.heap.size = b := ⟨_, rfl⟩
  rw [eb] at ga ⊢
  clear eb
  have hz := Below.refl X0.heap.size X0
  go_upto_region 2 with ((go_at_call 11; (with_reducible refine (HH.out _ HB).mono ?_); rintro e w1 ⟨rfl, hbw1⟩))
  refine name_wp ?_
  intro X1 hX
  have na : Blk X1 ba 25 #[.int .i64 n1, .int .i64 d1] := by rw [hX]; (repeat (first | with_reducible assumption | with_reducible exact Blk.new _ _ _ | with_reducible refine Blk.drew ?_ | with_reducible refine Blk.alloc ?_ _ | with_reducible refine Blk.drewN ?_ _ | with_reducible apply Blk.setT0 | with_reducible apply Blk.setT1 | with_reducible refine Blk.far ?_ (by first | (simp; done) | omega | (simp; omega)) _ | with_reducible refine Blk.then_ ?_ (by with_reducible assumption)))
  have nb : Blk X1 bb 25 #[.int .i64 n2, .int .i64 d2] := by rw [hX]; (repeat (first | with_reducible assumption | with_reducible exact Blk.new _ _ _ | with_reducible refine Blk.drew ?_ | with_reducible refine Blk.alloc ?_ _ | with_reducible refine Blk.drewN ?_ _ | with_reducible apply Blk.setT0 | with_reducible apply Blk.setT1 | with_reducible refine Blk.far ?_ (by first | (simp; done) | omega | (simp; omega)) _ | with_reducible refine Blk.then_ ?_ (by with_reducible assumption)))
  have nr : Blk X1 br 45 #[.int .i64 xn, .int .i64 xd, .int .i64 xp, .string t] := by rw [hX]; (repeat (first | with_reducible assumption | with_reducible exact Blk.new _ _ _ | with_reducible refine Blk.drew ?_ | with_reducible refine Blk.alloc ?_ _ | with_reducible refine Blk.drewN ?_ _ | with_reducible apply Blk.setT0 | with_reducible apply Blk.setT1 | with_reducible refine Blk.far ?_ (by first | (simp; done) | omega | (simp; omega)) _ | with_reducible refine Blk.then_ ?_ (by with_reducible assumption)))
  have NB : Below w.heap.size w X1 := by rw [hX]; (repeat (first | with_reducible assumption | with_reducible exact Below.refl _ _ | with_reducible refine below_drewN ?_ _ | with_reducible refine Below.drew ?_ | with_reducible refine below_alloc ?_ _ | with_reducible refine Below.setCell ?_ (by first | omega | (simp; done) | (simp; omega)) _ | with_reducible refine below_then ?_ (by with_reducible assumption) | (refine below_then (a := World.drew _) ?_ (by with_reducible assumption))))
  clear hX ga gb gr HB
  have ga := na
  clear na
  have gb := nb
  clear nb
  have gr := nr
  clear nr
  have HB := NB
  clear NB
  have hz := Below.refl X1.heap.size X1
  have t1 := decide_eq_true ht
  clear ht
  have cr0 : X1.cell? ⟨br, 0, none⟩ = some (.int .i64 xn) := (gr).cell 0
  have cr1 : X1.cell? ⟨br, 1, none⟩ = some (.int .i64 xd) := (gr).cell 1
  have cr2 : X1.cell? ⟨br, 2, none⟩ = some (.int .i64 xp) := (gr).cell 2
  have cr3 : X1.cell? ⟨br, 3, none⟩ = some (.string t) := (gr).cell 3
  go_wp2
  go_ret
  exact ⟨rfl, by (repeat (first | with_reducible assumption | with_reducible exact Below.refl _ _ | with_reducible refine below_drewN ?_ _ | with_reducible refine Below.drew ?_ | with_reducible refine below_alloc ?_ _ | with_reducible refine Below.setCell ?_ (by first | omega | (simp; done) | (simp; omega)) _ | with_reducible refine below_then ?_ (by with_reducible assumption) | (refine below_then (a := World.drew _) ?_ (by with_reducible assumption))))⟩
set_option maxRecDepth 100000 in
set_option maxHeartbeats 6400000 in
theorem matches_key (n1 d1 n2 d2 xn xd xp k f mN mD mE pN pD pE xN xD xE sN sD sE eN eD eE uN uD uE zN zD zE : Int) (t TB : ByteArray) (v : Bool) (w : World)
    (HH : Hid (∀ W, Below w.heap.size w W → Calls Tryd.prog 11 #[] W fun e w' => e = .returned (.bool true) ∧ Below W.heap.size W w'))
    (ht : ¬ (1000 : Int) < t.size)
    (M1 : Hid (∀ W, Calls Tryd.prog 13 #[.int .i64 xn, .int .i64 xd] W fun e w' => e = .returned (.tuple #[.agg #[.int .i64 mN, .int .i64 mD], .int .i64 mE]) ∧ Below W.heap.size W w')) (M2 : Hid (∀ W, Calls Tryd.prog 24 #[.int .i64 xn, .int .i64 xd] W fun e w' => e = .returned (.tuple #[.agg #[.int .i64 mN, .int .i64 mD], .int .i64 mE]) ∧ Below W.heap.size W w'))
    (P1 : Hid (∀ W, Below w.heap.size w W → Calls Tryd.prog 23 #[.string t] W fun e w' => e = .returned (.tuple #[.agg #[.int .i64 pN, .int .i64 pD], .int .i64 pE]) ∧ Below W.heap.size W w')) (P2 : Hid (∀ W, Calls Tryd.prog 25 #[.string t] W fun e w' => e = .returned (.tuple #[.agg #[.int .i64 pN, .int .i64 pD], .int .i64 pE]) ∧ Below W.heap.size W w'))
    (R1 : Hid (∀ W, Calls Tryd.prog 21 #[.agg #[.int .i64 n1, .int .i64 d1], .int .i64 xp] W fun e w' => e = .returned (.tuple #[.agg #[.int .i64 xN, .int .i64 xD], .int .i64 xE]) ∧ Below W.heap.size W w')) (R2 : Hid (∀ W, Calls Tryd.prog 26 #[.agg #[.int .i64 n1, .int .i64 d1], .int .i64 xp] W fun e w' => e = .returned (.tuple #[.agg #[.int .i64 xN, .int .i64 xD], .int .i64 xE]) ∧ Below W.heap.size W w'))
    (A1 : Hid (∀ W, Calls Tryd.prog 17 #[.agg #[.int .i64 n1, .int .i64 d1], .agg #[.int .i64 n2, .int .i64 d2]] W fun e w' => e = .returned (.tuple #[.agg #[.int .i64 sN, .int .i64 sD], .int .i64 sE]) ∧ Below W.heap.size W w')) (A2 : Hid (∀ W, Calls Tryd.prog 27 #[.agg #[.int .i64 n1, .int .i64 d1], .agg #[.int .i64 n2, .int .i64 d2]] W fun e w' => e = .returned (.tuple #[.agg #[.int .i64 sN, .int .i64 sD], .int .i64 sE]) ∧ Below W.heap.size W w'))
    (S1 : Hid (∀ W, Calls Tryd.prog 28 #[.agg #[.int .i64 n1, .int .i64 d1], .agg #[.int .i64 n2, .int .i64 d2]] W fun e w' => e = .returned (.tuple #[.agg #[.int .i64 eN, .int .i64 eD], .int .i64 eE]) ∧ Below W.heap.size W w')) (S2 : Hid (∀ W, Calls Tryd.prog 29 #[.agg #[.int .i64 n1, .int .i64 d1], .agg #[.int .i64 n2, .int .i64 d2]] W fun e w' => e = .returned (.tuple #[.agg #[.int .i64 eN, .int .i64 eD], .int .i64 eE]) ∧ Below W.heap.size W w'))
    (U1 : Hid (∀ W, Calls Tryd.prog 18 #[.agg #[.int .i64 n1, .int .i64 d1], .agg #[.int .i64 n2, .int .i64 d2]] W fun e w' => e = .returned (.tuple #[.agg #[.int .i64 uN, .int .i64 uD], .int .i64 uE]) ∧ Below W.heap.size W w')) (U2 : Hid (∀ W, Calls Tryd.prog 30 #[.agg #[.int .i64 n1, .int .i64 d1], .agg #[.int .i64 n2, .int .i64 d2]] W fun e w' => e = .returned (.tuple #[.agg #[.int .i64 uN, .int .i64 uD], .int .i64 uE]) ∧ Below W.heap.size W w'))
    (D1 : Hid (∀ W, Calls Tryd.prog 31 #[.agg #[.int .i64 n1, .int .i64 d1], .agg #[.int .i64 n2, .int .i64 d2]] W fun e w' => e = .returned (.tuple #[.agg #[.int .i64 zN, .int .i64 zD], .int .i64 zE]) ∧ Below W.heap.size W w')) (D2 : Hid (∀ W, Calls Tryd.prog 32 #[.agg #[.int .i64 n1, .int .i64 d1], .agg #[.int .i64 n2, .int .i64 d2]] W fun e w' => e = .returned (.tuple #[.agg #[.int .i64 zN, .int .i64 zD], .int .i64 zE]) ∧ Below W.heap.size W w'))
    (V1 : Hid (∀ W, Calls Tryd.prog 15 #[.agg #[.int .i64 n1, .int .i64 d1]] W fun e w' => e = .returned (.bool v) ∧ Below W.heap.size W w')) (V2 : Hid (∀ W, Calls Tryd.prog 33 #[.agg #[.int .i64 n1, .int .i64 d1]] W fun e w' => e = .returned (.bool v) ∧ Below W.heap.size W w'))
    (C1 : Hid (∀ W, Calls Tryd.prog 16 #[.agg #[.int .i64 n1, .int .i64 d1], .agg #[.int .i64 n2, .int .i64 d2]] W fun e w' => e = .returned (.int .i64 k) ∧ Below W.heap.size W w')) (C2 : Hid (∀ W, Calls Tryd.prog 34 #[.agg #[.int .i64 n1, .int .i64 d1], .agg #[.int .i64 n2, .int .i64 d2]] W fun e w' => e = .returned (.int .i64 k) ∧ Below W.heap.size W w'))
    (F1 : Hid (∀ W, Calls Tryd.prog 19 #[.agg #[.int .i64 n1, .int .i64 d1]] W fun e w' => e = .returned (.int .i64 f) ∧ Below W.heap.size W w')) (F2 : Hid (∀ W, Calls Tryd.prog 35 #[.agg #[.int .i64 n1, .int .i64 d1]] W fun e w' => e = .returned (.int .i64 f) ∧ Below W.heap.size W w'))
    (T1 : Hid (∀ W, Below w.heap.size w W → Calls Tryd.prog 22 #[.agg #[.int .i64 n1, .int .i64 d1]] W fun e w' => e = .returned (.string TB) ∧ Below W.heap.size W w')) (T2 : Hid (∀ W, Calls Tryd.prog 36 #[.agg #[.int .i64 n1, .int .i64 d1]] W fun e w' => e = .returned (.string TB) ∧ Below W.heap.size W w')) :
    Calls Tryd.prog 8 #[.agg #[.int .i64 n1, .int .i64 d1], .agg #[.int .i64 n2, .int .i64 d2], .agg #[.int .i64 xn, .int .i64 xd, .int .i64 xp, .string t]] w fun e w' => e = .returned (.bool true) ∧ Below w.heap.size w w' := by
  go_enter Tryd.func8, Tryd.ntmps8
  go_upto_region 1 with (fail)
  refine name_wp ?_
  intro X0 hX
  have ga : Blk X0 (w.heap.size) 25 #[.int .i64 n1, .int .i64 d1] := by rw [hX]; exact (((blk_at (by simp))).alloc _).alloc _
  have gb : Blk X0 (w.heap.size + 1) 25 #[.int .i64 n2, .int .i64 d2] := by rw [hX]; exact ((blk_at (by simp))).alloc _
  have gr : Blk X0 (w.heap.size + 2) 45 #[.int .i64 xn, .int .i64 xd, .int .i64 xp, .string t] := by rw [hX]; exact (blk_at (by simp))
  have HB : Below w.heap.size w X0 := by rw [hX]; (repeat (first | with_reducible assumption | with_reducible exact Below.refl _ _ | with_reducible refine below_drewN ?_ _ | with_reducible refine Below.drew ?_ | with_reducible refine below_alloc ?_ _ | with_reducible refine Below.setCell ?_ (by first | omega | (simp; done) | (simp; omega)) _ | with_reducible refine below_then ?_ (by with_reducible assumption) | (refine below_then (a := World.drew _) ?_ (by with_reducible assumption))))
  clear hX
  obtain ⟨br, eb⟩ : ∃ b, w.heap.size + 2 = b := ⟨_, rfl⟩
  rw [eb] at gr ⊢
  clear eb
  obtain ⟨bb, eb⟩ : ∃ b, w.heap.size + 1 = b := ⟨_, rfl⟩
  rw [eb] at gb ⊢
  clear eb
  obtain ⟨ba, eb⟩ : ∃ b, w.heap.size = b := ⟨_, rfl⟩
  rw [eb] at ga ⊢
  clear eb
  have hz := Below.refl X0.heap.size X0
  go_upto_region 2 with ((go_at_call 11; (with_reducible refine (HH.out _ HB).mono ?_); rintro e w1 ⟨rfl, hbw1⟩))
  refine name_wp ?_
  intro X1 hX
  have na : Blk X1 ba 25 #[.int .i64 n1, .int .i64 d1] := by rw [hX]; (repeat (first | with_reducible assumption | with_reducible exact Blk.new _ _ _ | with_reducible refine Blk.drew ?_ | with_reducible refine Blk.alloc ?_ _ | with_reducible refine Blk.drewN ?_ _ | with_reducible apply Blk.setT0 | with_reducible apply Blk.setT1 | with_reducible refine Blk.far ?_ (by first | (simp; done) | omega | (simp; omega)) _ | with_reducible refine Blk.then_ ?_ (by with_reducible assumption)))
  have nb : Blk X1 bb 25 #[.int .i64 n2, .int .i64 d2] := by rw [hX]; (repeat (first | with_reducible assumption | with_reducible exact Blk.new _ _ _ | with_reducible refine Blk.drew ?_ | with_reducible refine Blk.alloc ?_ _ | with_reducible refine Blk.drewN ?_ _ | with_reducible apply Blk.setT0 | with_reducible apply Blk.setT1 | with_reducible refine Blk.far ?_ (by first | (simp; done) | omega | (simp; omega)) _ | with_reducible refine Blk.then_ ?_ (by with_reducible assumption)))
  have nr : Blk X1 br 45 #[.int .i64 xn, .int .i64 xd, .int .i64 xp, .string t] := by rw [hX]; (repeat (first | with_reducible assumption | with_reducible exact Blk.new _ _ _ | with_reducible refine Blk.drew ?_ | with_reducible refine Blk.alloc ?_ _ | with_reducible refine Blk.drewN ?_ _ | with_reducible apply Blk.setT0 | with_reducible apply Blk.setT1 | with_reducible refine Blk.far ?_ (by first | (simp; done) | omega | (simp; omega)) _ | with_reducible refine Blk.then_ ?_ (by with_reducible assumption)))
  have NB : Below w.heap.size w X1 := by rw [hX]; (repeat (first | with_reducible assumption | with_reducible exact Below.refl _ _ | with_reducible refine below_drewN ?_ _ | with_reducible refine Below.drew ?_ | with_reducible refine below_alloc ?_ _ | with_reducible refine Below.setCell ?_ (by first | omega | (simp; done) | (simp; omega)) _ | with_reducible refine below_then ?_ (by with_reducible assumption) | (refine below_then (a := World.drew _) ?_ (by with_reducible assumption))))
  clear hX ga gb gr HB
  have ga := na
  clear na
  have gb := nb
  clear nb
  have gr := nr
  clear nr
  have HB := NB
  clear NB
  have hz := Below.refl X1.heap.size X1
  have t1 := decide_eq_false (show ¬ (1000 : Int) < t.size by omega)
  clear ht
  have cr0 : X1.cell? ⟨br, 0, none⟩ = some (.int .i64 xn) := (gr).cell 0
  have cr1 : X1.cell? ⟨br, 1, none⟩ = some (.int .i64 xd) := (gr).cell 1
  have cr2 : X1.cell? ⟨br, 2, none⟩ = some (.int .i64 xp) := (gr).cell 2
  have cr3 : X1.cell? ⟨br, 3, none⟩ = some (.string t) := (gr).cell 3
  go_upto_region 4 with (fail)
  clear t1
  clear cr0 cr1 cr2 cr3
  refine name_wp ?_
  intro X2 hX
  have na : Blk X2 ba 25 #[.int .i64 n1, .int .i64 d1] := by rw [hX]; (repeat (first | with_reducible assumption | with_reducible exact Blk.new _ _ _ | with_reducible refine Blk.drew ?_ | with_reducible refine Blk.alloc ?_ _ | with_reducible refine Blk.drewN ?_ _ | with_reducible apply Blk.setT0 | with_reducible apply Blk.setT1 | with_reducible refine Blk.far ?_ (by first | (simp; done) | omega | (simp; omega)) _ | with_reducible refine Blk.then_ ?_ (by with_reducible assumption)))
  have nb : Blk X2 bb 25 #[.int .i64 n2, .int .i64 d2] := by rw [hX]; (repeat (first | with_reducible assumption | with_reducible exact Blk.new _ _ _ | with_reducible refine Blk.drew ?_ | with_reducible refine Blk.alloc ?_ _ | with_reducible refine Blk.drewN ?_ _ | with_reducible apply Blk.setT0 | with_reducible apply Blk.setT1 | with_reducible refine Blk.far ?_ (by first | (simp; done) | omega | (simp; omega)) _ | with_reducible refine Blk.then_ ?_ (by with_reducible assumption)))
  have nr : Blk X2 br 45 #[.int .i64 xn, .int .i64 xd, .int .i64 xp, .string t] := by rw [hX]; (repeat (first | with_reducible assumption | with_reducible exact Blk.new _ _ _ | with_reducible refine Blk.drew ?_ | with_reducible refine Blk.alloc ?_ _ | with_reducible refine Blk.drewN ?_ _ | with_reducible apply Blk.setT0 | with_reducible apply Blk.setT1 | with_reducible refine Blk.far ?_ (by first | (simp; done) | omega | (simp; omega)) _ | with_reducible refine Blk.then_ ?_ (by with_reducible assumption)))
  have NB : Below w.heap.size w X2 := by rw [hX]; (repeat (first | with_reducible assumption | with_reducible exact Below.refl _ _ | with_reducible refine below_drewN ?_ _ | with_reducible refine Below.drew ?_ | with_reducible refine below_alloc ?_ _ | with_reducible refine Below.setCell ?_ (by first | omega | (simp; done) | (simp; omega)) _ | with_reducible refine below_then ?_ (by with_reducible assumption) | (refine below_then (a := World.drew _) ?_ (by with_reducible assumption))))
  clear hX ga gb gr HB
  have ga := na
  clear na
  have gb := nb
  clear nb
  have gr := nr
  clear nr
  have HB := NB
  clear NB
  have hz := Below.refl X2.heap.size X2
  have cr0 : X2.cell? ⟨br, 0, none⟩ = some (.int .i64 xn) := (gr).cell 0
  have cr1 : X2.cell? ⟨br, 1, none⟩ = some (.int .i64 xd) := (gr).cell 1
  have cr2 : X2.cell? ⟨br, 2, none⟩ = some (.int .i64 xp) := (gr).cell 2
  have cr3 : X2.cell? ⟨br, 3, none⟩ = some (.string t) := (gr).cell 3
  go_upto_region 5 with ((go_at_call 13; (with_reducible refine (M1.out _).mono ?_); rintro e w1 ⟨rfl, hbw1⟩))
  clear M1
  clear cr0 cr1 cr2 cr3
  refine name_wp ?_
  intro X3 hX
  have na : Blk X3 ba 25 #[.int .i64 n1, .int .i64 d1] := by rw [hX]; (repeat (first | with_reducible assumption | with_reducible exact Blk.new _ _ _ | with_reducible refine Blk.drew ?_ | with_reducible refine Blk.alloc ?_ _ | with_reducible refine Blk.drewN ?_ _ | with_reducible apply Blk.setT0 | with_reducible apply Blk.setT1 | with_reducible refine Blk.far ?_ (by first | (simp; done) | omega | (simp; omega)) _ | with_reducible refine Blk.then_ ?_ (by with_reducible assumption)))
  have nb : Blk X3 bb 25 #[.int .i64 n2, .int .i64 d2] := by rw [hX]; (repeat (first | with_reducible assumption | with_reducible exact Blk.new _ _ _ | with_reducible refine Blk.drew ?_ | with_reducible refine Blk.alloc ?_ _ | with_reducible refine Blk.drewN ?_ _ | with_reducible apply Blk.setT0 | with_reducible apply Blk.setT1 | with_reducible refine Blk.far ?_ (by first | (simp; done) | omega | (simp; omega)) _ | with_reducible refine Blk.then_ ?_ (by with_reducible assumption)))
  have nr : Blk X3 br 45 #[.int .i64 xn, .int .i64 xd, .int .i64 xp, .string t] := by rw [hX]; (repeat (first | with_reducible assumption | with_reducible exact Blk.new _ _ _ | with_reducible refine Blk.drew ?_ | with_reducible refine Blk.alloc ?_ _ | with_reducible refine Blk.drewN ?_ _ | with_reducible apply Blk.setT0 | with_reducible apply Blk.setT1 | with_reducible refine Blk.far ?_ (by first | (simp; done) | omega | (simp; omega)) _ | with_reducible refine Blk.then_ ?_ (by with_reducible assumption)))
  have nm : Blk X3 (w1.heap.size) 25 #[.int .i64 mN, .int .i64 mD] := by rw [hX]; exact Blk.new _ _ _
  have lm : w.heap.size ≤ w1.heap.size := (below_then HB hbw1).size
  have oam : ba < w1.heap.size := (ga.then_ hbw1).lt
  have obm : bb < w1.heap.size := (gb.then_ hbw1).lt
  have orm : br < w1.heap.size := (gr.then_ hbw1).lt
  have NB : Below w.heap.size w X3 := by rw [hX]; (repeat (first | with_reducible assumption | with_reducible exact Below.refl _ _ | with_reducible refine below_drewN ?_ _ | with_reducible refine Below.drew ?_ | with_reducible refine below_alloc ?_ _ | with_reducible refine Below.setCell ?_ (by first | omega | (simp; done) | (simp; omega)) _ | with_reducible refine below_then ?_ (by with_reducible assumption) | (refine below_then (a := World.drew _) ?_ (by with_reducible assumption))))
  clear hX ga gb gr HB
  obtain ⟨bm, eb⟩ : ∃ b, w1.heap.size = b := ⟨_, rfl⟩
  rw [eb] at nm lm oam obm orm ⊢
  clear eb
  have ga := na
  clear na
  have gb := nb
  clear nb
  have gr := nr
  clear nr
  have gm := nm
  clear nm
  have HB := NB
  clear NB
  have hz := Below.refl X3.heap.size X3
  have cr0 : X3.cell? ⟨br, 0, none⟩ = some (.int .i64 xn) := (gr).cell 0
  have cr1 : X3.cell? ⟨br, 1, none⟩ = some (.int .i64 xd) := (gr).cell 1
  have cr2 : X3.cell? ⟨br, 2, none⟩ = some (.int .i64 xp) := (gr).cell 2
  have cr3 : X3.cell? ⟨br, 3, none⟩ = some (.string t) := (gr).cell 3
  go_upto_region 6 with ((go_at_call 24; (with_reducible refine (M2.out _).mono ?_); rintro e w1 ⟨rfl, hbw1⟩))
  clear M2
  clear cr0 cr1 cr2 cr3
  refine name_wp ?_
  intro X4 hX
  have na : Blk X4 ba 25 #[.int .i64 n1, .int .i64 d1] := by rw [hX]; (repeat (first | with_reducible assumption | with_reducible exact Blk.new _ _ _ | with_reducible refine Blk.drew ?_ | with_reducible refine Blk.alloc ?_ _ | with_reducible refine Blk.drewN ?_ _ | with_reducible apply Blk.setT0 | with_reducible apply Blk.setT1 | with_reducible refine Blk.far ?_ (by first | (simp; done) | omega | (simp; omega)) _ | with_reducible refine Blk.then_ ?_ (by with_reducible assumption)))
  have nb : Blk X4 bb 25 #[.int .i64 n2, .int .i64 d2] := by rw [hX]; (repeat (first | with_reducible assumption | with_reducible exact Blk.new _ _ _ | with_reducible refine Blk.drew ?_ | with_reducible refine Blk.alloc ?_ _ | with_reducible refine Blk.drewN ?_ _ | with_reducible apply Blk.setT0 | with_reducible apply Blk.setT1 | with_reducible refine Blk.far ?_ (by first | (simp; done) | omega | (simp; omega)) _ | with_reducible refine Blk.then_ ?_ (by with_reducible assumption)))
  have nr : Blk X4 br 45 #[.int .i64 xn, .int .i64 xd, .int .i64 xp, .string t] := by rw [hX]; (repeat (first | with_reducible assumption | with_reducible exact Blk.new _ _ _ | with_reducible refine Blk.drew ?_ | with_reducible refine Blk.alloc ?_ _ | with_reducible refine Blk.drewN ?_ _ | with_reducible apply Blk.setT0 | with_reducible apply Blk.setT1 | with_reducible refine Blk.far ?_ (by first | (simp; done) | omega | (simp; omega)) _ | with_reducible refine Blk.then_ ?_ (by with_reducible assumption)))
  have nm : Blk X4 bm 25 #[.int .i64 mN, .int .i64 mD] := by rw [hX]; (repeat (first | with_reducible assumption | with_reducible exact Blk.new _ _ _ | with_reducible refine Blk.drew ?_ | with_reducible refine Blk.alloc ?_ _ | with_reducible refine Blk.drewN ?_ _ | with_reducible apply Blk.setT0 | with_reducible apply Blk.setT1 | with_reducible refine Blk.far ?_ (by first | (simp; done) | omega | (simp; omega)) _ | with_reducible refine Blk.then_ ?_ (by with_reducible assumption)))
  have nn : Blk X4 (w1.heap.size) 25 #[.int .i64 mN, .int .i64 mD] := by rw [hX]; exact Blk.new _ _ _
  have ln : w.heap.size ≤ w1.heap.size := (below_then HB hbw1).size
  have oan : ba < w1.heap.size := (ga.then_ hbw1).lt
  have obn : bb < w1.heap.size := (gb.then_ hbw1).lt
  have orn : br < w1.heap.size := (gr.then_ hbw1).lt
  have omn : bm < w1.heap.size := (gm.then_ hbw1).lt
  have NB : Below w.heap.size w X4 := by rw [hX]; (repeat (first | with_reducible assumption | with_reducible exact Below.refl _ _ | with_reducible refine below_drewN ?_ _ | with_reducible refine Below.drew ?_ | with_reducible refine below_alloc ?_ _ | with_reducible refine Below.setCell ?_ (by first | omega | (simp; done) | (simp; omega)) _ | with_reducible refine below_then ?_ (by with_reducible assumption) | (refine below_then (a := World.drew _) ?_ (by with_reducible assumption))))
  clear hX ga gb gr gm HB
  obtain ⟨bn, eb⟩ : ∃ b, w1.heap.size = b := ⟨_, rfl⟩
  rw [eb] at nn ln oan obn orn omn ⊢
  clear eb
  have ga := na
  clear na
  have gb := nb
  clear nb
  have gr := nr
  clear nr
  have gm := nm
  clear nm
  have gn := nn
  clear nn
  have HB := NB
  clear NB
  have hz := Below.refl X4.heap.size X4
  have cr0 : X4.cell? ⟨br, 0, none⟩ = some (.int .i64 xn) := (gr).cell 0
  have cr1 : X4.cell? ⟨br, 1, none⟩ = some (.int .i64 xd) := (gr).cell 1
  have cr2 : X4.cell? ⟨br, 2, none⟩ = some (.int .i64 xp) := (gr).cell 2
  have cr3 : X4.cell? ⟨br, 3, none⟩ = some (.string t) := (gr).cell 3
  go_upto_region 7 with ((go_at_call 23; (with_reducible refine (P1.out _ (by (repeat (first | with_reducible assumption | with_reducible exact Below.refl _ _ | with_reducible refine below_drewN ?_ _ | with_reducible refine Below.drew ?_ | with_reducible refine below_alloc ?_ _ | with_reducible refine Below.setCell ?_ (by first | omega | (simp; done) | (simp; omega)) _ | with_reducible refine below_then ?_ (by with_reducible assumption) | (refine below_then (a := World.drew _) ?_ (by with_reducible assumption)))))).mono ?_); rintro e w1 ⟨rfl, hbw1⟩))
  clear P1
  clear cr0 cr1 cr2 cr3
  refine name_wp ?_
  intro X5 hX
  have na : Blk X5 ba 25 #[.int .i64 n1, .int .i64 d1] := by rw [hX]; (repeat (first | with_reducible assumption | with_reducible exact Blk.new _ _ _ | with_reducible refine Blk.drew ?_ | with_reducible refine Blk.alloc ?_ _ | with_reducible refine Blk.drewN ?_ _ | with_reducible apply Blk.setT0 | with_reducible apply Blk.setT1 | with_reducible refine Blk.far ?_ (by first | (simp; done) | omega | (simp; omega)) _ | with_reducible refine Blk.then_ ?_ (by with_reducible assumption)))
  have nb : Blk X5 bb 25 #[.int .i64 n2, .int .i64 d2] := by rw [hX]; (repeat (first | with_reducible assumption | with_reducible exact Blk.new _ _ _ | with_reducible refine Blk.drew ?_ | with_reducible refine Blk.alloc ?_ _ | with_reducible refine Blk.drewN ?_ _ | with_reducible apply Blk.setT0 | with_reducible apply Blk.setT1 | with_reducible refine Blk.far ?_ (by first | (simp; done) | omega | (simp; omega)) _ | with_reducible refine Blk.then_ ?_ (by with_reducible assumption)))
  have nr : Blk X5 br 45 #[.int .i64 xn, .int .i64 xd, .int .i64 xp, .string t] := by rw [hX]; (repeat (first | with_reducible assumption | with_reducible exact Blk.new _ _ _ | with_reducible refine Blk.drew ?_ | with_reducible refine Blk.alloc ?_ _ | with_reducible refine Blk.drewN ?_ _ | with_reducible apply Blk.setT0 | with_reducible apply Blk.setT1 | with_reducible refine Blk.far ?_ (by first | (simp; done) | omega | (simp; omega)) _ | with_reducible refine Blk.then_ ?_ (by with_reducible assumption)))
  have nm : Blk X5 bm 25 #[.int .i64 mN, .int .i64 mD] := by rw [hX]; (repeat (first | with_reducible assumption | with_reducible exact Blk.new _ _ _ | with_reducible refine Blk.drew ?_ | with_reducible refine Blk.alloc ?_ _ | with_reducible refine Blk.drewN ?_ _ | with_reducible apply Blk.setT0 | with_reducible apply Blk.setT1 | with_reducible refine Blk.far ?_ (by first | (simp; done) | omega | (simp; omega)) _ | with_reducible refine Blk.then_ ?_ (by with_reducible assumption)))
  have nn : Blk X5 bn 25 #[.int .i64 mN, .int .i64 mD] := by rw [hX]; (repeat (first | with_reducible assumption | with_reducible exact Blk.new _ _ _ | with_reducible refine Blk.drew ?_ | with_reducible refine Blk.alloc ?_ _ | with_reducible refine Blk.drewN ?_ _ | with_reducible apply Blk.setT0 | with_reducible apply Blk.setT1 | with_reducible refine Blk.far ?_ (by first | (simp; done) | omega | (simp; omega)) _ | with_reducible refine Blk.then_ ?_ (by with_reducible assumption)))
  have np : Blk X5 (w1.heap.size) 25 #[.int .i64 pN, .int .i64 pD] := by rw [hX]; exact Blk.new _ _ _
  have lp : w.heap.size ≤ w1.heap.size := (below_then HB hbw1).size
  have oap : ba < w1.heap.size := (ga.then_ hbw1).lt
  have obp : bb < w1.heap.size := (gb.then_ hbw1).lt
  have orp : br < w1.heap.size := (gr.then_ hbw1).lt
  have omp : bm < w1.heap.size := (gm.then_ hbw1).lt
  have onp : bn < w1.heap.size := (gn.then_ hbw1).lt
  have NB : Below w.heap.size w X5 := by rw [hX]; (repeat (first | with_reducible assumption | with_reducible exact Below.refl _ _ | with_reducible refine below_drewN ?_ _ | with_reducible refine Below.drew ?_ | with_reducible refine below_alloc ?_ _ | with_reducible refine Below.setCell ?_ (by first | omega | (simp; done) | (simp; omega)) _ | with_reducible refine below_then ?_ (by with_reducible assumption) | (refine below_then (a := World.drew _) ?_ (by with_reducible assumption))))
  clear hX ga gb gr gm gn HB
  obtain ⟨bp, eb⟩ : ∃ b, w1.heap.size = b := ⟨_, rfl⟩
  rw [eb] at np lp oap obp orp omp onp ⊢
  clear eb
  have ga := na
  clear na
  have gb := nb
  clear nb
  have gr := nr
  clear nr
  have gm := nm
  clear nm
  have gn := nn
  clear nn
  have gp := np
  clear np
  have HB := NB
  clear NB
  have hz := Below.refl X5.heap.size X5
  have cr0 : X5.cell? ⟨br, 0, none⟩ = some (.int .i64 xn) := (gr).cell 0
  have cr1 : X5.cell? ⟨br, 1, none⟩ = some (.int .i64 xd) := (gr).cell 1
  have cr2 : X5.cell? ⟨br, 2, none⟩ = some (.int .i64 xp) := (gr).cell 2
  have cr3 : X5.cell? ⟨br, 3, none⟩ = some (.string t) := (gr).cell 3
  go_upto_region 8 with ((go_at_call 25; (with_reducible refine (P2.out _).mono ?_); rintro e w1 ⟨rfl, hbw1⟩))
  clear P2
  clear cr0 cr1 cr2 cr3
  refine name_wp ?_
  intro X6 hX
  have na : Blk X6 ba 25 #[.int .i64 n1, .int .i64 d1] := by rw [hX]; (repeat (first | with_reducible assumption | with_reducible exact Blk.new _ _ _ | with_reducible refine Blk.drew ?_ | with_reducible refine Blk.alloc ?_ _ | with_reducible refine Blk.drewN ?_ _ | with_reducible apply Blk.setT0 | with_reducible apply Blk.setT1 | with_reducible refine Blk.far ?_ (by first | (simp; done) | omega | (simp; omega)) _ | with_reducible refine Blk.then_ ?_ (by with_reducible assumption)))
  have nb : Blk X6 bb 25 #[.int .i64 n2, .int .i64 d2] := by rw [hX]; (repeat (first | with_reducible assumption | with_reducible exact Blk.new _ _ _ | with_reducible refine Blk.drew ?_ | with_reducible refine Blk.alloc ?_ _ | with_reducible refine Blk.drewN ?_ _ | with_reducible apply Blk.setT0 | with_reducible apply Blk.setT1 | with_reducible refine Blk.far ?_ (by first | (simp; done) | omega | (simp; omega)) _ | with_reducible refine Blk.then_ ?_ (by with_reducible assumption)))
  have nr : Blk X6 br 45 #[.int .i64 xn, .int .i64 xd, .int .i64 xp, .string t] := by rw [hX]; (repeat (first | with_reducible assumption | with_reducible exact Blk.new _ _ _ | with_reducible refine Blk.drew ?_ | with_reducible refine Blk.alloc ?_ _ | with_reducible refine Blk.drewN ?_ _ | with_reducible apply Blk.setT0 | with_reducible apply Blk.setT1 | with_reducible refine Blk.far ?_ (by first | (simp; done) | omega | (simp; omega)) _ | with_reducible refine Blk.then_ ?_ (by with_reducible assumption)))
  have nm : Blk X6 bm 25 #[.int .i64 mN, .int .i64 mD] := by rw [hX]; (repeat (first | with_reducible assumption | with_reducible exact Blk.new _ _ _ | with_reducible refine Blk.drew ?_ | with_reducible refine Blk.alloc ?_ _ | with_reducible refine Blk.drewN ?_ _ | with_reducible apply Blk.setT0 | with_reducible apply Blk.setT1 | with_reducible refine Blk.far ?_ (by first | (simp; done) | omega | (simp; omega)) _ | with_reducible refine Blk.then_ ?_ (by with_reducible assumption)))
  have nn : Blk X6 bn 25 #[.int .i64 mN, .int .i64 mD] := by rw [hX]; (repeat (first | with_reducible assumption | with_reducible exact Blk.new _ _ _ | with_reducible refine Blk.drew ?_ | with_reducible refine Blk.alloc ?_ _ | with_reducible refine Blk.drewN ?_ _ | with_reducible apply Blk.setT0 | with_reducible apply Blk.setT1 | with_reducible refine Blk.far ?_ (by first | (simp; done) | omega | (simp; omega)) _ | with_reducible refine Blk.then_ ?_ (by with_reducible assumption)))
  have np : Blk X6 bp 25 #[.int .i64 pN, .int .i64 pD] := by rw [hX]; (repeat (first | with_reducible assumption | with_reducible exact Blk.new _ _ _ | with_reducible refine Blk.drew ?_ | with_reducible refine Blk.alloc ?_ _ | with_reducible refine Blk.drewN ?_ _ | with_reducible apply Blk.setT0 | with_reducible apply Blk.setT1 | with_reducible refine Blk.far ?_ (by first | (simp; done) | omega | (simp; omega)) _ | with_reducible refine Blk.then_ ?_ (by with_reducible assumption)))
  have nq : Blk X6 (w1.heap.size) 25 #[.int .i64 pN, .int .i64 pD] := by rw [hX]; exact Blk.new _ _ _
  have lq : w.heap.size ≤ w1.heap.size := (below_then HB hbw1).size
  have oaq : ba < w1.heap.size := (ga.then_ hbw1).lt
  have obq : bb < w1.heap.size := (gb.then_ hbw1).lt
  have orq : br < w1.heap.size := (gr.then_ hbw1).lt
  have omq : bm < w1.heap.size := (gm.then_ hbw1).lt
  have onq : bn < w1.heap.size := (gn.then_ hbw1).lt
  have opq : bp < w1.heap.size := (gp.then_ hbw1).lt
  have NB : Below w.heap.size w X6 := by rw [hX]; (repeat (first | with_reducible assumption | with_reducible exact Below.refl _ _ | with_reducible refine below_drewN ?_ _ | with_reducible refine Below.drew ?_ | with_reducible refine below_alloc ?_ _ | with_reducible refine Below.setCell ?_ (by first | omega | (simp; done) | (simp; omega)) _ | with_reducible refine below_then ?_ (by with_reducible assumption) | (refine below_then (a := World.drew _) ?_ (by with_reducible assumption))))
  clear hX ga gb gr gm gn gp HB
  obtain ⟨bq, eb⟩ : ∃ b, w1.heap.size = b := ⟨_, rfl⟩
  rw [eb] at nq lq oaq obq orq omq onq opq ⊢
  clear eb
  have ga := na
  clear na
  have gb := nb
  clear nb
  have gr := nr
  clear nr
  have gm := nm
  clear nm
  have gn := nn
  clear nn
  have gp := np
  clear np
  have gq := nq
  clear nq
  have HB := NB
  clear NB
  have hz := Below.refl X6.heap.size X6
  have ca0 : X6.cell? ⟨ba, 0, none⟩ = some (.int .i64 n1) := (ga).cell 0
  have ca1 : X6.cell? ⟨ba, 1, none⟩ = some (.int .i64 d1) := (ga).cell 1
  have cr0 : X6.cell? ⟨br, 0, none⟩ = some (.int .i64 xn) := (gr).cell 0
  have cr1 : X6.cell? ⟨br, 1, none⟩ = some (.int .i64 xd) := (gr).cell 1
  have cr2 : X6.cell? ⟨br, 2, none⟩ = some (.int .i64 xp) := (gr).cell 2
  have cr3 : X6.cell? ⟨br, 3, none⟩ = some (.string t) := (gr).cell 3
  go_upto_region 9 with ((go_at_call 21; (with_reducible refine (R1.out _).mono ?_); rintro e w1 ⟨rfl, hbw1⟩))
  clear R1
  clear ca0 ca1 cr0 cr1 cr2 cr3
  refine name_wp ?_
  intro X7 hX
  have na : Blk X7 ba 25 #[.int .i64 n1, .int .i64 d1] := by rw [hX]; (repeat (first | with_reducible assumption | with_reducible exact Blk.new _ _ _ | with_reducible refine Blk.drew ?_ | with_reducible refine Blk.alloc ?_ _ | with_reducible refine Blk.drewN ?_ _ | with_reducible apply Blk.setT0 | with_reducible apply Blk.setT1 | with_reducible refine Blk.far ?_ (by first | (simp; done) | omega | (simp; omega)) _ | with_reducible refine Blk.then_ ?_ (by with_reducible assumption)))
  have nb : Blk X7 bb 25 #[.int .i64 n2, .int .i64 d2] := by rw [hX]; (repeat (first | with_reducible assumption | with_reducible exact Blk.new _ _ _ | with_reducible refine Blk.drew ?_ | with_reducible refine Blk.alloc ?_ _ | with_reducible refine Blk.drewN ?_ _ | with_reducible apply Blk.setT0 | with_reducible apply Blk.setT1 | with_reducible refine Blk.far ?_ (by first | (simp; done) | omega | (simp; omega)) _ | with_reducible refine Blk.then_ ?_ (by with_reducible assumption)))
  have nr : Blk X7 br 45 #[.int .i64 xn, .int .i64 xd, .int .i64 xp, .string t] := by rw [hX]; (repeat (first | with_reducible assumption | with_reducible exact Blk.new _ _ _ | with_reducible refine Blk.drew ?_ | with_reducible refine Blk.alloc ?_ _ | with_reducible refine Blk.drewN ?_ _ | with_reducible apply Blk.setT0 | with_reducible apply Blk.setT1 | with_reducible refine Blk.far ?_ (by first | (simp; done) | omega | (simp; omega)) _ | with_reducible refine Blk.then_ ?_ (by with_reducible assumption)))
  have nm : Blk X7 bm 25 #[.int .i64 mN, .int .i64 mD] := by rw [hX]; (repeat (first | with_reducible assumption | with_reducible exact Blk.new _ _ _ | with_reducible refine Blk.drew ?_ | with_reducible refine Blk.alloc ?_ _ | with_reducible refine Blk.drewN ?_ _ | with_reducible apply Blk.setT0 | with_reducible apply Blk.setT1 | with_reducible refine Blk.far ?_ (by first | (simp; done) | omega | (simp; omega)) _ | with_reducible refine Blk.then_ ?_ (by with_reducible assumption)))
  have nn : Blk X7 bn 25 #[.int .i64 mN, .int .i64 mD] := by rw [hX]; (repeat (first | with_reducible assumption | with_reducible exact Blk.new _ _ _ | with_reducible refine Blk.drew ?_ | with_reducible refine Blk.alloc ?_ _ | with_reducible refine Blk.drewN ?_ _ | with_reducible apply Blk.setT0 | with_reducible apply Blk.setT1 | with_reducible refine Blk.far ?_ (by first | (simp; done) | omega | (simp; omega)) _ | with_reducible refine Blk.then_ ?_ (by with_reducible assumption)))
  have np : Blk X7 bp 25 #[.int .i64 pN, .int .i64 pD] := by rw [hX]; (repeat (first | with_reducible assumption | with_reducible exact Blk.new _ _ _ | with_reducible refine Blk.drew ?_ | with_reducible refine Blk.alloc ?_ _ | with_reducible refine Blk.drewN ?_ _ | with_reducible apply Blk.setT0 | with_reducible apply Blk.setT1 | with_reducible refine Blk.far ?_ (by first | (simp; done) | omega | (simp; omega)) _ | with_reducible refine Blk.then_ ?_ (by with_reducible assumption)))
  have nq : Blk X7 bq 25 #[.int .i64 pN, .int .i64 pD] := by rw [hX]; (repeat (first | with_reducible assumption | with_reducible exact Blk.new _ _ _ | with_reducible refine Blk.drew ?_ | with_reducible refine Blk.alloc ?_ _ | with_reducible refine Blk.drewN ?_ _ | with_reducible apply Blk.setT0 | with_reducible apply Blk.setT1 | with_reducible refine Blk.far ?_ (by first | (simp; done) | omega | (simp; omega)) _ | with_reducible refine Blk.then_ ?_ (by with_reducible assumption)))
  have nt : Blk X7 (w1.heap.size) 25 #[.int .i64 xN, .int .i64 xD] := by rw [hX]; exact Blk.new _ _ _
  have lt : w.heap.size ≤ w1.heap.size := (below_then HB hbw1).size
  have oat : ba < w1.heap.size := (ga.then_ hbw1).lt
  have obt : bb < w1.heap.size := (gb.then_ hbw1).lt
  have ort : br < w1.heap.size := (gr.then_ hbw1).lt
  have omt : bm < w1.heap.size := (gm.then_ hbw1).lt
  have ont : bn < w1.heap.size := (gn.then_ hbw1).lt
  have opt : bp < w1.heap.size := (gp.then_ hbw1).lt
  have oqt : bq < w1.heap.size := (gq.then_ hbw1).lt
  have NB : Below w.heap.size w X7 := by rw [hX]; (repeat (first | with_reducible assumption | with_reducible exact Below.refl _ _ | with_reducible refine below_drewN ?_ _ | with_reducible refine Below.drew ?_ | with_reducible refine below_alloc ?_ _ | with_reducible refine Below.setCell ?_ (by first | omega | (simp; done) | (simp; omega)) _ | with_reducible refine below_then ?_ (by with_reducible assumption) | (refine below_then (a := World.drew _) ?_ (by with_reducible assumption))))
  clear hX ga gb gr gm gn gp gq HB
  obtain ⟨bt, eb⟩ : ∃ b, w1.heap.size = b := ⟨_, rfl⟩
  rw [eb] at nt lt oat obt ort omt ont opt oqt ⊢
  clear eb
  have ga := na
  clear na
  have gb := nb
  clear nb
  have gr := nr
  clear nr
  have gm := nm
  clear nm
  have gn := nn
  clear nn
  have gp := np
  clear np
  have gq := nq
  clear nq
  have gt := nt
  clear nt
  have HB := NB
  clear NB
  have hz := Below.refl X7.heap.size X7
  have ca0 : X7.cell? ⟨ba, 0, none⟩ = some (.int .i64 n1) := (ga).cell 0
  have ca1 : X7.cell? ⟨ba, 1, none⟩ = some (.int .i64 d1) := (ga).cell 1
  have cr0 : X7.cell? ⟨br, 0, none⟩ = some (.int .i64 xn) := (gr).cell 0
  have cr1 : X7.cell? ⟨br, 1, none⟩ = some (.int .i64 xd) := (gr).cell 1
  have cr2 : X7.cell? ⟨br, 2, none⟩ = some (.int .i64 xp) := (gr).cell 2
  have cr3 : X7.cell? ⟨br, 3, none⟩ = some (.string t) := (gr).cell 3
  go_upto_region 10 with ((go_at_call 26; (with_reducible refine (R2.out _).mono ?_); rintro e w1 ⟨rfl, hbw1⟩))
  clear R2
  clear ca0 ca1 cr0 cr1 cr2 cr3
  refine name_wp ?_
  intro X8 hX
  have na : Blk X8 ba 25 #[.int .i64 n1, .int .i64 d1] := by rw [hX]; (repeat (first | with_reducible assumption | with_reducible exact Blk.new _ _ _ | with_reducible refine Blk.drew ?_ | with_reducible refine Blk.alloc ?_ _ | with_reducible refine Blk.drewN ?_ _ | with_reducible apply Blk.setT0 | with_reducible apply Blk.setT1 | with_reducible refine Blk.far ?_ (by first | (simp; done) | omega | (simp; omega)) _ | with_reducible refine Blk.then_ ?_ (by with_reducible assumption)))
  have nb : Blk X8 bb 25 #[.int .i64 n2, .int .i64 d2] := by rw [hX]; (repeat (first | with_reducible assumption | with_reducible exact Blk.new _ _ _ | with_reducible refine Blk.drew ?_ | with_reducible refine Blk.alloc ?_ _ | with_reducible refine Blk.drewN ?_ _ | with_reducible apply Blk.setT0 | with_reducible apply Blk.setT1 | with_reducible refine Blk.far ?_ (by first | (simp; done) | omega | (simp; omega)) _ | with_reducible refine Blk.then_ ?_ (by with_reducible assumption)))
  have nr : Blk X8 br 45 #[.int .i64 xn, .int .i64 xd, .int .i64 xp, .string t] := by rw [hX]; (repeat (first | with_reducible assumption | with_reducible exact Blk.new _ _ _ | with_reducible refine Blk.drew ?_ | with_reducible refine Blk.alloc ?_ _ | with_reducible refine Blk.drewN ?_ _ | with_reducible apply Blk.setT0 | with_reducible apply Blk.setT1 | with_reducible refine Blk.far ?_ (by first | (simp; done) | omega | (simp; omega)) _ | with_reducible refine Blk.then_ ?_ (by with_reducible assumption)))
  have nm : Blk X8 bm 25 #[.int .i64 mN, .int .i64 mD] := by rw [hX]; (repeat (first | with_reducible assumption | with_reducible exact Blk.new _ _ _ | with_reducible refine Blk.drew ?_ | with_reducible refine Blk.alloc ?_ _ | with_reducible refine Blk.drewN ?_ _ | with_reducible apply Blk.setT0 | with_reducible apply Blk.setT1 | with_reducible refine Blk.far ?_ (by first | (simp; done) | omega | (simp; omega)) _ | with_reducible refine Blk.then_ ?_ (by with_reducible assumption)))
  have nn : Blk X8 bn 25 #[.int .i64 mN, .int .i64 mD] := by rw [hX]; (repeat (first | with_reducible assumption | with_reducible exact Blk.new _ _ _ | with_reducible refine Blk.drew ?_ | with_reducible refine Blk.alloc ?_ _ | with_reducible refine Blk.drewN ?_ _ | with_reducible apply Blk.setT0 | with_reducible apply Blk.setT1 | with_reducible refine Blk.far ?_ (by first | (simp; done) | omega | (simp; omega)) _ | with_reducible refine Blk.then_ ?_ (by with_reducible assumption)))
  have np : Blk X8 bp 25 #[.int .i64 pN, .int .i64 pD] := by rw [hX]; (repeat (first | with_reducible assumption | with_reducible exact Blk.new _ _ _ | with_reducible refine Blk.drew ?_ | with_reducible refine Blk.alloc ?_ _ | with_reducible refine Blk.drewN ?_ _ | with_reducible apply Blk.setT0 | with_reducible apply Blk.setT1 | with_reducible refine Blk.far ?_ (by first | (simp; done) | omega | (simp; omega)) _ | with_reducible refine Blk.then_ ?_ (by with_reducible assumption)))
  have nq : Blk X8 bq 25 #[.int .i64 pN, .int .i64 pD] := by rw [hX]; (repeat (first | with_reducible assumption | with_reducible exact Blk.new _ _ _ | with_reducible refine Blk.drew ?_ | with_reducible refine Blk.alloc ?_ _ | with_reducible refine Blk.drewN ?_ _ | with_reducible apply Blk.setT0 | with_reducible apply Blk.setT1 | with_reducible refine Blk.far ?_ (by first | (simp; done) | omega | (simp; omega)) _ | with_reducible refine Blk.then_ ?_ (by with_reducible assumption)))
  have nt : Blk X8 bt 25 #[.int .i64 xN, .int .i64 xD] := by rw [hX]; (repeat (first | with_reducible assumption | with_reducible exact Blk.new _ _ _ | with_reducible refine Blk.drew ?_ | with_reducible refine Blk.alloc ?_ _ | with_reducible refine Blk.drewN ?_ _ | with_reducible apply Blk.setT0 | with_reducible apply Blk.setT1 | with_reducible refine Blk.far ?_ (by first | (simp; done) | omega | (simp; omega)) _ | with_reducible refine Blk.then_ ?_ (by with_reducible assumption)))
  have nh : Blk X8 (w1.heap.size) 25 #[.int .i64 xN, .int .i64 xD] := by rw [hX]; exact Blk.new _ _ _
  have lh : w.heap.size ≤ w1.heap.size := (below_then HB hbw1).size
  have oah : ba < w1.heap.size := (ga.then_ hbw1).lt
  have obh : bb < w1.heap.size := (gb.then_ hbw1).lt
  have orh : br < w1.heap.size := (gr.then_ hbw1).lt
  have omh : bm < w1.heap.size := (gm.then_ hbw1).lt
  have onh : bn < w1.heap.size := (gn.then_ hbw1).lt
  have oph : bp < w1.heap.size := (gp.then_ hbw1).lt
  have oqh : bq < w1.heap.size := (gq.then_ hbw1).lt
  have oth : bt < w1.heap.size := (gt.then_ hbw1).lt
  have NB : Below w.heap.size w X8 := by rw [hX]; (repeat (first | with_reducible assumption | with_reducible exact Below.refl _ _ | with_reducible refine below_drewN ?_ _ | with_reducible refine Below.drew ?_ | with_reducible refine below_alloc ?_ _ | with_reducible refine Below.setCell ?_ (by first | omega | (simp; done) | (simp; omega)) _ | with_reducible refine below_then ?_ (by with_reducible assumption) | (refine below_then (a := World.drew _) ?_ (by with_reducible assumption))))
  clear hX ga gb gr gm gn gp gq gt HB
  obtain ⟨bh, eb⟩ : ∃ b, w1.heap.size = b := ⟨_, rfl⟩
  rw [eb] at nh lh oah obh orh omh onh oph oqh oth ⊢
  clear eb
  have ga := na
  clear na
  have gb := nb
  clear nb
  have gr := nr
  clear nr
  have gm := nm
  clear nm
  have gn := nn
  clear nn
  have gp := np
  clear np
  have gq := nq
  clear nq
  have gt := nt
  clear nt
  have gh := nh
  clear nh
  have HB := NB
  clear NB
  have hz := Below.refl X8.heap.size X8
  have cm0 : X8.cell? ⟨bm, 0, none⟩ = some (.int .i64 mN) := (gm).cell 0
  have cm1 : X8.cell? ⟨bm, 1, none⟩ = some (.int .i64 mD) := (gm).cell 1
  have cn0 : X8.cell? ⟨bn, 0, none⟩ = some (.int .i64 mN) := (gn).cell 0
  have cn1 : X8.cell? ⟨bn, 1, none⟩ = some (.int .i64 mD) := (gn).cell 1
  have cp0 : X8.cell? ⟨bp, 0, none⟩ = some (.int .i64 pN) := (gp).cell 0
  have cp1 : X8.cell? ⟨bp, 1, none⟩ = some (.int .i64 pD) := (gp).cell 1
  have cq0 : X8.cell? ⟨bq, 0, none⟩ = some (.int .i64 pN) := (gq).cell 0
  have cq1 : X8.cell? ⟨bq, 1, none⟩ = some (.int .i64 pD) := (gq).cell 1
  have ct0 : X8.cell? ⟨bt, 0, none⟩ = some (.int .i64 xN) := (gt).cell 0
  have ct1 : X8.cell? ⟨bt, 1, none⟩ = some (.int .i64 xD) := (gt).cell 1
  have ch0 : X8.cell? ⟨bh, 0, none⟩ = some (.int .i64 xN) := (gh).cell 0
  have ch1 : X8.cell? ⟨bh, 1, none⟩ = some (.int .i64 xD) := (gh).cell 1
  have q1 := fun W => eqv_yes mN mD W
  have q2 := fun W => eqv_yes pN pD W
  have q3 := fun W => eqv_yes xN xD W
  go_upto_region 12 with (fail)
  clear q1 q2 q3
  clear cm0 cm1 cn0 cn1 cp0 cp1 cq0 cq1 ct0 ct1 ch0 ch1
  refine name_wp ?_
  intro X9 hX
  have na : Blk X9 ba 25 #[.int .i64 n1, .int .i64 d1] := by rw [hX]; (repeat (first | with_reducible assumption | with_reducible exact Blk.new _ _ _ | with_reducible refine Blk.drew ?_ | with_reducible refine Blk.alloc ?_ _ | with_reducible refine Blk.drewN ?_ _ | with_reducible apply Blk.setT0 | with_reducible apply Blk.setT1 | with_reducible refine Blk.far ?_ (by first | (simp; done) | omega | (simp; omega)) _ | with_reducible refine Blk.then_ ?_ (by with_reducible assumption)))
  have nb : Blk X9 bb 25 #[.int .i64 n2, .int .i64 d2] := by rw [hX]; (repeat (first | with_reducible assumption | with_reducible exact Blk.new _ _ _ | with_reducible refine Blk.drew ?_ | with_reducible refine Blk.alloc ?_ _ | with_reducible refine Blk.drewN ?_ _ | with_reducible apply Blk.setT0 | with_reducible apply Blk.setT1 | with_reducible refine Blk.far ?_ (by first | (simp; done) | omega | (simp; omega)) _ | with_reducible refine Blk.then_ ?_ (by with_reducible assumption)))
  have NB : Below w.heap.size w X9 := by rw [hX]; (repeat (first | with_reducible assumption | with_reducible exact Below.refl _ _ | with_reducible refine below_drewN ?_ _ | with_reducible refine Below.drew ?_ | with_reducible refine below_alloc ?_ _ | with_reducible refine Below.setCell ?_ (by first | omega | (simp; done) | (simp; omega)) _ | with_reducible refine below_then ?_ (by with_reducible assumption) | (refine below_then (a := World.drew _) ?_ (by with_reducible assumption))))
  clear hX ga gb gr gm gn gp gq gt gh HB
  have ga := na
  clear na
  have gb := nb
  clear nb
  have HB := NB
  clear NB
  have hz := Below.refl X9.heap.size X9
  have ca0 : X9.cell? ⟨ba, 0, none⟩ = some (.int .i64 n1) := (ga).cell 0
  have ca1 : X9.cell? ⟨ba, 1, none⟩ = some (.int .i64 d1) := (ga).cell 1
  have cb0 : X9.cell? ⟨bb, 0, none⟩ = some (.int .i64 n2) := (gb).cell 0
  have cb1 : X9.cell? ⟨bb, 1, none⟩ = some (.int .i64 d2) := (gb).cell 1
  go_upto_region 13 with ((go_at_call 17; (with_reducible refine (A1.out _).mono ?_); rintro e w1 ⟨rfl, hbw1⟩))
  clear A1
  clear ca0 ca1 cb0 cb1
  refine name_wp ?_
  intro X10 hX
  have na : Blk X10 ba 25 #[.int .i64 n1, .int .i64 d1] := by rw [hX]; (repeat (first | with_reducible assumption | with_reducible exact Blk.new _ _ _ | with_reducible refine Blk.drew ?_ | with_reducible refine Blk.alloc ?_ _ | with_reducible refine Blk.drewN ?_ _ | with_reducible apply Blk.setT0 | with_reducible apply Blk.setT1 | with_reducible refine Blk.far ?_ (by first | (simp; done) | omega | (simp; omega)) _ | with_reducible refine Blk.then_ ?_ (by with_reducible assumption)))
  have nb : Blk X10 bb 25 #[.int .i64 n2, .int .i64 d2] := by rw [hX]; (repeat (first | with_reducible assumption | with_reducible exact Blk.new _ _ _ | with_reducible refine Blk.drew ?_ | with_reducible refine Blk.alloc ?_ _ | with_reducible refine Blk.drewN ?_ _ | with_reducible apply Blk.setT0 | with_reducible apply Blk.setT1 | with_reducible refine Blk.far ?_ (by first | (simp; done) | omega | (simp; omega)) _ | with_reducible refine Blk.then_ ?_ (by with_reducible assumption)))
  have ns : Blk X10 (w1.heap.size) 25 #[.int .i64 sN, .int .i64 sD] := by rw [hX]; exact Blk.new _ _ _
  have ls : w.heap.size ≤ w1.heap.size := (below_then HB hbw1).size
  have oas : ba < w1.heap.size := (ga.then_ hbw1).lt
  have obs : bb < w1.heap.size := (gb.then_ hbw1).lt
  have NB : Below w.heap.size w X10 := by rw [hX]; (repeat (first | with_reducible assumption | with_reducible exact Below.refl _ _ | with_reducible refine below_drewN ?_ _ | with_reducible refine Below.drew ?_ | with_reducible refine below_alloc ?_ _ | with_reducible refine Below.setCell ?_ (by first | omega | (simp; done) | (simp; omega)) _ | with_reducible refine below_then ?_ (by with_reducible assumption) | (refine below_then (a := World.drew _) ?_ (by with_reducible assumption))))
  clear hX ga gb HB
  obtain ⟨bs, eb⟩ : ∃ b, w1.heap.size = b := ⟨_, rfl⟩
  rw [eb] at ns ls oas obs ⊢
  clear eb
  have ga := na
  clear na
  have gb := nb
  clear nb
  have gs := ns
  clear ns
  have HB := NB
  clear NB
  have hz := Below.refl X10.heap.size X10
  have ca0 : X10.cell? ⟨ba, 0, none⟩ = some (.int .i64 n1) := (ga).cell 0
  have ca1 : X10.cell? ⟨ba, 1, none⟩ = some (.int .i64 d1) := (ga).cell 1
  have cb0 : X10.cell? ⟨bb, 0, none⟩ = some (.int .i64 n2) := (gb).cell 0
  have cb1 : X10.cell? ⟨bb, 1, none⟩ = some (.int .i64 d2) := (gb).cell 1
  go_upto_region 14 with ((go_at_call 27; (with_reducible refine (A2.out _).mono ?_); rintro e w1 ⟨rfl, hbw1⟩))
  clear A2
  clear ca0 ca1 cb0 cb1
  refine name_wp ?_
  intro X11 hX
  have na : Blk X11 ba 25 #[.int .i64 n1, .int .i64 d1] := by rw [hX]; (repeat (first | with_reducible assumption | with_reducible exact Blk.new _ _ _ | with_reducible refine Blk.drew ?_ | with_reducible refine Blk.alloc ?_ _ | with_reducible refine Blk.drewN ?_ _ | with_reducible apply Blk.setT0 | with_reducible apply Blk.setT1 | with_reducible refine Blk.far ?_ (by first | (simp; done) | omega | (simp; omega)) _ | with_reducible refine Blk.then_ ?_ (by with_reducible assumption)))
  have nb : Blk X11 bb 25 #[.int .i64 n2, .int .i64 d2] := by rw [hX]; (repeat (first | with_reducible assumption | with_reducible exact Blk.new _ _ _ | with_reducible refine Blk.drew ?_ | with_reducible refine Blk.alloc ?_ _ | with_reducible refine Blk.drewN ?_ _ | with_reducible apply Blk.setT0 | with_reducible apply Blk.setT1 | with_reducible refine Blk.far ?_ (by first | (simp; done) | omega | (simp; omega)) _ | with_reducible refine Blk.then_ ?_ (by with_reducible assumption)))
  have ns : Blk X11 bs 25 #[.int .i64 sN, .int .i64 sD] := by rw [hX]; (repeat (first | with_reducible assumption | with_reducible exact Blk.new _ _ _ | with_reducible refine Blk.drew ?_ | with_reducible refine Blk.alloc ?_ _ | with_reducible refine Blk.drewN ?_ _ | with_reducible apply Blk.setT0 | with_reducible apply Blk.setT1 | with_reducible refine Blk.far ?_ (by first | (simp; done) | omega | (simp; omega)) _ | with_reducible refine Blk.then_ ?_ (by with_reducible assumption)))
  have ni : Blk X11 (w1.heap.size) 25 #[.int .i64 sN, .int .i64 sD] := by rw [hX]; exact Blk.new _ _ _
  have li : w.heap.size ≤ w1.heap.size := (below_then HB hbw1).size
  have oai : ba < w1.heap.size := (ga.then_ hbw1).lt
  have obi : bb < w1.heap.size := (gb.then_ hbw1).lt
  have osi : bs < w1.heap.size := (gs.then_ hbw1).lt
  have NB : Below w.heap.size w X11 := by rw [hX]; (repeat (first | with_reducible assumption | with_reducible exact Below.refl _ _ | with_reducible refine below_drewN ?_ _ | with_reducible refine Below.drew ?_ | with_reducible refine below_alloc ?_ _ | with_reducible refine Below.setCell ?_ (by first | omega | (simp; done) | (simp; omega)) _ | with_reducible refine below_then ?_ (by with_reducible assumption) | (refine below_then (a := World.drew _) ?_ (by with_reducible assumption))))
  clear hX ga gb gs HB
  obtain ⟨bi, eb⟩ : ∃ b, w1.heap.size = b := ⟨_, rfl⟩
  rw [eb] at ni li oai obi osi ⊢
  clear eb
  have ga := na
  clear na
  have gb := nb
  clear nb
  have gs := ns
  clear ns
  have gi := ni
  clear ni
  have HB := NB
  clear NB
  have hz := Below.refl X11.heap.size X11
  have ca0 : X11.cell? ⟨ba, 0, none⟩ = some (.int .i64 n1) := (ga).cell 0
  have ca1 : X11.cell? ⟨ba, 1, none⟩ = some (.int .i64 d1) := (ga).cell 1
  have cb0 : X11.cell? ⟨bb, 0, none⟩ = some (.int .i64 n2) := (gb).cell 0
  have cb1 : X11.cell? ⟨bb, 1, none⟩ = some (.int .i64 d2) := (gb).cell 1
  go_upto_region 15 with ((go_at_call 28; (with_reducible refine (S1.out _).mono ?_); rintro e w1 ⟨rfl, hbw1⟩))
  clear S1
  clear ca0 ca1 cb0 cb1
  refine name_wp ?_
  intro X12 hX
  have na : Blk X12 ba 25 #[.int .i64 n1, .int .i64 d1] := by rw [hX]; (repeat (first | with_reducible assumption | with_reducible exact Blk.new _ _ _ | with_reducible refine Blk.drew ?_ | with_reducible refine Blk.alloc ?_ _ | with_reducible refine Blk.drewN ?_ _ | with_reducible apply Blk.setT0 | with_reducible apply Blk.setT1 | with_reducible refine Blk.far ?_ (by first | (simp; done) | omega | (simp; omega)) _ | with_reducible refine Blk.then_ ?_ (by with_reducible assumption)))
  have nb : Blk X12 bb 25 #[.int .i64 n2, .int .i64 d2] := by rw [hX]; (repeat (first | with_reducible assumption | with_reducible exact Blk.new _ _ _ | with_reducible refine Blk.drew ?_ | with_reducible refine Blk.alloc ?_ _ | with_reducible refine Blk.drewN ?_ _ | with_reducible apply Blk.setT0 | with_reducible apply Blk.setT1 | with_reducible refine Blk.far ?_ (by first | (simp; done) | omega | (simp; omega)) _ | with_reducible refine Blk.then_ ?_ (by with_reducible assumption)))
  have ns : Blk X12 bs 25 #[.int .i64 sN, .int .i64 sD] := by rw [hX]; (repeat (first | with_reducible assumption | with_reducible exact Blk.new _ _ _ | with_reducible refine Blk.drew ?_ | with_reducible refine Blk.alloc ?_ _ | with_reducible refine Blk.drewN ?_ _ | with_reducible apply Blk.setT0 | with_reducible apply Blk.setT1 | with_reducible refine Blk.far ?_ (by first | (simp; done) | omega | (simp; omega)) _ | with_reducible refine Blk.then_ ?_ (by with_reducible assumption)))
  have ni : Blk X12 bi 25 #[.int .i64 sN, .int .i64 sD] := by rw [hX]; (repeat (first | with_reducible assumption | with_reducible exact Blk.new _ _ _ | with_reducible refine Blk.drew ?_ | with_reducible refine Blk.alloc ?_ _ | with_reducible refine Blk.drewN ?_ _ | with_reducible apply Blk.setT0 | with_reducible apply Blk.setT1 | with_reducible refine Blk.far ?_ (by first | (simp; done) | omega | (simp; omega)) _ | with_reducible refine Blk.then_ ?_ (by with_reducible assumption)))
  have ne : Blk X12 (w1.heap.size) 25 #[.int .i64 eN, .int .i64 eD] := by rw [hX]; exact Blk.new _ _ _
  have le : w.heap.size ≤ w1.heap.size := (below_then HB hbw1).size
  have oae : ba < w1.heap.size := (ga.then_ hbw1).lt
  have obe : bb < w1.heap.size := (gb.then_ hbw1).lt
  have ose : bs < w1.heap.size := (gs.then_ hbw1).lt
  have oie : bi < w1.heap.size := (gi.then_ hbw1).lt
  have NB : Below w.heap.size w X12 := by rw [hX]; (repeat (first | with_reducible assumption | with_reducible exact Below.refl _ _ | with_reducible refine below_drewN ?_ _ | with_reducible refine Below.drew ?_ | with_reducible refine below_alloc ?_ _ | with_reducible refine Below.setCell ?_ (by first | omega | (simp; done) | (simp; omega)) _ | with_reducible refine below_then ?_ (by with_reducible assumption) | (refine below_then (a := World.drew _) ?_ (by with_reducible assumption))))
  clear hX ga gb gs gi HB
  obtain ⟨be, eb⟩ : ∃ b, w1.heap.size = b := ⟨_, rfl⟩
  rw [eb] at ne le oae obe ose oie ⊢
  clear eb
  have ga := na
  clear na
  have gb := nb
  clear nb
  have gs := ns
  clear ns
  have gi := ni
  clear ni
  have ge := ne
  clear ne
  have HB := NB
  clear NB
  have hz := Below.refl X12.heap.size X12
  have ca0 : X12.cell? ⟨ba, 0, none⟩ = some (.int .i64 n1) := (ga).cell 0
  have ca1 : X12.cell? ⟨ba, 1, none⟩ = some (.int .i64 d1) := (ga).cell 1
  have cb0 : X12.cell? ⟨bb, 0, none⟩ = some (.int .i64 n2) := (gb).cell 0
  have cb1 : X12.cell? ⟨bb, 1, none⟩ = some (.int .i64 d2) := (gb).cell 1
  go_upto_region 16 with ((go_at_call 29; (with_reducible refine (S2.out _).mono ?_); rintro e w1 ⟨rfl, hbw1⟩))
  clear S2
  clear ca0 ca1 cb0 cb1
  refine name_wp ?_
  intro X13 hX
  have na : Blk X13 ba 25 #[.int .i64 n1, .int .i64 d1] := by rw [hX]; (repeat (first | with_reducible assumption | with_reducible exact Blk.new _ _ _ | with_reducible refine Blk.drew ?_ | with_reducible refine Blk.alloc ?_ _ | with_reducible refine Blk.drewN ?_ _ | with_reducible apply Blk.setT0 | with_reducible apply Blk.setT1 | with_reducible refine Blk.far ?_ (by first | (simp; done) | omega | (simp; omega)) _ | with_reducible refine Blk.then_ ?_ (by with_reducible assumption)))
  have nb : Blk X13 bb 25 #[.int .i64 n2, .int .i64 d2] := by rw [hX]; (repeat (first | with_reducible assumption | with_reducible exact Blk.new _ _ _ | with_reducible refine Blk.drew ?_ | with_reducible refine Blk.alloc ?_ _ | with_reducible refine Blk.drewN ?_ _ | with_reducible apply Blk.setT0 | with_reducible apply Blk.setT1 | with_reducible refine Blk.far ?_ (by first | (simp; done) | omega | (simp; omega)) _ | with_reducible refine Blk.then_ ?_ (by with_reducible assumption)))
  have ns : Blk X13 bs 25 #[.int .i64 sN, .int .i64 sD] := by rw [hX]; (repeat (first | with_reducible assumption | with_reducible exact Blk.new _ _ _ | with_reducible refine Blk.drew ?_ | with_reducible refine Blk.alloc ?_ _ | with_reducible refine Blk.drewN ?_ _ | with_reducible apply Blk.setT0 | with_reducible apply Blk.setT1 | with_reducible refine Blk.far ?_ (by first | (simp; done) | omega | (simp; omega)) _ | with_reducible refine Blk.then_ ?_ (by with_reducible assumption)))
  have ni : Blk X13 bi 25 #[.int .i64 sN, .int .i64 sD] := by rw [hX]; (repeat (first | with_reducible assumption | with_reducible exact Blk.new _ _ _ | with_reducible refine Blk.drew ?_ | with_reducible refine Blk.alloc ?_ _ | with_reducible refine Blk.drewN ?_ _ | with_reducible apply Blk.setT0 | with_reducible apply Blk.setT1 | with_reducible refine Blk.far ?_ (by first | (simp; done) | omega | (simp; omega)) _ | with_reducible refine Blk.then_ ?_ (by with_reducible assumption)))
  have ne : Blk X13 be 25 #[.int .i64 eN, .int .i64 eD] := by rw [hX]; (repeat (first | with_reducible assumption | with_reducible exact Blk.new _ _ _ | with_reducible refine Blk.drew ?_ | with_reducible refine Blk.alloc ?_ _ | with_reducible refine Blk.drewN ?_ _ | with_reducible apply Blk.setT0 | with_reducible apply Blk.setT1 | with_reducible refine Blk.far ?_ (by first | (simp; done) | omega | (simp; omega)) _ | with_reducible refine Blk.then_ ?_ (by with_reducible assumption)))
  have nj : Blk X13 (w1.heap.size) 25 #[.int .i64 eN, .int .i64 eD] := by rw [hX]; exact Blk.new _ _ _
  have lj : w.heap.size ≤ w1.heap.size := (below_then HB hbw1).size
  have oaj : ba < w1.heap.size := (ga.then_ hbw1).lt
  have obj : bb < w1.heap.size := (gb.then_ hbw1).lt
  have osj : bs < w1.heap.size := (gs.then_ hbw1).lt
  have oij : bi < w1.heap.size := (gi.then_ hbw1).lt
  have oej : be < w1.heap.size := (ge.then_ hbw1).lt
  have NB : Below w.heap.size w X13 := by rw [hX]; (repeat (first | with_reducible assumption | with_reducible exact Below.refl _ _ | with_reducible refine below_drewN ?_ _ | with_reducible refine Below.drew ?_ | with_reducible refine below_alloc ?_ _ | with_reducible refine Below.setCell ?_ (by first | omega | (simp; done) | (simp; omega)) _ | with_reducible refine below_then ?_ (by with_reducible assumption) | (refine below_then (a := World.drew _) ?_ (by with_reducible assumption))))
  clear hX ga gb gs gi ge HB
  obtain ⟨bj, eb⟩ : ∃ b, w1.heap.size = b := ⟨_, rfl⟩
  rw [eb] at nj lj oaj obj osj oij oej ⊢
  clear eb
  have ga := na
  clear na
  have gb := nb
  clear nb
  have gs := ns
  clear ns
  have gi := ni
  clear ni
  have ge := ne
  clear ne
  have gj := nj
  clear nj
  have HB := NB
  clear NB
  have hz := Below.refl X13.heap.size X13
  have ca0 : X13.cell? ⟨ba, 0, none⟩ = some (.int .i64 n1) := (ga).cell 0
  have ca1 : X13.cell? ⟨ba, 1, none⟩ = some (.int .i64 d1) := (ga).cell 1
  have cb0 : X13.cell? ⟨bb, 0, none⟩ = some (.int .i64 n2) := (gb).cell 0
  have cb1 : X13.cell? ⟨bb, 1, none⟩ = some (.int .i64 d2) := (gb).cell 1
  go_upto_region 17 with ((go_at_call 18; (with_reducible refine (U1.out _).mono ?_); rintro e w1 ⟨rfl, hbw1⟩))
  clear U1
  clear ca0 ca1 cb0 cb1
  refine name_wp ?_
  intro X14 hX
  have na : Blk X14 ba 25 #[.int .i64 n1, .int .i64 d1] := by rw [hX]; (repeat (first | with_reducible assumption | with_reducible exact Blk.new _ _ _ | with_reducible refine Blk.drew ?_ | with_reducible refine Blk.alloc ?_ _ | with_reducible refine Blk.drewN ?_ _ | with_reducible apply Blk.setT0 | with_reducible apply Blk.setT1 | with_reducible refine Blk.far ?_ (by first | (simp; done) | omega | (simp; omega)) _ | with_reducible refine Blk.then_ ?_ (by with_reducible assumption)))
  have nb : Blk X14 bb 25 #[.int .i64 n2, .int .i64 d2] := by rw [hX]; (repeat (first | with_reducible assumption | with_reducible exact Blk.new _ _ _ | with_reducible refine Blk.drew ?_ | with_reducible refine Blk.alloc ?_ _ | with_reducible refine Blk.drewN ?_ _ | with_reducible apply Blk.setT0 | with_reducible apply Blk.setT1 | with_reducible refine Blk.far ?_ (by first | (simp; done) | omega | (simp; omega)) _ | with_reducible refine Blk.then_ ?_ (by with_reducible assumption)))
  have ns : Blk X14 bs 25 #[.int .i64 sN, .int .i64 sD] := by rw [hX]; (repeat (first | with_reducible assumption | with_reducible exact Blk.new _ _ _ | with_reducible refine Blk.drew ?_ | with_reducible refine Blk.alloc ?_ _ | with_reducible refine Blk.drewN ?_ _ | with_reducible apply Blk.setT0 | with_reducible apply Blk.setT1 | with_reducible refine Blk.far ?_ (by first | (simp; done) | omega | (simp; omega)) _ | with_reducible refine Blk.then_ ?_ (by with_reducible assumption)))
  have ni : Blk X14 bi 25 #[.int .i64 sN, .int .i64 sD] := by rw [hX]; (repeat (first | with_reducible assumption | with_reducible exact Blk.new _ _ _ | with_reducible refine Blk.drew ?_ | with_reducible refine Blk.alloc ?_ _ | with_reducible refine Blk.drewN ?_ _ | with_reducible apply Blk.setT0 | with_reducible apply Blk.setT1 | with_reducible refine Blk.far ?_ (by first | (simp; done) | omega | (simp; omega)) _ | with_reducible refine Blk.then_ ?_ (by with_reducible assumption)))
  have ne : Blk X14 be 25 #[.int .i64 eN, .int .i64 eD] := by rw [hX]; (repeat (first | with_reducible assumption | with_reducible exact Blk.new _ _ _ | with_reducible refine Blk.drew ?_ | with_reducible refine Blk.alloc ?_ _ | with_reducible refine Blk.drewN ?_ _ | with_reducible apply Blk.setT0 | with_reducible apply Blk.setT1 | with_reducible refine Blk.far ?_ (by first | (simp; done) | omega | (simp; omega)) _ | with_reducible refine Blk.then_ ?_ (by with_reducible assumption)))
  have nj : Blk X14 bj 25 #[.int .i64 eN, .int .i64 eD] := by rw [hX]; (repeat (first | with_reducible assumption | with_reducible exact Blk.new _ _ _ | with_reducible refine Blk.drew ?_ | with_reducible refine Blk.alloc ?_ _ | with_reducible refine Blk.drewN ?_ _ | with_reducible apply Blk.setT0 | with_reducible apply Blk.setT1 | with_reducible refine Blk.far ?_ (by first | (simp; done) | omega | (simp; omega)) _ | with_reducible refine Blk.then_ ?_ (by with_reducible assumption)))
  have nu : Blk X14 (w1.heap.size) 25 #[.int .i64 uN, .int .i64 uD] := by rw [hX]; exact Blk.new _ _ _
  have lu : w.heap.size ≤ w1.heap.size := (below_then HB hbw1).size
  have oau : ba < w1.heap.size := (ga.then_ hbw1).lt
  have obu : bb < w1.heap.size := (gb.then_ hbw1).lt
  have osu : bs < w1.heap.size := (gs.then_ hbw1).lt
  have oiu : bi < w1.heap.size := (gi.then_ hbw1).lt
  have oeu : be < w1.heap.size := (ge.then_ hbw1).lt
  have oju : bj < w1.heap.size := (gj.then_ hbw1).lt
  have NB : Below w.heap.size w X14 := by rw [hX]; (repeat (first | with_reducible assumption | with_reducible exact Below.refl _ _ | with_reducible refine below_drewN ?_ _ | with_reducible refine Below.drew ?_ | with_reducible refine below_alloc ?_ _ | with_reducible refine Below.setCell ?_ (by first | omega | (simp; done) | (simp; omega)) _ | with_reducible refine below_then ?_ (by with_reducible assumption) | (refine below_then (a := World.drew _) ?_ (by with_reducible assumption))))
  clear hX ga gb gs gi ge gj HB
  obtain ⟨bu, eb⟩ : ∃ b, w1.heap.size = b := ⟨_, rfl⟩
  rw [eb] at nu lu oau obu osu oiu oeu oju ⊢
  clear eb
  have ga := na
  clear na
  have gb := nb
  clear nb
  have gs := ns
  clear ns
  have gi := ni
  clear ni
  have ge := ne
  clear ne
  have gj := nj
  clear nj
  have gu := nu
  clear nu
  have HB := NB
  clear NB
  have hz := Below.refl X14.heap.size X14
  have ca0 : X14.cell? ⟨ba, 0, none⟩ = some (.int .i64 n1) := (ga).cell 0
  have ca1 : X14.cell? ⟨ba, 1, none⟩ = some (.int .i64 d1) := (ga).cell 1
  have cb0 : X14.cell? ⟨bb, 0, none⟩ = some (.int .i64 n2) := (gb).cell 0
  have cb1 : X14.cell? ⟨bb, 1, none⟩ = some (.int .i64 d2) := (gb).cell 1
  go_upto_region 18 with ((go_at_call 30; (with_reducible refine (U2.out _).mono ?_); rintro e w1 ⟨rfl, hbw1⟩))
  clear U2
  clear ca0 ca1 cb0 cb1
  refine name_wp ?_
  intro X15 hX
  have na : Blk X15 ba 25 #[.int .i64 n1, .int .i64 d1] := by rw [hX]; (repeat (first | with_reducible assumption | with_reducible exact Blk.new _ _ _ | with_reducible refine Blk.drew ?_ | with_reducible refine Blk.alloc ?_ _ | with_reducible refine Blk.drewN ?_ _ | with_reducible apply Blk.setT0 | with_reducible apply Blk.setT1 | with_reducible refine Blk.far ?_ (by first | (simp; done) | omega | (simp; omega)) _ | with_reducible refine Blk.then_ ?_ (by with_reducible assumption)))
  have nb : Blk X15 bb 25 #[.int .i64 n2, .int .i64 d2] := by rw [hX]; (repeat (first | with_reducible assumption | with_reducible exact Blk.new _ _ _ | with_reducible refine Blk.drew ?_ | with_reducible refine Blk.alloc ?_ _ | with_reducible refine Blk.drewN ?_ _ | with_reducible apply Blk.setT0 | with_reducible apply Blk.setT1 | with_reducible refine Blk.far ?_ (by first | (simp; done) | omega | (simp; omega)) _ | with_reducible refine Blk.then_ ?_ (by with_reducible assumption)))
  have ns : Blk X15 bs 25 #[.int .i64 sN, .int .i64 sD] := by rw [hX]; (repeat (first | with_reducible assumption | with_reducible exact Blk.new _ _ _ | with_reducible refine Blk.drew ?_ | with_reducible refine Blk.alloc ?_ _ | with_reducible refine Blk.drewN ?_ _ | with_reducible apply Blk.setT0 | with_reducible apply Blk.setT1 | with_reducible refine Blk.far ?_ (by first | (simp; done) | omega | (simp; omega)) _ | with_reducible refine Blk.then_ ?_ (by with_reducible assumption)))
  have ni : Blk X15 bi 25 #[.int .i64 sN, .int .i64 sD] := by rw [hX]; (repeat (first | with_reducible assumption | with_reducible exact Blk.new _ _ _ | with_reducible refine Blk.drew ?_ | with_reducible refine Blk.alloc ?_ _ | with_reducible refine Blk.drewN ?_ _ | with_reducible apply Blk.setT0 | with_reducible apply Blk.setT1 | with_reducible refine Blk.far ?_ (by first | (simp; done) | omega | (simp; omega)) _ | with_reducible refine Blk.then_ ?_ (by with_reducible assumption)))
  have ne : Blk X15 be 25 #[.int .i64 eN, .int .i64 eD] := by rw [hX]; (repeat (first | with_reducible assumption | with_reducible exact Blk.new _ _ _ | with_reducible refine Blk.drew ?_ | with_reducible refine Blk.alloc ?_ _ | with_reducible refine Blk.drewN ?_ _ | with_reducible apply Blk.setT0 | with_reducible apply Blk.setT1 | with_reducible refine Blk.far ?_ (by first | (simp; done) | omega | (simp; omega)) _ | with_reducible refine Blk.then_ ?_ (by with_reducible assumption)))
  have nj : Blk X15 bj 25 #[.int .i64 eN, .int .i64 eD] := by rw [hX]; (repeat (first | with_reducible assumption | with_reducible exact Blk.new _ _ _ | with_reducible refine Blk.drew ?_ | with_reducible refine Blk.alloc ?_ _ | with_reducible refine Blk.drewN ?_ _ | with_reducible apply Blk.setT0 | with_reducible apply Blk.setT1 | with_reducible refine Blk.far ?_ (by first | (simp; done) | omega | (simp; omega)) _ | with_reducible refine Blk.then_ ?_ (by with_reducible assumption)))
  have nu : Blk X15 bu 25 #[.int .i64 uN, .int .i64 uD] := by rw [hX]; (repeat (first | with_reducible assumption | with_reducible exact Blk.new _ _ _ | with_reducible refine Blk.drew ?_ | with_reducible refine Blk.alloc ?_ _ | with_reducible refine Blk.drewN ?_ _ | with_reducible apply Blk.setT0 | with_reducible apply Blk.setT1 | with_reducible refine Blk.far ?_ (by first | (simp; done) | omega | (simp; omega)) _ | with_reducible refine Blk.then_ ?_ (by with_reducible assumption)))
  have nv : Blk X15 (w1.heap.size) 25 #[.int .i64 uN, .int .i64 uD] := by rw [hX]; exact Blk.new _ _ _
  have lv : w.heap.size ≤ w1.heap.size := (below_then HB hbw1).size
  have oav : ba < w1.heap.size := (ga.then_ hbw1).lt
  have obv : bb < w1.heap.size := (gb.then_ hbw1).lt
  have osv : bs < w1.heap.size := (gs.then_ hbw1).lt
  have oiv : bi < w1.heap.size := (gi.then_ hbw1).lt
  have oev : be < w1.heap.size := (ge.then_ hbw1).lt
  have ojv : bj < w1.heap.size := (gj.then_ hbw1).lt
  have ouv : bu < w1.heap.size := (gu.then_ hbw1).lt
  have NB : Below w.heap.size w X15 := by rw [hX]; (repeat (first | with_reducible assumption | with_reducible exact Below.refl _ _ | with_reducible refine below_drewN ?_ _ | with_reducible refine Below.drew ?_ | with_reducible refine below_alloc ?_ _ | with_reducible refine Below.setCell ?_ (by first | omega | (simp; done) | (simp; omega)) _ | with_reducible refine below_then ?_ (by with_reducible assumption) | (refine below_then (a := World.drew _) ?_ (by with_reducible assumption))))
  clear hX ga gb gs gi ge gj gu HB
  obtain ⟨bv, eb⟩ : ∃ b, w1.heap.size = b := ⟨_, rfl⟩
  rw [eb] at nv lv oav obv osv oiv oev ojv ouv ⊢
  clear eb
  have ga := na
  clear na
  have gb := nb
  clear nb
  have gs := ns
  clear ns
  have gi := ni
  clear ni
  have ge := ne
  clear ne
  have gj := nj
  clear nj
  have gu := nu
  clear nu
  have gv := nv
  clear nv
  have HB := NB
  clear NB
  have hz := Below.refl X15.heap.size X15
  have cs0 : X15.cell? ⟨bs, 0, none⟩ = some (.int .i64 sN) := (gs).cell 0
  have cs1 : X15.cell? ⟨bs, 1, none⟩ = some (.int .i64 sD) := (gs).cell 1
  have ci0 : X15.cell? ⟨bi, 0, none⟩ = some (.int .i64 sN) := (gi).cell 0
  have ci1 : X15.cell? ⟨bi, 1, none⟩ = some (.int .i64 sD) := (gi).cell 1
  have ce0 : X15.cell? ⟨be, 0, none⟩ = some (.int .i64 eN) := (ge).cell 0
  have ce1 : X15.cell? ⟨be, 1, none⟩ = some (.int .i64 eD) := (ge).cell 1
  have cj0 : X15.cell? ⟨bj, 0, none⟩ = some (.int .i64 eN) := (gj).cell 0
  have cj1 : X15.cell? ⟨bj, 1, none⟩ = some (.int .i64 eD) := (gj).cell 1
  have cu0 : X15.cell? ⟨bu, 0, none⟩ = some (.int .i64 uN) := (gu).cell 0
  have cu1 : X15.cell? ⟨bu, 1, none⟩ = some (.int .i64 uD) := (gu).cell 1
  have cv0 : X15.cell? ⟨bv, 0, none⟩ = some (.int .i64 uN) := (gv).cell 0
  have cv1 : X15.cell? ⟨bv, 1, none⟩ = some (.int .i64 uD) := (gv).cell 1
  have q1 := fun W => eqv_yes sN sD W
  have q2 := fun W => eqv_yes eN eD W
  have q3 := fun W => eqv_yes uN uD W
  go_upto_region 20 with (fail)
  clear q1 q2 q3
  clear cs0 cs1 ci0 ci1 ce0 ce1 cj0 cj1 cu0 cu1 cv0 cv1
  refine name_wp ?_
  intro X16 hX
  have na : Blk X16 ba 25 #[.int .i64 n1, .int .i64 d1] := by rw [hX]; (repeat (first | with_reducible assumption | with_reducible exact Blk.new _ _ _ | with_reducible refine Blk.drew ?_ | with_reducible refine Blk.alloc ?_ _ | with_reducible refine Blk.drewN ?_ _ | with_reducible apply Blk.setT0 | with_reducible apply Blk.setT1 | with_reducible refine Blk.far ?_ (by first | (simp; done) | omega | (simp; omega)) _ | with_reducible refine Blk.then_ ?_ (by with_reducible assumption)))
  have nb : Blk X16 bb 25 #[.int .i64 n2, .int .i64 d2] := by rw [hX]; (repeat (first | with_reducible assumption | with_reducible exact Blk.new _ _ _ | with_reducible refine Blk.drew ?_ | with_reducible refine Blk.alloc ?_ _ | with_reducible refine Blk.drewN ?_ _ | with_reducible apply Blk.setT0 | with_reducible apply Blk.setT1 | with_reducible refine Blk.far ?_ (by first | (simp; done) | omega | (simp; omega)) _ | with_reducible refine Blk.then_ ?_ (by with_reducible assumption)))
  have NB : Below w.heap.size w X16 := by rw [hX]; (repeat (first | with_reducible assumption | with_reducible exact Below.refl _ _ | with_reducible refine below_drewN ?_ _ | with_reducible refine Below.drew ?_ | with_reducible refine below_alloc ?_ _ | with_reducible refine Below.setCell ?_ (by first | omega | (simp; done) | (simp; omega)) _ | with_reducible refine below_then ?_ (by with_reducible assumption) | (refine below_then (a := World.drew _) ?_ (by with_reducible assumption))))
  clear hX ga gb gs gi ge gj gu gv HB
  have ga := na
  clear na
  have gb := nb
  clear nb
  have HB := NB
  clear NB
  have hz := Below.refl X16.heap.size X16
  have ca0 : X16.cell? ⟨ba, 0, none⟩ = some (.int .i64 n1) := (ga).cell 0
  have ca1 : X16.cell? ⟨ba, 1, none⟩ = some (.int .i64 d1) := (ga).cell 1
  have cb0 : X16.cell? ⟨bb, 0, none⟩ = some (.int .i64 n2) := (gb).cell 0
  have cb1 : X16.cell? ⟨bb, 1, none⟩ = some (.int .i64 d2) := (gb).cell 1
  go_upto_region 21 with ((go_at_call 31; (with_reducible refine (D1.out _).mono ?_); rintro e w1 ⟨rfl, hbw1⟩))
  clear D1
  clear ca0 ca1 cb0 cb1
  refine name_wp ?_
  intro X17 hX
  have na : Blk X17 ba 25 #[.int .i64 n1, .int .i64 d1] := by rw [hX]; (repeat (first | with_reducible assumption | with_reducible exact Blk.new _ _ _ | with_reducible refine Blk.drew ?_ | with_reducible refine Blk.alloc ?_ _ | with_reducible refine Blk.drewN ?_ _ | with_reducible apply Blk.setT0 | with_reducible apply Blk.setT1 | with_reducible refine Blk.far ?_ (by first | (simp; done) | omega | (simp; omega)) _ | with_reducible refine Blk.then_ ?_ (by with_reducible assumption)))
  have nb : Blk X17 bb 25 #[.int .i64 n2, .int .i64 d2] := by rw [hX]; (repeat (first | with_reducible assumption | with_reducible exact Blk.new _ _ _ | with_reducible refine Blk.drew ?_ | with_reducible refine Blk.alloc ?_ _ | with_reducible refine Blk.drewN ?_ _ | with_reducible apply Blk.setT0 | with_reducible apply Blk.setT1 | with_reducible refine Blk.far ?_ (by first | (simp; done) | omega | (simp; omega)) _ | with_reducible refine Blk.then_ ?_ (by with_reducible assumption)))
  have nz : Blk X17 (w1.heap.size) 25 #[.int .i64 zN, .int .i64 zD] := by rw [hX]; exact Blk.new _ _ _
  have lz : w.heap.size ≤ w1.heap.size := (below_then HB hbw1).size
  have oaz : ba < w1.heap.size := (ga.then_ hbw1).lt
  have obz : bb < w1.heap.size := (gb.then_ hbw1).lt
  have NB : Below w.heap.size w X17 := by rw [hX]; (repeat (first | with_reducible assumption | with_reducible exact Below.refl _ _ | with_reducible refine below_drewN ?_ _ | with_reducible refine Below.drew ?_ | with_reducible refine below_alloc ?_ _ | with_reducible refine Below.setCell ?_ (by first | omega | (simp; done) | (simp; omega)) _ | with_reducible refine below_then ?_ (by with_reducible assumption) | (refine below_then (a := World.drew _) ?_ (by with_reducible assumption))))
  clear hX ga gb HB
  obtain ⟨bz, eb⟩ : ∃ b, w1.heap.size = b := ⟨_, rfl⟩
  rw [eb] at nz lz oaz obz ⊢
  clear eb
  have ga := na
  clear na
  have gb := nb
  clear nb
  have gz := nz
  clear nz
  have HB := NB
  clear NB
  have hz := Below.refl X17.heap.size X17
  have ca0 : X17.cell? ⟨ba, 0, none⟩ = some (.int .i64 n1) := (ga).cell 0
  have ca1 : X17.cell? ⟨ba, 1, none⟩ = some (.int .i64 d1) := (ga).cell 1
  have cb0 : X17.cell? ⟨bb, 0, none⟩ = some (.int .i64 n2) := (gb).cell 0
  have cb1 : X17.cell? ⟨bb, 1, none⟩ = some (.int .i64 d2) := (gb).cell 1
  go_upto_region 22 with ((go_at_call 32; (with_reducible refine (D2.out _).mono ?_); rintro e w1 ⟨rfl, hbw1⟩))
  clear D2
  clear ca0 ca1 cb0 cb1
  refine name_wp ?_
  intro X18 hX
  have na : Blk X18 ba 25 #[.int .i64 n1, .int .i64 d1] := by rw [hX]; (repeat (first | with_reducible assumption | with_reducible exact Blk.new _ _ _ | with_reducible refine Blk.drew ?_ | with_reducible refine Blk.alloc ?_ _ | with_reducible refine Blk.drewN ?_ _ | with_reducible apply Blk.setT0 | with_reducible apply Blk.setT1 | with_reducible refine Blk.far ?_ (by first | (simp; done) | omega | (simp; omega)) _ | with_reducible refine Blk.then_ ?_ (by with_reducible assumption)))
  have nb : Blk X18 bb 25 #[.int .i64 n2, .int .i64 d2] := by rw [hX]; (repeat (first | with_reducible assumption | with_reducible exact Blk.new _ _ _ | with_reducible refine Blk.drew ?_ | with_reducible refine Blk.alloc ?_ _ | with_reducible refine Blk.drewN ?_ _ | with_reducible apply Blk.setT0 | with_reducible apply Blk.setT1 | with_reducible refine Blk.far ?_ (by first | (simp; done) | omega | (simp; omega)) _ | with_reducible refine Blk.then_ ?_ (by with_reducible assumption)))
  have nz : Blk X18 bz 25 #[.int .i64 zN, .int .i64 zD] := by rw [hX]; (repeat (first | with_reducible assumption | with_reducible exact Blk.new _ _ _ | with_reducible refine Blk.drew ?_ | with_reducible refine Blk.alloc ?_ _ | with_reducible refine Blk.drewN ?_ _ | with_reducible apply Blk.setT0 | with_reducible apply Blk.setT1 | with_reducible refine Blk.far ?_ (by first | (simp; done) | omega | (simp; omega)) _ | with_reducible refine Blk.then_ ?_ (by with_reducible assumption)))
  have nc : Blk X18 (w1.heap.size) 25 #[.int .i64 zN, .int .i64 zD] := by rw [hX]; exact Blk.new _ _ _
  have lc : w.heap.size ≤ w1.heap.size := (below_then HB hbw1).size
  have oac : ba < w1.heap.size := (ga.then_ hbw1).lt
  have obc : bb < w1.heap.size := (gb.then_ hbw1).lt
  have ozc : bz < w1.heap.size := (gz.then_ hbw1).lt
  have NB : Below w.heap.size w X18 := by rw [hX]; (repeat (first | with_reducible assumption | with_reducible exact Below.refl _ _ | with_reducible refine below_drewN ?_ _ | with_reducible refine Below.drew ?_ | with_reducible refine below_alloc ?_ _ | with_reducible refine Below.setCell ?_ (by first | omega | (simp; done) | (simp; omega)) _ | with_reducible refine below_then ?_ (by with_reducible assumption) | (refine below_then (a := World.drew _) ?_ (by with_reducible assumption))))
  clear hX ga gb gz HB
  obtain ⟨bc, eb⟩ : ∃ b, w1.heap.size = b := ⟨_, rfl⟩
  rw [eb] at nc lc oac obc ozc ⊢
  clear eb
  have ga := na
  clear na
  have gb := nb
  clear nb
  have gz := nz
  clear nz
  have gc := nc
  clear nc
  have HB := NB
  clear NB
  have hz := Below.refl X18.heap.size X18
  have ca0 : X18.cell? ⟨ba, 0, none⟩ = some (.int .i64 n1) := (ga).cell 0
  have ca1 : X18.cell? ⟨ba, 1, none⟩ = some (.int .i64 d1) := (ga).cell 1
  have cb0 : X18.cell? ⟨bb, 0, none⟩ = some (.int .i64 n2) := (gb).cell 0
  have cb1 : X18.cell? ⟨bb, 1, none⟩ = some (.int .i64 d2) := (gb).cell 1
  have cz0 : X18.cell? ⟨bz, 0, none⟩ = some (.int .i64 zN) := (gz).cell 0
  have cz1 : X18.cell? ⟨bz, 1, none⟩ = some (.int .i64 zD) := (gz).cell 1
  have cc0 : X18.cell? ⟨bc, 0, none⟩ = some (.int .i64 zN) := (gc).cell 0
  have cc1 : X18.cell? ⟨bc, 1, none⟩ = some (.int .i64 zD) := (gc).cell 1
  have q1 := fun W => eqv_yes zN zD W
  have rg0 := cell_regrown ca0
  have rg1 := cell_regrown ca1
  have rg2 := cell_regrown cb0
  have rg3 := cell_regrown cb1
  have rg4 := cell_regrown cz0
  have rg5 := cell_regrown cz1
  have rg6 := cell_regrown cc0
  have rg7 := cell_regrown cc1
  refine wp_region_qt [0, 1, 2, 3, 4, 5, 6, 7, 8, 9, 10, 11, 12, 13, 14, 15, 16, 17, 18, 19, 20, 21, 22, 23, 24, 25, 26, 27, 28, 29, 30, 31, 32, 33, 34, 35, 36, 37, 38, 39, 40] [41] (by kernel_rfl) (by kernel_rfl) (by repeat (first | with_reducible refine panOk_then ?_ | with_reducible refine panOk_block ?_ | exact panOk_body)) ?_
  simp only [opsAt, List.getElem?_toArray, List.getElem?_cons_succ, List.getElem?_cons_zero, Option.toList_some, List.cons_append, List.nil_append]
  repeat (go_big_quiet_step ((first | (go_at_call 15; with_reducible exact qt_call (fun W' _ => V1.out W') _ _) | (go_at_call 33; with_reducible exact qt_call (fun W' _ => V2.out W') _ _) | (go_at_call 16; with_reducible exact qt_call (fun W' _ => C1.out W') _ _) | (go_at_call 34; with_reducible exact qt_call (fun W' _ => C2.out W') _ _) | (go_at_call 19; with_reducible exact qt_call (fun W' _ => F1.out W') _ _) | (go_at_call 35; with_reducible exact qt_call (fun W' _ => F2.out W') _ _) | (go_at_call 22; with_reducible exact qt_call (fun W' hW => T1.out W' (below_then HB hW)) _ _) | (go_at_call 36; with_reducible exact qt_call (fun W' _ => T2.out W') _ _))))
  refine wpQuiet_nil ?_
  intro Z9 hw2
  have hbZ9 := qt_world hw2
  clear hw2 rg0 rg1 rg2 rg3 rg4 rg5 rg6 rg7
  go_wp2
  go_ret
  exact ⟨rfl, below_then HB hbZ9⟩
end Go.Proofs.YtbkekabhdpoddaaDoor
