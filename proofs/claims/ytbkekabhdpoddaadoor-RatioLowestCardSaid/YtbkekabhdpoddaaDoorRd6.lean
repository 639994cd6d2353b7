/- The walk of RatioLowest. -/
import Derived.Test.YtbkekabhdpoddaaDoorRd0
namespace Go.Proofs.YtbkekabhdpoddaaDoor
open Go.RowKit

theorem small_any (n : Int) (w : World) : Calls Tryd.prog 12 #[.int .i64 n] w fun e w' => e = .returned (.int .i64 (n.tmod 1000000001)) ∧ Below w.heap.size w w' := by
  have h1 := Int.tmod_lt_of_pos n (show (0 : Int) < 1000000001 by omega)
  have h2 := Int.lt_tmod_of_pos n (show (0 : Int) < 1000000001 by omega)
  go_enter Tryd.func12, Tryd.ntmps12
  go_wp2
  go_ret
  exact ⟨rfl, Below.refl _ _⟩
set_option maxRecDepth 100000 in
set_option maxHeartbeats 6400000 in
theorem lowest_zero (p1 p2 a b A B G L mN mD mE x : Int) (w : World)
    (HH : Hid (∀ W, Below w.heap.size w W → Calls Tryd.prog 11 #[] W fun e w' => e = .returned (.bool true) ∧ Below W.heap.size W w'))
    (HS1 : Hid (∀ W, Calls Tryd.prog 12 #[.int .i64 p1] W fun e w' => e = .returned (.int .i64 a) ∧ Below W.heap.size W w')) (HS2 : Hid (∀ W, Calls Tryd.prog 12 #[.int .i64 p2] W fun e w' => e = .returned (.int .i64 b) ∧ Below W.heap.size W w'))
    (HM : Hid (∀ W, Calls Tryd.prog 13 #[.int .i64 a, .int .i64 b] W fun e w' => e = .returned (.tuple #[.agg #[.int .i64 mN, .int .i64 mD], .int .i64 mE]) ∧ Below W.heap.size W w'))
    (ra : -1000000000 ≤ a ∧ a ≤ 1000000000) (rb : -1000000000 ≤ b ∧ b ≤ 1000000000)
    (ha : ∀ W ts t, (Builtin.max_ ts t #[.int .i64 a, .int .i64 (-a)]).run Tryd.prog W = .ok (.int .i64 A) W) (hb : ∀ W ts t, (Builtin.max_ ts t #[.int .i64 b, .int .i64 (-b)]).run Tryd.prog W = .ok (.int .i64 B) W)
    (z : b = 0) (zN : mN = 0) (zD : mD = 0) (zE : mE = 1) :
    Calls Tryd.prog 3 #[.int .i64 p1, .int .i64 p2] w fun e w' => e = .returned (.bool true) ∧ Below w.heap.size w w' := by
  subst z zN zD zE
  have HB := Below.refl w.heap.size w
  have hz := Below.refl w.heap.size w
  go_enter Tryd.func3, Tryd.ntmps3
  go_upto_region 4 with (first | (go_at_call 11; (with_reducible refine (HH.out _ HB).mono ?_); rintro e w1 ⟨rfl, hbw1⟩) | (go_at_call 12; (with_reducible refine (HS1.out _).mono ?_); rintro e w2 ⟨rfl, hbw2⟩) | (go_at_call 12; (with_reducible refine (HS2.out _).mono ?_); rintro e w3 ⟨rfl, hbw3⟩))
  go_upto_region 5 with ((go_at_call 13; (with_reducible refine (HM.out _).mono ?_); rintro e w4 ⟨rfl, hbw4⟩))
  refine name_wp ?_
  intro X1 hX
  have nm : Blk X1 (w4.heap.size) 25 #[.int .i64 0, .int .i64 0] := by rw [hX]; exact Blk.new _ _ _
  have lm : w.heap.size ≤ w4.heap.size := (below_then (below_then (below_then (below_then HB hbw1) hbw2) hbw3) hbw4).size
  have NB : Below w.heap.size w X1 := by rw [hX]; (repeat (first | with_reducible assumption | with_reducible exact Below.refl _ _ | with_reducible refine below_drewN ?_ _ | with_reducible refine Below.drew ?_ | with_reducible refine below_alloc ?_ _ | with_reducible refine Below.setCell ?_ (by first | omega | (simp; done) | (simp; omega)) _ | with_reducible refine below_then ?_ (by with_reducible assumption) | (refine below_then (a := World.drew _) ?_ (by with_reducible assumption))))
  clear hX HB
  obtain ⟨bm, eb⟩ : ∃ b, w4.heap.size = b := ⟨_, rfl⟩
  rw [eb] at nm lm ⊢
  clear eb
  have gm := nm
  clear nm
  have HB := NB
  clear NB
  have hz := Below.refl X1.heap.size X1
  have heq := fun W => eqv_yes 0 0 W
  have cm0 : X1.cell? ⟨bm, 0, none⟩ = some (.int .i64 0) := (gm).cell 0
  have cm1 : X1.cell? ⟨bm, 1, none⟩ = some (.int .i64 0) := (gm).cell 1
  go_wp2
  go_ret
  exact ⟨rfl, by (repeat (first | with_reducible assumption | with_reducible exact Below.refl _ _ | with_reducible refine below_drewN ?_ _ | with_reducible refine Below.drew ?_ | with_reducible refine below_alloc ?_ _ | with_reducible refine Below.setCell ?_ (by first | omega | (simp; done) | (simp; omega)) _ | with_reducible refine below_then ?_ (by with_reducible assumption) | (refine below_then (a := World.drew _) ?_ (by with_reducible assumption))))⟩
set_option maxRecDepth 100000 in
set_option maxHeartbeats 6400000 in
theorem lowest_key (p1 p2 a b A B G L mN mD mE x : Int) (w : World)
    (HH : Hid (∀ W, Below w.heap.size w W → Calls Tryd.prog 11 #[] W fun e w' => e = .returned (.bool true) ∧ Below W.heap.size W w'))
    (HS1 : Hid (∀ W, Calls Tryd.prog 12 #[.int .i64 p1] W fun e w' => e = .returned (.int .i64 a) ∧ Below W.heap.size W w')) (HS2 : Hid (∀ W, Calls Tryd.prog 12 #[.int .i64 p2] W fun e w' => e = .returned (.int .i64 b) ∧ Below W.heap.size W w'))
    (HM : Hid (∀ W, Calls Tryd.prog 13 #[.int .i64 a, .int .i64 b] W fun e w' => e = .returned (.tuple #[.agg #[.int .i64 mN, .int .i64 mD], .int .i64 mE]) ∧ Below W.heap.size W w'))
    (ra : -1000000000 ≤ a ∧ a ≤ 1000000000) (rb : -1000000000 ≤ b ∧ b ≤ 1000000000)
    (ha : ∀ W ts t, (Builtin.max_ ts t #[.int .i64 a, .int .i64 (-a)]).run Tryd.prog W = .ok (.int .i64 A) W) (hb : ∀ W ts t, (Builtin.max_ ts t #[.int .i64 b, .int .i64 (-b)]).run Tryd.prog W = .ok (.int .i64 B) W)
    (hb0 : b ≠ 0) (rA : 0 ≤ A ∧ A ≤ 1000000000) (rB : 0 < B ∧ B ≤ 1000000000) (HG : Hid (∀ W, Calls Tryd.prog 14 #[.int .u64 A, .int .u64 B] W fun e w' => e = .returned (.int .u64 G) ∧ Below W.heap.size W w'))
    (rG : 0 < G ∧ G ≤ 1000000000) (hL0 : B.tdiv G = L) (rL : 0 ≤ L ∧ L ≤ 1000000000)
    (HV : Hid (∀ W, mE = 0 → Calls Tryd.prog 15 #[.agg #[.int .i64 mN, .int .i64 mD]] W fun e w' => e = .returned (.bool true) ∧ Below W.heap.size W w'))
    (hw : (1000000 < L ∧ mN = 0 ∧ mD = 0 ∧ mE = 2) ∨ (¬ 1000000 < L ∧ mE = 0 ∧ mN * b = x ∧ a * mD = x ∧ mD = L ∧ (-1000000000000000000 ≤ x ∧ x ≤ 1000000000000000000))) :
    Calls Tryd.prog 3 #[.int .i64 p1, .int .i64 p2] w fun e w' => e = .returned (.bool true) ∧ Below w.heap.size w w' := by
  have HB := Below.refl w.heap.size w
  have hz := Below.refl w.heap.size w
  go_enter Tryd.func3, Tryd.ntmps3
  go_upto_region 4 with (first | (go_at_call 11; (with_reducible refine (HH.out _ HB).mono ?_); rintro e w1 ⟨rfl, hbw1⟩) | (go_at_call 12; (with_reducible refine (HS1.out _).mono ?_); rintro e w2 ⟨rfl, hbw2⟩) | (go_at_call 12; (with_reducible refine (HS2.out _).mono ?_); rintro e w3 ⟨rfl, hbw3⟩))
  go_upto_region 5 with ((go_at_call 13; (with_reducible refine (HM.out _).mono ?_); rintro e w4 ⟨rfl, hbw4⟩))
  refine name_wp ?_
  intro X1 hX
  have nm : Blk X1 (w4.heap.size) 25 #[.int .i64 mN, .int .i64 mD] := by rw [hX]; exact Blk.new _ _ _
  have lm : w.heap.size ≤ w4.heap.size := (below_then (below_then (below_then (below_then HB hbw1) hbw2) hbw3) hbw4).size
  have NB : Below w.heap.size w X1 := by rw [hX]; (repeat (first | with_reducible assumption | with_reducible exact Below.refl _ _ | with_reducible refine below_drewN ?_ _ | with_reducible refine Below.drew ?_ | with_reducible refine below_alloc ?_ _ | with_reducible refine Below.setCell ?_ (by first | omega | (simp; done) | (simp; omega)) _ | with_reducible refine below_then ?_ (by with_reducible assumption) | (refine below_then (a := World.drew _) ?_ (by with_reducible assumption))))
  clear hX HB
  obtain ⟨bm, eb⟩ : ∃ b, w4.heap.size = b := ⟨_, rfl⟩
  rw [eb] at nm lm ⊢
  clear eb
  have gm := nm
  clear nm
  have HB := NB
  clear NB
  have hz := Below.refl X1.heap.size X1
  have t0 : (b == 0) = false := by simpa using hb0
  go_upto_region 8 with ((go_at_call 14; (with_reducible refine (HG.out _).mono ?_); rintro e w1 ⟨rfl, hbw1⟩))
  refine name_wp ?_
  intro X2 hX
  have nm : Blk X2 bm 25 #[.int .i64 mN, .int .i64 mD] := by rw [hX]; (repeat (first | with_reducible assumption | with_reducible exact Blk.new _ _ _ | with_reducible refine Blk.drew ?_ | with_reducible refine Blk.alloc ?_ _ | with_reducible refine Blk.drewN ?_ _ | with_reducible apply Blk.setT0 | with_reducible apply Blk.setT1 | with_reducible refine Blk.far ?_ (by first | (simp; done) | omega | (simp; omega)) _ | with_reducible refine Blk.then_ ?_ (by with_reducible assumption)))
  have NB : Below w.heap.size w X2 := by rw [hX]; (repeat (first | with_reducible assumption | with_reducible exact Below.refl _ _ | with_reducible refine below_drewN ?_ _ | with_reducible refine Below.drew ?_ | with_reducible refine below_alloc ?_ _ | with_reducible refine Below.setCell ?_ (by first | omega | (simp; done) | (simp; omega)) _ | with_reducible refine below_then ?_ (by with_reducible assumption) | (refine below_then (a := World.drew _) ?_ (by with_reducible assumption))))
  clear hX gm HB
  have gm := nm
  clear nm
  have HB := NB
  clear NB
  have hz := Below.refl X2.heap.size X2
  clear ha hb HG hL0 rA rB rG
  rcases hw with ⟨h1, rfl, rfl, rfl⟩ | ⟨h1, rfl, h2, h3, rfl, rx⟩
  · have t1 := decide_eq_true h1
    have heq := fun W => eqv_yes 0 0 W
    have cm0 : X2.cell? ⟨bm, 0, none⟩ = some (.int .i64 0) := (gm).cell 0
    have cm1 : X2.cell? ⟨bm, 1, none⟩ = some (.int .i64 0) := (gm).cell 1
    go_wp2
    go_ret
    exact ⟨rfl, by (repeat (first | with_reducible assumption | with_reducible exact Below.refl _ _ | with_reducible refine below_drewN ?_ _ | with_reducible refine Below.drew ?_ | with_reducible refine below_alloc ?_ _ | with_reducible refine Below.setCell ?_ (by first | omega | (simp; done) | (simp; omega)) _ | with_reducible refine below_then ?_ (by with_reducible assumption) | (refine below_then (a := World.drew _) ?_ (by with_reducible assumption))))⟩
  · have t1 := decide_eq_false (show ¬ 1000000 < mD by omega)
    have HVQ := Lib.hid (fun W => HV.out W rfl)
    clear HV h1
    have cm0 : X2.cell? ⟨bm, 0, none⟩ = some (.int .i64 mN) := (gm).cell 0
    have cm1 : X2.cell? ⟨bm, 1, none⟩ = some (.int .i64 mD) := (gm).cell 1
    go_wp2_with ((go_at_call 15; (with_reducible refine (HVQ.out _).mono ?_); rintro e w1 ⟨rfl, hbw1⟩; have k1m0 : w1.cell? ⟨bm, 0, none⟩ = some (.int .i64 mN) := ((gm.then_ hbw1)).cell 0; have k1m1 : w1.cell? ⟨bm, 1, none⟩ = some (.int .i64 mD) := ((gm.then_ hbw1)).cell 1))
    go_ret
    exact ⟨rfl, by (repeat (first | with_reducible assumption | with_reducible exact Below.refl _ _ | with_reducible refine below_drewN ?_ _ | with_reducible refine Below.drew ?_ | with_reducible refine below_alloc ?_ _ | with_reducible refine Below.setCell ?_ (by first | omega | (simp; done) | (simp; omega)) _ | with_reducible refine below_then ?_ (by with_reducible assumption) | (refine below_then (a := World.drew _) ?_ (by with_reducible assumption))))⟩
end Go.Proofs.YtbkekabhdpoddaaDoor
