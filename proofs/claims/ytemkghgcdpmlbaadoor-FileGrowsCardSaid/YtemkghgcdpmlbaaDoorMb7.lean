/- Contracts of functions and plain laws, joined: Kb4. -/
import Derived.Test.YtemkghgcdpmlbaaDoorMb6
import Derived.Test.YtemkghgcdpmlbaaDoorMb4
/- The walk of contract.validAct. -/
namespace Go.Proofs.YtemkghgcdpmlbaaDoor
open Go.RowKit

abbrev aA (x : Atc) : Array Value := #[.int .i64 x.kind, .int .i64 x.role, .int .i64 x.give, .int .i64 x.to_, .int .i64 x.unit, .int .i64 x.lot.1, .int .i64 x.lot.2]
set_option maxRecDepth 100000 in
set_option maxHeartbeats 6400000 in
theorem act_nat (c : Con) (m : Cm) (x : Atc) (m1 m2 m3 ps : Bool) (w : World)
    (HM1 : Hid (∀ W, Calls Tryd.prog 64 #[.agg (coA c m), .int .i64 x.role] W fun e w' => e = .returned (.bool m1) ∧ Below W.heap.size W w')) (HM2 : Hid (∀ W, Calls Tryd.prog 64 #[.agg (coA c m), .int .i64 x.to_] W fun e w' => e = .returned (.bool m2) ∧ Below W.heap.size W w')) (_HM3 : Hid (∀ W, Calls Tryd.prog 64 #[.agg (coA c m), .int .i64 x.give] W fun e w' => e = .returned (.bool m3) ∧ Below W.heap.size W w'))
    (HN : Hid (∀ W, Calls Tryd.prog 62 #[] W fun e w' => e = .returned (.agg #[.int .i64 0, .int .i64 1]) ∧ Below W.heap.size W w')) (_HP : Hid (∀ W, Calls Tryd.prog 63 #[.agg #[.int .i64 x.lot.1, .int .i64 x.lot.2]] W fun e w' => e = .returned (.bool ps) ∧ Below W.heap.size W w'))
    (h1 : m1 = false) :
    Calls Tryd.prog 59 #[.agg (coA c m), .agg (aA x)] w fun e w' => e = .returned (.bool (x.kind == 1 && x.role == -1 && x.give == 0 && (x.to_ == -1 || m2) && x.unit == -1 && zer x.lot)) ∧ Below w.heap.size w w' := by
  subst h1
  obtain ⟨R, hR⟩ : ∃ R, (x.kind == 1 && x.role == -1 && x.give == 0 && (x.to_ == -1 || m2) && x.unit == -1 && zer x.lot) = R := ⟨_, rfl⟩
  rw [hR]
  have HR := Lib.hid hR
  clear hR
  go_enter Tryd.func59, Tryd.ntmps59
  go_upto_region 1 with (fail)
  refine name_wp ?_
  intro X0 hX
  have ga : Blk X0 (w.heap.size) 27 #[.int .i64 c.par, .slice m.h c.hold.length m.hc, .slice m.u c.un.length m.uc, .slice m.a c.ac.length m.ac, .slice m.k c.cl.length m.kc, .int .i64 c.days, .slice m.o c.off.length m.oc] := by rw [hX]; exact ((blk_at (by simp))).alloc _
  have gb : Blk X0 (w.heap.size + 1) 87 #[.int .i64 x.kind, .int .i64 x.role, .int .i64 x.give, .int .i64 x.to_, .int .i64 x.unit, .int .i64 x.lot.1, .int .i64 x.lot.2] := by rw [hX]; exact (blk_at (by simp))
  have HB : Below w.heap.size w X0 := by rw [hX]; (repeat (first | with_reducible assumption | with_reducible exact Below.refl _ _ | with_reducible refine below_drewN ?_ _ | with_reducible refine Below.drew ?_ | with_reducible refine below_alloc ?_ _ | with_reducible refine Below.setCell ?_ (by first | omega | (simp; done) | (simp; omega)) _ | with_reducible refine below_then ?_ (by with_reducible assumption) | (refine below_then (a := World.drew _) ?_ (by with_reducible assumption))))
  clear hX
  obtain ⟨bb, eb⟩ : ∃ b, w.heap.size + 1 = b := ⟨_, rfl⟩
  rw [eb] at gb ⊢
  clear eb
  obtain ⟨ba, eb⟩ : ∃ b, w.heap.size = b := ⟨_, rfl⟩
  rw [eb] at ga ⊢
  clear eb
  have hz := Below.refl X0.heap.size X0
  have ca0 : X0.cell? ⟨ba, 0, none⟩ = some (.int .i64 c.par) := (ga).cell 0
  have ca1 : X0.cell? ⟨ba, 1, none⟩ = some (.slice m.h c.hold.length m.hc) := (ga).cell 1
  have ca2 : X0.cell? ⟨ba, 2, none⟩ = some (.slice m.u c.un.length m.uc) := (ga).cell 2
  have ca3 : X0.cell? ⟨ba, 3, none⟩ = some (.slice m.a c.ac.length m.ac) := (ga).cell 3
  have ca4 : X0.cell? ⟨ba, 4, none⟩ = some (.slice m.k c.cl.length m.kc) := (ga).cell 4
  have ca5 : X0.cell? ⟨ba, 5, none⟩ = some (.int .i64 c.days) := (ga).cell 5
  have ca6 : X0.cell? ⟨ba, 6, none⟩ = some (.slice m.o c.off.length m.oc) := (ga).cell 6
  have cb0 : X0.cell? ⟨bb, 0, none⟩ = some (.int .i64 x.kind) := (gb).cell 0
  have cb1 : X0.cell? ⟨bb, 1, none⟩ = some (.int .i64 x.role) := (gb).cell 1
  have cb2 : X0.cell? ⟨bb, 2, none⟩ = some (.int .i64 x.give) := (gb).cell 2
  have cb3 : X0.cell? ⟨bb, 3, none⟩ = some (.int .i64 x.to_) := (gb).cell 3
  have cb4 : X0.cell? ⟨bb, 4, none⟩ = some (.int .i64 x.unit) := (gb).cell 4
  have cb5 : X0.cell? ⟨bb, 5, none⟩ = some (.int .i64 x.lot.1) := (gb).cell 5
  have cb6 : X0.cell? ⟨bb, 6, none⟩ = some (.int .i64 x.lot.2) := (gb).cell 6
  go_upto_region 2 with ((go_at_call 64; (with_reducible refine (HM1.out _).mono ?_); rintro e w1 ⟨rfl, hbw1⟩; have k1a0 : w1.cell? ⟨ba, 0, none⟩ = some (.int .i64 c.par) := ((ga.then_ hbw1)).cell 0; have k1a1 : w1.cell? ⟨ba, 1, none⟩ = some (.slice m.h c.hold.length m.hc) := ((ga.then_ hbw1)).cell 1; have k1a2 : w1.cell? ⟨ba, 2, none⟩ = some (.slice m.u c.un.length m.uc) := ((ga.then_ hbw1)).cell 2; have k1a3 : w1.cell? ⟨ba, 3, none⟩ = some (.slice m.a c.ac.length m.ac) := ((ga.then_ hbw1)).cell 3; have k1a4 : w1.cell? ⟨ba, 4, none⟩ = some (.slice m.k c.cl.length m.kc) := ((ga.then_ hbw1)).cell 4; have k1a5 : w1.cell? ⟨ba, 5, none⟩ = some (.int .i64 c.days) := ((ga.then_ hbw1)).cell 5; have k1a6 : w1.cell? ⟨ba, 6, none⟩ = some (.slice m.o c.off.length m.oc) := ((ga.then_ hbw1)).cell 6; have k1b0 : w1.cell? ⟨bb, 0, none⟩ = some (.int .i64 x.kind) := ((gb.then_ hbw1)).cell 0; have k1b1 : w1.cell? ⟨bb, 1, none⟩ = some (.int .i64 x.role) := ((gb.then_ hbw1)).cell 1; have k1b2 : w1.cell? ⟨bb, 2, none⟩ = some (.int .i64 x.give) := ((gb.then_ hbw1)).cell 2; have k1b3 : w1.cell? ⟨bb, 3, none⟩ = some (.int .i64 x.to_) := ((gb.then_ hbw1)).cell 3; have k1b4 : w1.cell? ⟨bb, 4, none⟩ = some (.int .i64 x.unit) := ((gb.then_ hbw1)).cell 4; have k1b5 : w1.cell? ⟨bb, 5, none⟩ = some (.int .i64 x.lot.1) := ((gb.then_ hbw1)).cell 5; have k1b6 : w1.cell? ⟨bb, 6, none⟩ = some (.int .i64 x.lot.2) := ((gb.then_ hbw1)).cell 6))
  clear HM1 _HM3 _HP
  clear ca0 ca1 ca2 ca3 ca4 ca5 ca6 cb0 cb1 cb2 cb3 cb4 cb5 cb6
  try clear k1a0 k1a1 k1b0 k1b1
  refine name_wp ?_
  intro X1 hX
  have na : Blk X1 ba 27 #[.int .i64 c.par, .slice m.h c.hold.length m.hc, .slice m.u c.un.length m.uc, .slice m.a c.ac.length m.ac, .slice m.k c.cl.length m.kc, .int .i64 c.days, .slice m.o c.off.length m.oc] := by rw [hX]; (repeat (first | with_reducible assumption | with_reducible exact Blk.new _ _ _ | with_reducible refine Blk.drew ?_ | with_reducible refine Blk.alloc ?_ _ | with_reducible refine Blk.drewN ?_ _ | with_reducible apply Blk.setT0 | with_reducible apply Blk.setT1 | with_reducible refine Blk.far ?_ (by first | (simp; done) | omega | (simp; omega)) _ | with_reducible refine Blk.then_ ?_ (by with_reducible assumption)))
  have nb : Blk X1 bb 87 #[.int .i64 x.kind, .int .i64 x.role, .int .i64 x.give, .int .i64 x.to_, .int .i64 x.unit, .int .i64 x.lot.1, .int .i64 x.lot.2] := by rw [hX]; (repeat (first | with_reducible assumption | with_reducible exact Blk.new _ _ _ | with_reducible refine Blk.drew ?_ | with_reducible refine Blk.alloc ?_ _ | with_reducible refine Blk.drewN ?_ _ | with_reducible apply Blk.setT0 | with_reducible apply Blk.setT1 | with_reducible refine Blk.far ?_ (by first | (simp; done) | omega | (simp; omega)) _ | with_reducible refine Blk.then_ ?_ (by with_reducible assumption)))
  have NB : Below w.heap.size w X1 := by rw [hX]; (repeat (first | with_reducible assumption | with_reducible exact Below.refl _ _ | with_reducible refine below_drewN ?_ _ | with_reducible refine Below.drew ?_ | with_reducible refine below_alloc ?_ _ | with_reducible refine Below.setCell ?_ (by first | omega | (simp; done) | (simp; omega)) _ | with_reducible refine below_then ?_ (by with_reducible assumption) | (refine below_then (a := World.drew _) ?_ (by with_reducible assumption))))
  clear hX ga gb HB
  have ga := na
  clear na
  have gb := nb
  clear nb
  have HB := NB
  clear NB
  have hz := Below.refl X1.heap.size X1
  cases q1 : (x.kind == 1) with
  | false =>
    have hlot := fun W => eqv2 x.lot.1 x.lot.2 0 1 W
    have ca0 : X1.cell? ⟨ba, 0, none⟩ = some (.int .i64 c.par) := (ga).cell 0
    have ca1 : X1.cell? ⟨ba, 1, none⟩ = some (.slice m.h c.hold.length m.hc) := (ga).cell 1
    have ca2 : X1.cell? ⟨ba, 2, none⟩ = some (.slice m.u c.un.length m.uc) := (ga).cell 2
    have ca3 : X1.cell? ⟨ba, 3, none⟩ = some (.slice m.a c.ac.length m.ac) := (ga).cell 3
    have ca4 : X1.cell? ⟨ba, 4, none⟩ = some (.slice m.k c.cl.length m.kc) := (ga).cell 4
    have ca5 : X1.cell? ⟨ba, 5, none⟩ = some (.int .i64 c.days) := (ga).cell 5
    have ca6 : X1.cell? ⟨ba, 6, none⟩ = some (.slice m.o c.off.length m.oc) := (ga).cell 6
    have cb0 : X1.cell? ⟨bb, 0, none⟩ = some (.int .i64 x.kind) := (gb).cell 0
    have cb1 : X1.cell? ⟨bb, 1, none⟩ = some (.int .i64 x.role) := (gb).cell 1
    have cb2 : X1.cell? ⟨bb, 2, none⟩ = some (.int .i64 x.give) := (gb).cell 2
    have cb3 : X1.cell? ⟨bb, 3, none⟩ = some (.int .i64 x.to_) := (gb).cell 3
    have cb4 : X1.cell? ⟨bb, 4, none⟩ = some (.int .i64 x.unit) := (gb).cell 4
    have cb5 : X1.cell? ⟨bb, 5, none⟩ = some (.int .i64 x.lot.1) := (gb).cell 5
    have cb6 : X1.cell? ⟨bb, 6, none⟩ = some (.int .i64 x.lot.2) := (gb).cell 6
    have rg0 := cell_regrown ca0
    have rg1 := cell_regrown ca1
    have rg2 := cell_regrown ca2
    have rg3 := cell_regrown ca3
    have rg4 := cell_regrown ca4
    have rg5 := cell_regrown ca5
    have rg6 := cell_regrown ca6
    have rg7 := cell_regrown cb0
    have rg8 := cell_regrown cb1
    have rg9 := cell_regrown cb2
    have rg10 := cell_regrown cb3
    have rg11 := cell_regrown cb4
    have rg12 := cell_regrown cb5
    have rg13 := cell_regrown cb6
    refine wp_region_qt [0, 1, 2, 3, 4, 5, 6, 7, 8, 9, 10, 11, 12, 13, 14, 15, 16, 17, 18, 19, 20, 21, 22, 23, 24, 25, 26, 27, 28, 29, 30, 31, 32, 33, 34] [35] (by kernel_rfl) (by kernel_rfl) (by repeat (first | with_reducible refine panOk_then ?_ | with_reducible refine panOk_block ?_ | exact panOk_body)) ?_
    simp only [opsAt, List.getElem?_toArray, List.getElem?_cons_succ, List.getElem?_cons_zero, Option.toList_some, List.cons_append, List.nil_append]
    repeat (go_big_quiet_step ((first | (go_at_call 64; with_reducible exact qt_call (fun W' _ => HM2.out W') _ _) | (go_at_call 62; exact qt_call (fun W' _ => HN.out W') _ _))))
    refine wpQuiet_nil ?_
    intro Z hw2
    have hbZ := qt_world hw2
    clear hw2 rg0 rg1 rg2 rg3 rg4 rg5 rg6 rg7 rg8 rg9 rg10 rg11 rg12 rg13
    clear ca0 ca1 ca2 ca3 ca4 ca5 ca6 cb0 cb1 cb2 cb3 cb4 cb5 cb6
    go_wp2
    go_ret
    exact ⟨ret_bool (by rw [← HR.out]; first | rfl | (simp [*]; done) | (simp [*, zer]; done) | (simp_all [zer]; done) | (rw [Bool.eq_iff_iff]; simp [*, zer]; done) | (rw [Bool.eq_iff_iff]; simp_all [zer]; done)), below_then HB hbZ⟩
  | true =>
    cases q2 : (x.role == -1) with
    | false =>
      have hlot := fun W => eqv2 x.lot.1 x.lot.2 0 1 W
      have ca0 : X1.cell? ⟨ba, 0, none⟩ = some (.int .i64 c.par) := (ga).cell 0
      have ca1 : X1.cell? ⟨ba, 1, none⟩ = some (.slice m.h c.hold.length m.hc) := (ga).cell 1
      have ca2 : X1.cell? ⟨ba, 2, none⟩ = some (.slice m.u c.un.length m.uc) := (ga).cell 2
      have ca3 : X1.cell? ⟨ba, 3, none⟩ = some (.slice m.a c.ac.length m.ac) := (ga).cell 3
      have ca4 : X1.cell? ⟨ba, 4, none⟩ = some (.slice m.k c.cl.length m.kc) := (ga).cell 4
      have ca5 : X1.cell? ⟨ba, 5, none⟩ = some (.int .i64 c.days) := (ga).cell 5
      have ca6 : X1.cell? ⟨ba, 6, none⟩ = some (.slice m.o c.off.length m.oc) := (ga).cell 6
      have cb0 : X1.cell? ⟨bb, 0, none⟩ = some (.int .i64 x.kind) := (gb).cell 0
      have cb1 : X1.cell? ⟨bb, 1, none⟩ = some (.int .i64 x.role) := (gb).cell 1
      have cb2 : X1.cell? ⟨bb, 2, none⟩ = some (.int .i64 x.give) := (gb).cell 2
      have cb3 : X1.cell? ⟨bb, 3, none⟩ = some (.int .i64 x.to_) := (gb).cell 3
      have cb4 : X1.cell? ⟨bb, 4, none⟩ = some (.int .i64 x.unit) := (gb).cell 4
      have cb5 : X1.cell? ⟨bb, 5, none⟩ = some (.int .i64 x.lot.1) := (gb).cell 5
      have cb6 : X1.cell? ⟨bb, 6, none⟩ = some (.int .i64 x.lot.2) := (gb).cell 6
      have rg0 := cell_regrown ca0
      have rg1 := cell_regrown ca1
      have rg2 := cell_regrown ca2
      have rg3 := cell_regrown ca3
      have rg4 := cell_regrown ca4
      have rg5 := cell_regrown ca5
      have rg6 := cell_regrown ca6
      have rg7 := cell_regrown cb0
      have rg8 := cell_regrown cb1
      have rg9 := cell_regrown cb2
      have rg10 := cell_regrown cb3
      have rg11 := cell_regrown cb4
      have rg12 := cell_regrown cb5
      have rg13 := cell_regrown cb6
      refine wp_region_qt [0, 1, 2, 3, 4, 5, 6, 7, 8, 9, 10, 11, 12, 13, 14, 15, 16, 17, 18, 19, 20, 21, 22, 23, 24, 25, 26, 27, 28, 29, 30, 31, 32, 33, 34] [35] (by kernel_rfl) (by kernel_rfl) (by repeat (first | with_reducible refine panOk_then ?_ | with_reducible refine panOk_block ?_ | exact panOk_body)) ?_
      simp only [opsAt, List.getElem?_toArray, List.getElem?_cons_succ, List.getElem?_cons_zero, Option.toList_some, List.cons_append, List.nil_append]
      repeat (go_big_quiet_step ((first | (go_at_call 64; with_reducible exact qt_call (fun W' _ => HM2.out W') _ _) | (go_at_call 62; exact qt_call (fun W' _ => HN.out W') _ _))))
      refine wpQuiet_nil ?_
      intro Z hw2
      have hbZ := qt_world hw2
      clear hw2 rg0 rg1 rg2 rg3 rg4 rg5 rg6 rg7 rg8 rg9 rg10 rg11 rg12 rg13
      clear ca0 ca1 ca2 ca3 ca4 ca5 ca6 cb0 cb1 cb2 cb3 cb4 cb5 cb6
      go_wp2
      go_ret
      exact ⟨ret_bool (by rw [← HR.out]; first | rfl | (simp [*]; done) | (simp [*, zer]; done) | (simp_all [zer]; done) | (rw [Bool.eq_iff_iff]; simp [*, zer]; done) | (rw [Bool.eq_iff_iff]; simp_all [zer]; done)), below_then HB hbZ⟩
    | true =>
      cases q3 : (x.give == 0) with
      | false =>
        have hlot := fun W => eqv2 x.lot.1 x.lot.2 0 1 W
        have ca0 : X1.cell? ⟨ba, 0, none⟩ = some (.int .i64 c.par) := (ga).cell 0
        have ca1 : X1.cell? ⟨ba, 1, none⟩ = some (.slice m.h c.hold.length m.hc) := (ga).cell 1
        have ca2 : X1.cell? ⟨ba, 2, none⟩ = some (.slice m.u c.un.length m.uc) := (ga).cell 2
        have ca3 : X1.cell? ⟨ba, 3, none⟩ = some (.slice m.a c.ac.length m.ac) := (ga).cell 3
        have ca4 : X1.cell? ⟨ba, 4, none⟩ = some (.slice m.k c.cl.length m.kc) := (ga).cell 4
        have ca5 : X1.cell? ⟨ba, 5, none⟩ = some (.int .i64 c.days) := (ga).cell 5
        have ca6 : X1.cell? ⟨ba, 6, none⟩ = some (.slice m.o c.off.length m.oc) := (ga).cell 6
        have cb0 : X1.cell? ⟨bb, 0, none⟩ = some (.int .i64 x.kind) := (gb).cell 0
        have cb1 : X1.cell? ⟨bb, 1, none⟩ = some (.int .i64 x.role) := (gb).cell 1
        have cb2 : X1.cell? ⟨bb, 2, none⟩ = some (.int .i64 x.give) := (gb).cell 2
        have cb3 : X1.cell? ⟨bb, 3, none⟩ = some (.int .i64 x.to_) := (gb).cell 3
        have cb4 : X1.cell? ⟨bb, 4, none⟩ = some (.int .i64 x.unit) := (gb).cell 4
        have cb5 : X1.cell? ⟨bb, 5, none⟩ = some (.int .i64 x.lot.1) := (gb).cell 5
        have cb6 : X1.cell? ⟨bb, 6, none⟩ = some (.int .i64 x.lot.2) := (gb).cell 6
        have rg0 := cell_regrown ca0
        have rg1 := cell_regrown ca1
        have rg2 := cell_regrown ca2
        have rg3 := cell_regrown ca3
        have rg4 := cell_regrown ca4
        have rg5 := cell_regrown ca5
        have rg6 := cell_regrown ca6
        have rg7 := cell_regrown cb0
        have rg8 := cell_regrown cb1
        have rg9 := cell_regrown cb2
        have rg10 := cell_regrown cb3
        have rg11 := cell_regrown cb4
        have rg12 := cell_regrown cb5
        have rg13 := cell_regrown cb6
        refine wp_region_qt [0, 1, 2, 3, 4, 5, 6, 7, 8, 9, 10, 11, 12, 13, 14, 15, 16, 17, 18, 19, 20, 21, 22, 23, 24, 25, 26, 27, 28, 29, 30, 31, 32, 33, 34] [35] (by kernel_rfl) (by kernel_rfl) (by repeat (first | with_reducible refine panOk_then ?_ | with_reducible refine panOk_block ?_ | exact panOk_body)) ?_
        simp only [opsAt, List.getElem?_toArray, List.getElem?_cons_succ, List.getElem?_cons_zero, Option.toList_some, List.cons_append, List.nil_append]
        repeat (go_big_quiet_step ((first | (go_at_call 64; with_reducible exact qt_call (fun W' _ => HM2.out W') _ _) | (go_at_call 62; exact qt_call (fun W' _ => HN.out W') _ _))))
        refine wpQuiet_nil ?_
        intro Z hw2
        have hbZ := qt_world hw2
        clear hw2 rg0 rg1 rg2 rg3 rg4 rg5 rg6 rg7 rg8 rg9 rg10 rg11 rg12 rg13
        clear ca0 ca1 ca2 ca3 ca4 ca5 ca6 cb0 cb1 cb2 cb3 cb4 cb5 cb6
        go_wp2
        go_ret
        exact ⟨ret_bool (by rw [← HR.out]; first | rfl | (simp [*]; done) | (simp [*, zer]; done) | (simp_all [zer]; done) | (rw [Bool.eq_iff_iff]; simp [*, zer]; done) | (rw [Bool.eq_iff_iff]; simp_all [zer]; done)), below_then HB hbZ⟩
      | true =>
        cases q4 : (x.to_ == -1) with
        | false =>
          cases q6 : (m2) with
          | false =>
            subst q6
            have hlot := fun W => eqv2 x.lot.1 x.lot.2 0 1 W
            have ca0 : X1.cell? ⟨ba, 0, none⟩ = some (.int .i64 c.par) := (ga).cell 0
            have ca1 : X1.cell? ⟨ba, 1, none⟩ = some (.slice m.h c.hold.length m.hc) := (ga).cell 1
            have ca2 : X1.cell? ⟨ba, 2, none⟩ = some (.slice m.u c.un.length m.uc) := (ga).cell 2
            have ca3 : X1.cell? ⟨ba, 3, none⟩ = some (.slice m.a c.ac.length m.ac) := (ga).cell 3
            have ca4 : X1.cell? ⟨ba, 4, none⟩ = some (.slice m.k c.cl.length m.kc) := (ga).cell 4
            have ca5 : X1.cell? ⟨ba, 5, none⟩ = some (.int .i64 c.days) := (ga).cell 5
            have ca6 : X1.cell? ⟨ba, 6, none⟩ = some (.slice m.o c.off.length m.oc) := (ga).cell 6
            have cb0 : X1.cell? ⟨bb, 0, none⟩ = some (.int .i64 x.kind) := (gb).cell 0
            have cb1 : X1.cell? ⟨bb, 1, none⟩ = some (.int .i64 x.role) := (gb).cell 1
            have cb2 : X1.cell? ⟨bb, 2, none⟩ = some (.int .i64 x.give) := (gb).cell 2
            have cb3 : X1.cell? ⟨bb, 3, none⟩ = some (.int .i64 x.to_) := (gb).cell 3
            have cb4 : X1.cell? ⟨bb, 4, none⟩ = some (.int .i64 x.unit) := (gb).cell 4
            have cb5 : X1.cell? ⟨bb, 5, none⟩ = some (.int .i64 x.lot.1) := (gb).cell 5
            have cb6 : X1.cell? ⟨bb, 6, none⟩ = some (.int .i64 x.lot.2) := (gb).cell 6
            have rg0 := cell_regrown ca0
            have rg1 := cell_regrown ca1
            have rg2 := cell_regrown ca2
            have rg3 := cell_regrown ca3
            have rg4 := cell_regrown ca4
            have rg5 := cell_regrown ca5
            have rg6 := cell_regrown ca6
            have rg7 := cell_regrown cb0
            have rg8 := cell_regrown cb1
            have rg9 := cell_regrown cb2
            have rg10 := cell_regrown cb3
            have rg11 := cell_regrown cb4
            have rg12 := cell_regrown cb5
            have rg13 := cell_regrown cb6
            refine wp_region_qt [0, 1, 2, 3, 4, 5, 6, 7, 8, 9, 10, 11, 12, 13, 14, 15, 16, 17, 18, 19, 20, 21, 22, 23, 24, 25, 26, 27, 28, 29, 30, 31, 32, 33, 34] [35] (by kernel_rfl) (by kernel_rfl) (by repeat (first | with_reducible refine panOk_then ?_ | with_reducible refine panOk_block ?_ | exact panOk_body)) ?_
            simp only [opsAt, List.getElem?_toArray, List.getElem?_cons_succ, List.getElem?_cons_zero, Option.toList_some, List.cons_append, List.nil_append]
            repeat (go_big_quiet_step ((first | (go_at_call 64; with_reducible exact qt_call (fun W' _ => HM2.out W') _ _) | (go_at_call 62; exact qt_call (fun W' _ => HN.out W') _ _))))
            refine wpQuiet_nil ?_
            intro Z hw2
            have hbZ := qt_world hw2
            clear hw2 rg0 rg1 rg2 rg3 rg4 rg5 rg6 rg7 rg8 rg9 rg10 rg11 rg12 rg13
            clear ca0 ca1 ca2 ca3 ca4 ca5 ca6 cb0 cb1 cb2 cb3 cb4 cb5 cb6
            go_wp2
            go_ret
            exact ⟨ret_bool (by rw [← HR.out]; first | rfl | (simp [*]; done) | (simp [*, zer]; done) | (simp_all [zer]; done) | (rw [Bool.eq_iff_iff]; simp [*, zer]; done) | (rw [Bool.eq_iff_iff]; simp_all [zer]; done)), below_then HB hbZ⟩
          | true =>
            subst q6
            cases q5 : (x.unit == -1) with
            | false =>
              have hlot := fun W => eqv2 x.lot.1 x.lot.2 0 1 W
              have ca0 : X1.cell? ⟨ba, 0, none⟩ = some (.int .i64 c.par) := (ga).cell 0
              have ca1 : X1.cell? ⟨ba, 1, none⟩ = some (.slice m.h c.hold.length m.hc) := (ga).cell 1
              have ca2 : X1.cell? ⟨ba, 2, none⟩ = some (.slice m.u c.un.length m.uc) := (ga).cell 2
              have ca3 : X1.cell? ⟨ba, 3, none⟩ = some (.slice m.a c.ac.length m.ac) := (ga).cell 3
              have ca4 : X1.cell? ⟨ba, 4, none⟩ = some (.slice m.k c.cl.length m.kc) := (ga).cell 4
              have ca5 : X1.cell? ⟨ba, 5, none⟩ = some (.int .i64 c.days) := (ga).cell 5
              have ca6 : X1.cell? ⟨ba, 6, none⟩ = some (.slice m.o c.off.length m.oc) := (ga).cell 6
              have cb0 : X1.cell? ⟨bb, 0, none⟩ = some (.int .i64 x.kind) := (gb).cell 0
              have cb1 : X1.cell? ⟨bb, 1, none⟩ = some (.int .i64 x.role) := (gb).cell 1
              have cb2 : X1.cell? ⟨bb, 2, none⟩ = some (.int .i64 x.give) := (gb).cell 2
              have cb3 : X1.cell? ⟨bb, 3, none⟩ = some (.int .i64 x.to_) := (gb).cell 3
              have cb4 : X1.cell? ⟨bb, 4, none⟩ = some (.int .i64 x.unit) := (gb).cell 4
              have cb5 : X1.cell? ⟨bb, 5, none⟩ = some (.int .i64 x.lot.1) := (gb).cell 5
              have cb6 : X1.cell? ⟨bb, 6, none⟩ = some (.int .i64 x.lot.2) := (gb).cell 6
              have rg0 := cell_regrown ca0
              have rg1 := cell_regrown ca1
              have rg2 := cell_regrown ca2
              have rg3 := cell_regrown ca3
              have rg4 := cell_regrown ca4
              have rg5 := cell_regrown ca5
              have rg6 := cell_regrown ca6
              have rg7 := cell_regrown cb0
              have rg8 := cell_regrown cb1
              have rg9 := cell_regrown cb2
              have rg10 := cell_regrown cb3
              have rg11 := cell_regrown cb4
              have rg12 := cell_regrown cb5
              have rg13 := cell_regrown cb6
              refine wp_region_qt [0, 1, 2, 3, 4, 5, 6, 7, 8, 9, 10, 11, 12, 13, 14, 15, 16, 17, 18, 19, 20, 21, 22, 23, 24, 25, 26, 27, 28, 29, 30, 31, 32, 33, 34] [35] (by kernel_rfl) (by kernel_rfl) (by repeat (first | with_reducible refine panOk_then ?_ | with_reducible refine panOk_block ?_ | exact panOk_body)) ?_
              simp only [opsAt, List.getElem?_toArray, List.getElem?_cons_succ, List.getElem?_cons_zero, Option.toList_some, List.cons_append, List.nil_append]
              repeat (go_big_quiet_step ((first | (go_at_call 64; with_reducible exact qt_call (fun W' _ => HM2.out W') _ _) | (go_at_call 62; exact qt_call (fun W' _ => HN.out W') _ _))))
              refine wpQuiet_nil ?_
              intro Z hw2
              have hbZ := qt_world hw2
              clear hw2 rg0 rg1 rg2 rg3 rg4 rg5 rg6 rg7 rg8 rg9 rg10 rg11 rg12 rg13
              clear ca0 ca1 ca2 ca3 ca4 ca5 ca6 cb0 cb1 cb2 cb3 cb4 cb5 cb6
              go_wp2
              go_ret
              exact ⟨ret_bool (by rw [← HR.out]; first | rfl | (simp [*]; done) | (simp [*, zer]; done) | (simp_all [zer]; done) | (rw [Bool.eq_iff_iff]; simp [*, zer]; done) | (rw [Bool.eq_iff_iff]; simp_all [zer]; done)), below_then HB hbZ⟩
            | true =>
              have hlot := fun W => eqv2 x.lot.1 x.lot.2 0 1 W
              have ca0 : X1.cell? ⟨ba, 0, none⟩ = some (.int .i64 c.par) := (ga).cell 0
              have ca1 : X1.cell? ⟨ba, 1, none⟩ = some (.slice m.h c.hold.length m.hc) := (ga).cell 1
              have ca2 : X1.cell? ⟨ba, 2, none⟩ = some (.slice m.u c.un.length m.uc) := (ga).cell 2
              have ca3 : X1.cell? ⟨ba, 3, none⟩ = some (.slice m.a c.ac.length m.ac) := (ga).cell 3
              have ca4 : X1.cell? ⟨ba, 4, none⟩ = some (.slice m.k c.cl.length m.kc) := (ga).cell 4
              have ca5 : X1.cell? ⟨ba, 5, none⟩ = some (.int .i64 c.days) := (ga).cell 5
              have ca6 : X1.cell? ⟨ba, 6, none⟩ = some (.slice m.o c.off.length m.oc) := (ga).cell 6
              have cb0 : X1.cell? ⟨bb, 0, none⟩ = some (.int .i64 x.kind) := (gb).cell 0
              have cb1 : X1.cell? ⟨bb, 1, none⟩ = some (.int .i64 x.role) := (gb).cell 1
              have cb2 : X1.cell? ⟨bb, 2, none⟩ = some (.int .i64 x.give) := (gb).cell 2
              have cb3 : X1.cell? ⟨bb, 3, none⟩ = some (.int .i64 x.to_) := (gb).cell 3
              have cb4 : X1.cell? ⟨bb, 4, none⟩ = some (.int .i64 x.unit) := (gb).cell 4
              have cb5 : X1.cell? ⟨bb, 5, none⟩ = some (.int .i64 x.lot.1) := (gb).cell 5
              have cb6 : X1.cell? ⟨bb, 6, none⟩ = some (.int .i64 x.lot.2) := (gb).cell 6
              have rg0 := cell_regrown ca0
              have rg1 := cell_regrown ca1
              have rg2 := cell_regrown ca2
              have rg3 := cell_regrown ca3
              have rg4 := cell_regrown ca4
              have rg5 := cell_regrown ca5
              have rg6 := cell_regrown ca6
              have rg7 := cell_regrown cb0
              have rg8 := cell_regrown cb1
              have rg9 := cell_regrown cb2
              have rg10 := cell_regrown cb3
              have rg11 := cell_regrown cb4
              have rg12 := cell_regrown cb5
              have rg13 := cell_regrown cb6
              refine wp_region_qt [0, 1, 2, 3, 4, 5, 6, 7, 8, 9, 10, 11, 12, 13, 14, 15, 16, 17, 18, 19, 20, 21, 22, 23, 24, 25, 26, 27, 28, 29, 30, 31, 32, 33, 34] [35] (by kernel_rfl) (by kernel_rfl) (by repeat (first | with_reducible refine panOk_then ?_ | with_reducible refine panOk_block ?_ | exact panOk_body)) ?_
              simp only [opsAt, List.getElem?_toArray, List.getElem?_cons_succ, List.getElem?_cons_zero, Option.toList_some, List.cons_append, List.nil_append]
              repeat (go_big_quiet_step ((first | (go_at_call 64; with_reducible exact qt_call (fun W' _ => HM2.out W') _ _) | (go_at_call 62; exact qt_call (fun W' _ => HN.out W') _ _))))
              refine wpQuiet_nil ?_
              intro Z hw2
              have hbZ := qt_world hw2
              clear hw2 rg0 rg1 rg2 rg3 rg4 rg5 rg6 rg7 rg8 rg9 rg10 rg11 rg12 rg13
              clear ca0 ca1 ca2 ca3 ca4 ca5 ca6 cb0 cb1 cb2 cb3 cb4 cb5 cb6
              go_wp2
              go_ret
              exact ⟨ret_bool (by rw [← HR.out]; first | rfl | (simp [*]; done) | (simp [*, zer]; done) | (simp_all [zer]; done) | (rw [Bool.eq_iff_iff]; simp [*, zer]; done) | (rw [Bool.eq_iff_iff]; simp_all [zer]; done)), below_then HB hbZ⟩
        | true =>
          cases q5 : (x.unit == -1) with
          | false =>
            have hlot := fun W => eqv2 x.lot.1 x.lot.2 0 1 W
            have ca0 : X1.cell? ⟨ba, 0, none⟩ = some (.int .i64 c.par) := (ga).cell 0
            have ca1 : X1.cell? ⟨ba, 1, none⟩ = some (.slice m.h c.hold.length m.hc) := (ga).cell 1
            have ca2 : X1.cell? ⟨ba, 2, none⟩ = some (.slice m.u c.un.length m.uc) := (ga).cell 2
            have ca3 : X1.cell? ⟨ba, 3, none⟩ = some (.slice m.a c.ac.length m.ac) := (ga).cell 3
            have ca4 : X1.cell? ⟨ba, 4, none⟩ = some (.slice m.k c.cl.length m.kc) := (ga).cell 4
            have ca5 : X1.cell? ⟨ba, 5, none⟩ = some (.int .i64 c.days) := (ga).cell 5
            have ca6 : X1.cell? ⟨ba, 6, none⟩ = some (.slice m.o c.off.length m.oc) := (ga).cell 6
            have cb0 : X1.cell? ⟨bb, 0, none⟩ = some (.int .i64 x.kind) := (gb).cell 0
            have cb1 : X1.cell? ⟨bb, 1, none⟩ = some (.int .i64 x.role) := (gb).cell 1
            have cb2 : X1.cell? ⟨bb, 2, none⟩ = some (.int .i64 x.give) := (gb).cell 2
            have cb3 : X1.cell? ⟨bb, 3, none⟩ = some (.int .i64 x.to_) := (gb).cell 3
            have cb4 : X1.cell? ⟨bb, 4, none⟩ = some (.int .i64 x.unit) := (gb).cell 4
            have cb5 : X1.cell? ⟨bb, 5, none⟩ = some (.int .i64 x.lot.1) := (gb).cell 5
            have cb6 : X1.cell? ⟨bb, 6, none⟩ = some (.int .i64 x.lot.2) := (gb).cell 6
            have rg0 := cell_regrown ca0
            have rg1 := cell_regrown ca1
            have rg2 := cell_regrown ca2
            have rg3 := cell_regrown ca3
            have rg4 := cell_regrown ca4
            have rg5 := cell_regrown ca5
            have rg6 := cell_regrown ca6
            have rg7 := cell_regrown cb0
            have rg8 := cell_regrown cb1
            have rg9 := cell_regrown cb2
            have rg10 := cell_regrown cb3
            have rg11 := cell_regrown cb4
            have rg12 := cell_regrown cb5
            have rg13 := cell_regrown cb6
            refine wp_region_qt [0, 1, 2, 3, 4, 5, 6, 7, 8, 9, 10, 11, 12, 13, 14, 15, 16, 17, 18, 19, 20, 21, 22, 23, 24, 25, 26, 27, 28, 29, 30, 31, 32, 33, 34] [35] (by kernel_rfl) (by kernel_rfl) (by repeat (first | with_reducible refine panOk_then ?_ | with_reducible refine panOk_block ?_ | exact panOk_body)) ?_
            simp only [opsAt, List.getElem?_toArray, List.getElem?_cons_succ, List.getElem?_cons_zero, Option.toList_some, List.cons_append, List.nil_append]
            repeat (go_big_quiet_step ((first | (go_at_call 64; with_reducible exact qt_call (fun W' _ => HM2.out W') _ _) | (go_at_call 62; exact qt_call (fun W' _ => HN.out W') _ _))))
            refine wpQuiet_nil ?_
            intro Z hw2
            have hbZ := qt_world hw2
            clear hw2 rg0 rg1 rg2 rg3 rg4 rg5 rg6 rg7 rg8 rg9 rg10 rg11 rg12 rg13
            clear ca0 ca1 ca2 ca3 ca4 ca5 ca6 cb0 cb1 cb2 cb3 cb4 cb5 cb6
            go_wp2
            go_ret
            exact ⟨ret_bool (by rw [← HR.out]; first | rfl | (simp [*]; done) | (simp [*, zer]; done) | (simp_all [zer]; done) | (rw [Bool.eq_iff_iff]; simp [*, zer]; done) | (rw [Bool.eq_iff_iff]; simp_all [zer]; done)), below_then HB hbZ⟩
          | true =>
            have hlot := fun W => eqv2 x.lot.1 x.lot.2 0 1 W
            have ca0 : X1.cell? ⟨ba, 0, none⟩ = some (.int .i64 c.par) := (ga).cell 0
            have ca1 : X1.cell? ⟨ba, 1, none⟩ = some (.slice m.h c.hold.length m.hc) := (ga).cell 1
            have ca2 : X1.cell? ⟨ba, 2, none⟩ = some (.slice m.u c.un.length m.uc) := (ga).cell 2
            have ca3 : X1.cell? ⟨ba, 3, none⟩ = some (.slice m.a c.ac.length m.ac) := (ga).cell 3
            have ca4 : X1.cell? ⟨ba, 4, none⟩ = some (.slice m.k c.cl.length m.kc) := (ga).cell 4
            have ca5 : X1.cell? ⟨ba, 5, none⟩ = some (.int .i64 c.days) := (ga).cell 5
            have ca6 : X1.cell? ⟨ba, 6, none⟩ = some (.slice m.o c.off.length m.oc) := (ga).cell 6
            have cb0 : X1.cell? ⟨bb, 0, none⟩ = some (.int .i64 x.kind) := (gb).cell 0
            have cb1 : X1.cell? ⟨bb, 1, none⟩ = some (.int .i64 x.role) := (gb).cell 1
            have cb2 : X1.cell? ⟨bb, 2, none⟩ = some (.int .i64 x.give) := (gb).cell 2
            have cb3 : X1.cell? ⟨bb, 3, none⟩ = some (.int .i64 x.to_) := (gb).cell 3
            have cb4 : X1.cell? ⟨bb, 4, none⟩ = some (.int .i64 x.unit) := (gb).cell 4
            have cb5 : X1.cell? ⟨bb, 5, none⟩ = some (.int .i64 x.lot.1) := (gb).cell 5
            have cb6 : X1.cell? ⟨bb, 6, none⟩ = some (.int .i64 x.lot.2) := (gb).cell 6
            have rg0 := cell_regrown ca0
            have rg1 := cell_regrown ca1
            have rg2 := cell_regrown ca2
            have rg3 := cell_regrown ca3
            have rg4 := cell_regrown ca4
            have rg5 := cell_regrown ca5
            have rg6 := cell_regrown ca6
            have rg7 := cell_regrown cb0
            have rg8 := cell_regrown cb1
            have rg9 := cell_regrown cb2
            have rg10 := cell_regrown cb3
            have rg11 := cell_regrown cb4
            have rg12 := cell_regrown cb5
            have rg13 := cell_regrown cb6
            refine wp_region_qt [0, 1, 2, 3, 4, 5, 6, 7, 8, 9, 10, 11, 12, 13, 14, 15, 16, 17, 18, 19, 20, 21, 22, 23, 24, 25, 26, 27, 28, 29, 30, 31, 32, 33, 34] [35] (by kernel_rfl) (by kernel_rfl) (by repeat (first | with_reducible refine panOk_then ?_ | with_reducible refine panOk_block ?_ | exact panOk_body)) ?_
            simp only [opsAt, List.getElem?_toArray, List.getElem?_cons_succ, List.getElem?_cons_zero, Option.toList_some, List.cons_append, List.nil_append]
            repeat (go_big_quiet_step ((first | (go_at_call 64; with_reducible exact qt_call (fun W' _ => HM2.out W') _ _) | (go_at_call 62; exact qt_call (fun W' _ => HN.out W') _ _))))
            refine wpQuiet_nil ?_
            intro Z hw2
            have hbZ := qt_world hw2
            clear hw2 rg0 rg1 rg2 rg3 rg4 rg5 rg6 rg7 rg8 rg9 rg10 rg11 rg12 rg13
            clear ca0 ca1 ca2 ca3 ca4 ca5 ca6 cb0 cb1 cb2 cb3 cb4 cb5 cb6
            go_wp2
            go_ret
            exact ⟨ret_bool (by rw [← HR.out]; first | rfl | (simp [*]; done) | (simp [*, zer]; done) | (simp_all [zer]; done) | (rw [Bool.eq_iff_iff]; simp [*, zer]; done) | (rw [Bool.eq_iff_iff]; simp_all [zer]; done)), below_then HB hbZ⟩
end Go.Proofs.YtemkghgcdpmlbaaDoor
