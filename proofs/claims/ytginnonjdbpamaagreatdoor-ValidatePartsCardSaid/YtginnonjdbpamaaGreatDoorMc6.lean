/- Contracts of functions and plain laws, joined: Kb5. -/
import Derived.Test.YtginnonjdbpamaaGreatDoorMc5
/- The walk of contract.validAct at a role that there is. -/
import Derived.Test.YtginnonjdbpamaaGreatDoorMc1
set_option maxHeartbeats 6400000
set_option maxRecDepth 100000
namespace Go.Proofs.YtginnonjdbpamaaGreatDoor
open Go.RowKit
theorem act_mov (c : Con) (m : Cm) (x : Atc) (m1 m2 m3 ps : Bool) (w : World)
  (HM1 : Hid (∀ W, Calls Tryz.prog 107 #[.agg (coA c m), .int .i64 x.role] W fun e w' => e = .returned (.bool m1) ∧ Below W.heap.size W w')) (HM2 : Hid (∀ W, Calls Tryz.prog 107 #[.agg (coA c m), .int .i64 x.to_] W fun e w' => e = .returned (.bool m2) ∧ Below W.heap.size W w')) (HM3 : Hid (∀ W, Calls Tryz.prog 107 #[.agg (coA c m), .int .i64 x.give] W fun e w' => e = .returned (.bool m3) ∧ Below W.heap.size W w'))
  (HN : Hid (∀ W, Calls Tryz.prog 105 #[] W fun e w' => e = .returned (.agg #[.int .i64 0, .int .i64 1]) ∧ Below W.heap.size W w')) (HP : Hid (∀ W, Calls Tryz.prog 106 #[.agg #[.int .i64 x.lot.1, .int .i64 x.lot.2]] W fun e w' => e = .returned (.bool ps) ∧ Below W.heap.size W w'))
  (h1 : m1 = true) :
  Calls Tryz.prog 102 #[.agg (coA c m), .agg (aA x)] w fun e w' => e = .returned (.bool (if x.kind == 1 then x.give == 0 && (x.to_ == -1 || m2) && (if x.unit == -1 then zer x.lot else isI x.unit c.un.length && ps) else (x.kind == 2 || x.kind == 3) && m3 && decide (0 ≤ x.to_) && decide (x.to_ < c.par) && x.unit == -1 && zer x.lot)) ∧ Below w.heap.size w w' := by
 subst h1
 obtain ⟨R, hR⟩ : ∃ R, (if x.kind == 1 then x.give == 0 && (x.to_ == -1 || m2) && (if x.unit == -1 then zer x.lot else isI x.unit c.un.length && ps) else (x.kind == 2 || x.kind == 3) && m3 && decide (0 ≤ x.to_) && decide (x.to_ < c.par) && x.unit == -1 && zer x.lot) = R := ⟨_, rfl⟩
 rw [hR]
 have HR := qzL hR
 clear hR
 go_enter Tryz.func102, Tryz.ntmps102
 go_upto_region 1 with (fail)
 refine xAf ?_
 intro X0 hX
 have ga : Blk X0 (w.heap.size) 27 #[.int .i64 c.par, .slice m.h c.hold.length m.hc, .slice m.u c.un.length m.uc, .slice m.a c.ac.length m.ac, .slice m.k c.cl.length m.kc, .int .i64 c.days, .slice m.o c.off.length m.oc] := by rw [hX]; exact ((xA5 (by simp))).alloc _
 have gb : Blk X0 (w.heap.size + 1) 118 #[.int .i64 x.kind, .int .i64 x.role, .int .i64 x.give, .int .i64 x.to_, .int .i64 x.unit, .int .i64 x.lot.1, .int .i64 x.lot.2] := by rw [hX]; exact (xA5 (by simp))
 have HB : Below w.heap.size w X0 := by rw [hX]; (repeat (first | exact Below.refl _ _ | refine xAc ?_ _))
 clear hX
 obtain ⟨bb, eb⟩ : ∃ b, w.heap.size + 1 = b := ⟨_, rfl⟩
 rw [eb] at gb ⊢
 clear eb
 obtain ⟨ba, eb⟩ : ∃ b, w.heap.size = b := ⟨_, rfl⟩
 rw [eb] at ga ⊢
 clear eb
 have hz := Below.refl X0.heap.size X0
 obtain ⟨ca0, ca1, ca2, ca3, ca4, ca5, ca6⟩ := coC (c := c) (m := m) (ga) rfl
 obtain ⟨cb0, cb1, cb2, cb3, cb4, cb5, cb6⟩ := atC (c := x) (gb) rfl
 go_upto_region 3 with ((go_at_call 107; (with_reducible refine (HM1.out _).mono ?_); rintro e w1 ⟨rfl, hbw1⟩; obtain ⟨k1a0, k1a1, k1a2, k1a3, k1a4, k1a5, k1a6⟩ := coC (c := c) (m := m) ((ga.then_ hbw1)) rfl; obtain ⟨k1b0, k1b1, k1b2, k1b3, k1b4, k1b5, k1b6⟩ := atC (c := x) ((gb.then_ hbw1)) rfl))
 clear HM1
 clear ca0 ca1 ca2 ca3 ca4 ca5 ca6 cb0 cb1 cb2 cb3 cb4 cb5 cb6
 try clear k1a0 k1a1 k1b0 k1b1
 refine xAf ?_
 intro X1 hX
 have na : Blk X1 ba 27 #[.int .i64 c.par, .slice m.h c.hold.length m.hc, .slice m.u c.un.length m.uc, .slice m.a c.ac.length m.ac, .slice m.k c.cl.length m.kc, .int .i64 c.days, .slice m.o c.off.length m.oc] := by rw [hX]; (repeat with_reducible first | assumption | exact Blk.new _ _ _ | refine Blk.drew ?_ | refine Blk.alloc ?_ _ | refine Blk.drewN ?_ _ | apply Blk.setT0 | apply Blk.setT1 | refine Blk.far ?_ (by first | (simp; done) | omega | (simp; omega)) _ | refine Blk.then_ ?_ (by assumption))
 have nb : Blk X1 bb 118 #[.int .i64 x.kind, .int .i64 x.role, .int .i64 x.give, .int .i64 x.to_, .int .i64 x.unit, .int .i64 x.lot.1, .int .i64 x.lot.2] := by rw [hX]; (repeat with_reducible first | assumption | exact Blk.new _ _ _ | refine Blk.drew ?_ | refine Blk.alloc ?_ _ | refine Blk.drewN ?_ _ | apply Blk.setT0 | apply Blk.setT1 | refine Blk.far ?_ (by first | (simp; done) | omega | (simp; omega)) _ | refine Blk.then_ ?_ (by assumption))
 have NB : Below w.heap.size w X1 := by rw [hX]; (repeat (first | (with_reducible first | assumption | exact Below.refl _ _ | refine xAk ?_ _ | refine Below.drew ?_ | refine xAc ?_ _ | refine Below.setCell ?_ (by first | omega | (simp; done) | (simp; omega)) _ | refine xAa ?_ (by assumption)) | (refine xAa (a := World.drew _) ?_ (by with_reducible assumption))))
 clear hX ga gb HB
 have ga := na
 clear na
 have gb := nb
 clear nb
 have HB := NB
 clear NB
 have hz := Below.refl X1.heap.size X1
 cases q1 : (x.kind == 1) with
 | false =>
  have v1 : (x.kind != 1) = true := by rw [bne, q1]; rfl
  cases q2 : (x.kind == 2) with
  | false =>
   have v2 : (x.kind != 2) = true := by rw [bne, q2]; rfl
   cases q3 : (x.kind == 3) with
   | false =>
    have v3 : (x.kind != 3) = true := by rw [bne, q3]; rfl
    obtain ⟨ca0, ca1, ca2, ca3, ca4, ca5, ca6⟩ := coC (c := c) (m := m) (ga) rfl
    obtain ⟨cb0, cb1, cb2, cb3, cb4, cb5, cb6⟩ := atC (c := x) (gb) rfl
    go_wp2
    go_ret
    exact ⟨xAb (by rw [← HR.out]; first | rfl | (simp [*]; done) | (simp [*, zer, isI]; done) | (simp_all [zer, isI]; done) | (rw [Bool.eq_iff_iff]; simp [*, zer, isI]; done) | (rw [Bool.eq_iff_iff]; simp_all [zer, isI]; done)), by (repeat (first | (with_reducible first | assumption | exact Below.refl _ _ | refine xAk ?_ _ | refine Below.drew ?_ | refine xAc ?_ _ | refine Below.setCell ?_ (by first | omega | (simp; done) | (simp; omega)) _ | refine xAa ?_ (by assumption)) | (refine xAa (a := World.drew _) ?_ (by with_reducible assumption))))⟩
   | true =>
    have v3 : (x.kind != 3) = false := by rw [bne, q3]; rfl
    cases q4 : (m3) with
    | false =>
     subst q4
     obtain ⟨ca0, ca1, ca2, ca3, ca4, ca5, ca6⟩ := coC (c := c) (m := m) (ga) rfl
     obtain ⟨cb0, cb1, cb2, cb3, cb4, cb5, cb6⟩ := atC (c := x) (gb) rfl
     go_upto_region 12 with (fail)
     clear ca0 ca1 ca2 ca3 ca4 ca5 ca6 cb0 cb1 cb2 cb3 cb4 cb5 cb6
     refine xAf ?_
     intro X2 hX
     have na : Blk X2 ba 27 #[.int .i64 c.par, .slice m.h c.hold.length m.hc, .slice m.u c.un.length m.uc, .slice m.a c.ac.length m.ac, .slice m.k c.cl.length m.kc, .int .i64 c.days, .slice m.o c.off.length m.oc] := by rw [hX]; (repeat with_reducible first | assumption | exact Blk.new _ _ _ | refine Blk.drew ?_ | refine Blk.alloc ?_ _ | refine Blk.drewN ?_ _ | apply Blk.setT0 | apply Blk.setT1 | refine Blk.far ?_ (by first | (simp; done) | omega | (simp; omega)) _ | refine Blk.then_ ?_ (by assumption))
     have nb : Blk X2 bb 118 #[.int .i64 x.kind, .int .i64 x.role, .int .i64 x.give, .int .i64 x.to_, .int .i64 x.unit, .int .i64 x.lot.1, .int .i64 x.lot.2] := by rw [hX]; (repeat with_reducible first | assumption | exact Blk.new _ _ _ | refine Blk.drew ?_ | refine Blk.alloc ?_ _ | refine Blk.drewN ?_ _ | apply Blk.setT0 | apply Blk.setT1 | refine Blk.far ?_ (by first | (simp; done) | omega | (simp; omega)) _ | refine Blk.then_ ?_ (by assumption))
     have NB : Below w.heap.size w X2 := by rw [hX]; (repeat (first | (with_reducible first | assumption | exact Below.refl _ _ | refine xAk ?_ _ | refine Below.drew ?_ | refine xAc ?_ _ | refine Below.setCell ?_ (by first | omega | (simp; done) | (simp; omega)) _ | refine xAa ?_ (by assumption)) | (refine xAa (a := World.drew _) ?_ (by with_reducible assumption))))
     clear hX ga gb HB
     have ga := na
     clear na
     have gb := nb
     clear nb
     have HB := NB
     clear NB
     have hz := Below.refl X2.heap.size X2
     have hlot := fun W => eqv2 x.lot.1 x.lot.2 0 1 W
     obtain ⟨ca0, ca1, ca2, ca3, ca4, ca5, ca6⟩ := coC (c := c) (m := m) (ga) rfl
     obtain ⟨cb0, cb1, cb2, cb3, cb4, cb5, cb6⟩ := atC (c := x) (gb) rfl
     have rg0 := cR ca0
     have rg1 := cR ca1
     have rg2 := cR ca2
     have rg3 := cR ca3
     have rg4 := cR ca4
     have rg5 := cR ca5
     have rg6 := cR ca6
     have rg7 := cR cb0
     have rg8 := cR cb1
     have rg9 := cR cb2
     have rg10 := cR cb3
     have rg11 := cR cb4
     have rg12 := cR cb5
     have rg13 := cR cb6
     refine xAe [0, 1, 2, 3, 4, 5, 6, 7, 8, 9, 10, 11, 12, 13, 14, 15, 16, 17, 18, 19, 20, 21, 22, 23, 24, 25, 26] [27] (by kernel_rfl) (by kernel_rfl) pO ?_
     simp only [xAm, qzA, qzB, qzC, qzD, qzE, qzF]
     repeat (go_big_quiet_step ((first | (go_at_call 107; with_reducible exact xAp (fun W' _ => HM3.out W') _ _) | (go_at_call 105; exact xAp (fun W' _ => HN.out W') _ _))))
     refine wpQuiet_nil ?_
     intro Z hw2
     have hbZ := xAh hw2
     clear hw2 rg0 rg1 rg2 rg3 rg4 rg5 rg6 rg7 rg8 rg9 rg10 rg11 rg12 rg13
     clear ca0 ca1 ca2 ca3 ca4 ca5 ca6 cb0 cb1 cb2 cb3 cb4 cb5 cb6
     go_wp2
     go_ret
     exact ⟨xAb (by rw [← HR.out]; first | rfl | (simp [*]; done) | (simp [*, zer]; done) | (simp_all [zer]; done) | (rw [Bool.eq_iff_iff]; simp [*, zer]; done) | (rw [Bool.eq_iff_iff]; simp_all [zer]; done)), xAa HB hbZ⟩
    | true =>
     subst q4
     by_cases q5 : 0 ≤ x.to_
     ·have u5 := qzO q5
      by_cases q6 : x.to_ < c.par
      ·have u6 := qzO q6
       cases q7 : (x.unit == -1) with
       | false =>
        have v7 : (x.unit != -1) = true := by rw [bne, q7]; rfl
        obtain ⟨ca0, ca1, ca2, ca3, ca4, ca5, ca6⟩ := coC (c := c) (m := m) (ga) rfl
        obtain ⟨cb0, cb1, cb2, cb3, cb4, cb5, cb6⟩ := atC (c := x) (gb) rfl
        go_upto_region 12 with (fail)
        clear ca0 ca1 ca2 ca3 ca4 ca5 ca6 cb0 cb1 cb2 cb3 cb4 cb5 cb6
        refine xAf ?_
        intro X2 hX
        have na : Blk X2 ba 27 #[.int .i64 c.par, .slice m.h c.hold.length m.hc, .slice m.u c.un.length m.uc, .slice m.a c.ac.length m.ac, .slice m.k c.cl.length m.kc, .int .i64 c.days, .slice m.o c.off.length m.oc] := by rw [hX]; (repeat with_reducible first | assumption | exact Blk.new _ _ _ | refine Blk.drew ?_ | refine Blk.alloc ?_ _ | refine Blk.drewN ?_ _ | apply Blk.setT0 | apply Blk.setT1 | refine Blk.far ?_ (by first | (simp; done) | omega | (simp; omega)) _ | refine Blk.then_ ?_ (by assumption))
        have nb : Blk X2 bb 118 #[.int .i64 x.kind, .int .i64 x.role, .int .i64 x.give, .int .i64 x.to_, .int .i64 x.unit, .int .i64 x.lot.1, .int .i64 x.lot.2] := by rw [hX]; (repeat with_reducible first | assumption | exact Blk.new _ _ _ | refine Blk.drew ?_ | refine Blk.alloc ?_ _ | refine Blk.drewN ?_ _ | apply Blk.setT0 | apply Blk.setT1 | refine Blk.far ?_ (by first | (simp; done) | omega | (simp; omega)) _ | refine Blk.then_ ?_ (by assumption))
        have NB : Below w.heap.size w X2 := by rw [hX]; (repeat (first | (with_reducible first | assumption | exact Below.refl _ _ | refine xAk ?_ _ | refine Below.drew ?_ | refine xAc ?_ _ | refine Below.setCell ?_ (by first | omega | (simp; done) | (simp; omega)) _ | refine xAa ?_ (by assumption)) | (refine xAa (a := World.drew _) ?_ (by with_reducible assumption))))
        clear hX ga gb HB
        have ga := na
        clear na
        have gb := nb
        clear nb
        have HB := NB
        clear NB
        have hz := Below.refl X2.heap.size X2
        have hlot := fun W => eqv2 x.lot.1 x.lot.2 0 1 W
        obtain ⟨ca0, ca1, ca2, ca3, ca4, ca5, ca6⟩ := coC (c := c) (m := m) (ga) rfl
        obtain ⟨cb0, cb1, cb2, cb3, cb4, cb5, cb6⟩ := atC (c := x) (gb) rfl
        have rg0 := cR ca0
        have rg1 := cR ca1
        have rg2 := cR ca2
        have rg3 := cR ca3
        have rg4 := cR ca4
        have rg5 := cR ca5
        have rg6 := cR ca6
        have rg7 := cR cb0
        have rg8 := cR cb1
        have rg9 := cR cb2
        have rg10 := cR cb3
        have rg11 := cR cb4
        have rg12 := cR cb5
        have rg13 := cR cb6
        refine xAe [0, 1, 2, 3, 4, 5, 6, 7, 8, 9, 10, 11, 12, 13, 14, 15, 16, 17, 18, 19, 20, 21, 22, 23, 24, 25, 26] [27] (by kernel_rfl) (by kernel_rfl) pO ?_
        simp only [xAm, qzA, qzB, qzC, qzD, qzE, qzF]
        repeat (go_big_quiet_step ((first | (go_at_call 107; with_reducible exact xAp (fun W' _ => HM3.out W') _ _) | (go_at_call 105; exact xAp (fun W' _ => HN.out W') _ _))))
        refine wpQuiet_nil ?_
        intro Z hw2
        have hbZ := xAh hw2
        clear hw2 rg0 rg1 rg2 rg3 rg4 rg5 rg6 rg7 rg8 rg9 rg10 rg11 rg12 rg13
        clear ca0 ca1 ca2 ca3 ca4 ca5 ca6 cb0 cb1 cb2 cb3 cb4 cb5 cb6
        go_wp2
        go_ret
        exact ⟨xAb (by rw [← HR.out]; first | rfl | (simp [*]; done) | (simp [*, zer]; done) | (simp_all [zer]; done) | (rw [Bool.eq_iff_iff]; simp [*, zer]; done) | (rw [Bool.eq_iff_iff]; simp_all [zer]; done)), xAa HB hbZ⟩
       | true =>
        have v7 : (x.unit != -1) = false := by rw [bne, q7]; rfl
        obtain ⟨ca0, ca1, ca2, ca3, ca4, ca5, ca6⟩ := coC (c := c) (m := m) (ga) rfl
        obtain ⟨cb0, cb1, cb2, cb3, cb4, cb5, cb6⟩ := atC (c := x) (gb) rfl
        go_upto_region 12 with (fail)
        clear ca0 ca1 ca2 ca3 ca4 ca5 ca6 cb0 cb1 cb2 cb3 cb4 cb5 cb6
        refine xAf ?_
        intro X2 hX
        have na : Blk X2 ba 27 #[.int .i64 c.par, .slice m.h c.hold.length m.hc, .slice m.u c.un.length m.uc, .slice m.a c.ac.length m.ac, .slice m.k c.cl.length m.kc, .int .i64 c.days, .slice m.o c.off.length m.oc] := by rw [hX]; (repeat with_reducible first | assumption | exact Blk.new _ _ _ | refine Blk.drew ?_ | refine Blk.alloc ?_ _ | refine Blk.drewN ?_ _ | apply Blk.setT0 | apply Blk.setT1 | refine Blk.far ?_ (by first | (simp; done) | omega | (simp; omega)) _ | refine Blk.then_ ?_ (by assumption))
        have nb : Blk X2 bb 118 #[.int .i64 x.kind, .int .i64 x.role, .int .i64 x.give, .int .i64 x.to_, .int .i64 x.unit, .int .i64 x.lot.1, .int .i64 x.lot.2] := by rw [hX]; (repeat with_reducible first | assumption | exact Blk.new _ _ _ | refine Blk.drew ?_ | refine Blk.alloc ?_ _ | refine Blk.drewN ?_ _ | apply Blk.setT0 | apply Blk.setT1 | refine Blk.far ?_ (by first | (simp; done) | omega | (simp; omega)) _ | refine Blk.then_ ?_ (by assumption))
        have NB : Below w.heap.size w X2 := by rw [hX]; (repeat (first | (with_reducible first | assumption | exact Below.refl _ _ | refine xAk ?_ _ | refine Below.drew ?_ | refine xAc ?_ _ | refine Below.setCell ?_ (by first | omega | (simp; done) | (simp; omega)) _ | refine xAa ?_ (by assumption)) | (refine xAa (a := World.drew _) ?_ (by with_reducible assumption))))
        clear hX ga gb HB
        have ga := na
        clear na
        have gb := nb
        clear nb
        have HB := NB
        clear NB
        have hz := Below.refl X2.heap.size X2
        have hlot := fun W => eqv2 x.lot.1 x.lot.2 0 1 W
        obtain ⟨ca0, ca1, ca2, ca3, ca4, ca5, ca6⟩ := coC (c := c) (m := m) (ga) rfl
        obtain ⟨cb0, cb1, cb2, cb3, cb4, cb5, cb6⟩ := atC (c := x) (gb) rfl
        have rg0 := cR ca0
        have rg1 := cR ca1
        have rg2 := cR ca2
        have rg3 := cR ca3
        have rg4 := cR ca4
        have rg5 := cR ca5
        have rg6 := cR ca6
        have rg7 := cR cb0
        have rg8 := cR cb1
        have rg9 := cR cb2
        have rg10 := cR cb3
        have rg11 := cR cb4
        have rg12 := cR cb5
        have rg13 := cR cb6
        refine xAe [0, 1, 2, 3, 4, 5, 6, 7, 8, 9, 10, 11, 12, 13, 14, 15, 16, 17, 18, 19, 20, 21, 22, 23, 24, 25, 26] [27] (by kernel_rfl) (by kernel_rfl) pO ?_
        simp only [xAm, qzA, qzB, qzC, qzD, qzE, qzF]
        repeat (go_big_quiet_step ((first | (go_at_call 107; with_reducible exact xAp (fun W' _ => HM3.out W') _ _) | (go_at_call 105; exact xAp (fun W' _ => HN.out W') _ _))))
        refine wpQuiet_nil ?_
        intro Z hw2
        have hbZ := xAh hw2
        clear hw2 rg0 rg1 rg2 rg3 rg4 rg5 rg6 rg7 rg8 rg9 rg10 rg11 rg12 rg13
        clear ca0 ca1 ca2 ca3 ca4 ca5 ca6 cb0 cb1 cb2 cb3 cb4 cb5 cb6
        go_wp2
        go_ret
        exact ⟨xAb (by rw [← HR.out]; first | rfl | (simp [*]; done) | (simp [*, zer]; done) | (simp_all [zer]; done) | (rw [Bool.eq_iff_iff]; simp [*, zer]; done) | (rw [Bool.eq_iff_iff]; simp_all [zer]; done)), xAa HB hbZ⟩
      ·have u6 := qzN q6
       obtain ⟨ca0, ca1, ca2, ca3, ca4, ca5, ca6⟩ := coC (c := c) (m := m) (ga) rfl
       obtain ⟨cb0, cb1, cb2, cb3, cb4, cb5, cb6⟩ := atC (c := x) (gb) rfl
       go_upto_region 12 with (fail)
       clear ca0 ca1 ca2 ca3 ca4 ca5 ca6 cb0 cb1 cb2 cb3 cb4 cb5 cb6
       refine xAf ?_
       intro X2 hX
       have na : Blk X2 ba 27 #[.int .i64 c.par, .slice m.h c.hold.length m.hc, .slice m.u c.un.length m.uc, .slice m.a c.ac.length m.ac, .slice m.k c.cl.length m.kc, .int .i64 c.days, .slice m.o c.off.length m.oc] := by rw [hX]; (repeat with_reducible first | assumption | exact Blk.new _ _ _ | refine Blk.drew ?_ | refine Blk.alloc ?_ _ | refine Blk.drewN ?_ _ | apply Blk.setT0 | apply Blk.setT1 | refine Blk.far ?_ (by first | (simp; done) | omega | (simp; omega)) _ | refine Blk.then_ ?_ (by assumption))
       have nb : Blk X2 bb 118 #[.int .i64 x.kind, .int .i64 x.role, .int .i64 x.give, .int .i64 x.to_, .int .i64 x.unit, .int .i64 x.lot.1, .int .i64 x.lot.2] := by rw [hX]; (repeat with_reducible first | assumption | exact Blk.new _ _ _ | refine Blk.drew ?_ | refine Blk.alloc ?_ _ | refine Blk.drewN ?_ _ | apply Blk.setT0 | apply Blk.setT1 | refine Blk.far ?_ (by first | (simp; done) | omega | (simp; omega)) _ | refine Blk.then_ ?_ (by assumption))
       have NB : Below w.heap.size w X2 := by rw [hX]; (repeat (first | (with_reducible first | assumption | exact Below.refl _ _ | refine xAk ?_ _ | refine Below.drew ?_ | refine xAc ?_ _ | refine Below.setCell ?_ (by first | omega | (simp; done) | (simp; omega)) _ | refine xAa ?_ (by assumption)) | (refine xAa (a := World.drew _) ?_ (by with_reducible assumption))))
       clear hX ga gb HB
       have ga := na
       clear na
       have gb := nb
       clear nb
       have HB := NB
       clear NB
       have hz := Below.refl X2.heap.size X2
       have hlot := fun W => eqv2 x.lot.1 x.lot.2 0 1 W
       obtain ⟨ca0, ca1, ca2, ca3, ca4, ca5, ca6⟩ := coC (c := c) (m := m) (ga) rfl
       obtain ⟨cb0, cb1, cb2, cb3, cb4, cb5, cb6⟩ := atC (c := x) (gb) rfl
       have rg0 := cR ca0
       have rg1 := cR ca1
       have rg2 := cR ca2
       have rg3 := cR ca3
       have rg4 := cR ca4
       have rg5 := cR ca5
       have rg6 := cR ca6
       have rg7 := cR cb0
       have rg8 := cR cb1
       have rg9 := cR cb2
       have rg10 := cR cb3
       have rg11 := cR cb4
       have rg12 := cR cb5
       have rg13 := cR cb6
       refine xAe [0, 1, 2, 3, 4, 5, 6, 7, 8, 9, 10, 11, 12, 13, 14, 15, 16, 17, 18, 19, 20, 21, 22, 23, 24, 25, 26] [27] (by kernel_rfl) (by kernel_rfl) pO ?_
       simp only [xAm, qzA, qzB, qzC, qzD, qzE, qzF]
       repeat (go_big_quiet_step ((first | (go_at_call 107; with_reducible exact xAp (fun W' _ => HM3.out W') _ _) | (go_at_call 105; exact xAp (fun W' _ => HN.out W') _ _))))
       refine wpQuiet_nil ?_
       intro Z hw2
       have hbZ := xAh hw2
       clear hw2 rg0 rg1 rg2 rg3 rg4 rg5 rg6 rg7 rg8 rg9 rg10 rg11 rg12 rg13
       clear ca0 ca1 ca2 ca3 ca4 ca5 ca6 cb0 cb1 cb2 cb3 cb4 cb5 cb6
       go_wp2
       go_ret
       exact ⟨xAb (by rw [← HR.out]; first | rfl | (simp [*]; done) | (simp [*, zer]; done) | (simp_all [zer]; done) | (rw [Bool.eq_iff_iff]; simp [*, zer]; done) | (rw [Bool.eq_iff_iff]; simp_all [zer]; done)), xAa HB hbZ⟩
     ·have u5 := qzN q5
      obtain ⟨ca0, ca1, ca2, ca3, ca4, ca5, ca6⟩ := coC (c := c) (m := m) (ga) rfl
      obtain ⟨cb0, cb1, cb2, cb3, cb4, cb5, cb6⟩ := atC (c := x) (gb) rfl
      go_upto_region 12 with (fail)
      clear ca0 ca1 ca2 ca3 ca4 ca5 ca6 cb0 cb1 cb2 cb3 cb4 cb5 cb6
      refine xAf ?_
      intro X2 hX
      have na : Blk X2 ba 27 #[.int .i64 c.par, .slice m.h c.hold.length m.hc, .slice m.u c.un.length m.uc, .slice m.a c.ac.length m.ac, .slice m.k c.cl.length m.kc, .int .i64 c.days, .slice m.o c.off.length m.oc] := by rw [hX]; (repeat with_reducible first | assumption | exact Blk.new _ _ _ | refine Blk.drew ?_ | refine Blk.alloc ?_ _ | refine Blk.drewN ?_ _ | apply Blk.setT0 | apply Blk.setT1 | refine Blk.far ?_ (by first | (simp; done) | omega | (simp; omega)) _ | refine Blk.then_ ?_ (by assumption))
      have nb : Blk X2 bb 118 #[.int .i64 x.kind, .int .i64 x.role, .int .i64 x.give, .int .i64 x.to_, .int .i64 x.unit, .int .i64 x.lot.1, .int .i64 x.lot.2] := by rw [hX]; (repeat with_reducible first | assumption | exact Blk.new _ _ _ | refine Blk.drew ?_ | refine Blk.alloc ?_ _ | refine Blk.drewN ?_ _ | apply Blk.setT0 | apply Blk.setT1 | refine Blk.far ?_ (by first | (simp; done) | omega | (simp; omega)) _ | refine Blk.then_ ?_ (by assumption))
      have NB : Below w.heap.size w X2 := by rw [hX]; (repeat (first | (with_reducible first | assumption | exact Below.refl _ _ | refine xAk ?_ _ | refine Below.drew ?_ | refine xAc ?_ _ | refine Below.setCell ?_ (by first | omega | (simp; done) | (simp; omega)) _ | refine xAa ?_ (by assumption)) | (refine xAa (a := World.drew _) ?_ (by with_reducible assumption))))
      clear hX ga gb HB
      have ga := na
      clear na
      have gb := nb
      clear nb
      have HB := NB
      clear NB
      have hz := Below.refl X2.heap.size X2
      have hlot := fun W => eqv2 x.lot.1 x.lot.2 0 1 W
      obtain ⟨ca0, ca1, ca2, ca3, ca4, ca5, ca6⟩ := coC (c := c) (m := m) (ga) rfl
      obtain ⟨cb0, cb1, cb2, cb3, cb4, cb5, cb6⟩ := atC (c := x) (gb) rfl
      have rg0 := cR ca0
      have rg1 := cR ca1
      have rg2 := cR ca2
      have rg3 := cR ca3
      have rg4 := cR ca4
      have rg5 := cR ca5
      have rg6 := cR ca6
      have rg7 := cR cb0
      have rg8 := cR cb1
      have rg9 := cR cb2
      have rg10 := cR cb3
      have rg11 := cR cb4
      have rg12 := cR cb5
      have rg13 := cR cb6
      refine xAe [0, 1, 2, 3, 4, 5, 6, 7, 8, 9, 10, 11, 12, 13, 14, 15, 16, 17, 18, 19, 20, 21, 22, 23, 24, 25, 26] [27] (by kernel_rfl) (by kernel_rfl) pO ?_
      simp only [xAm, qzA, qzB, qzC, qzD, qzE, qzF]
      repeat (go_big_quiet_step ((first | (go_at_call 107; with_reducible exact xAp (fun W' _ => HM3.out W') _ _) | (go_at_call 105; exact xAp (fun W' _ => HN.out W') _ _))))
      refine wpQuiet_nil ?_
      intro Z hw2
      have hbZ := xAh hw2
      clear hw2 rg0 rg1 rg2 rg3 rg4 rg5 rg6 rg7 rg8 rg9 rg10 rg11 rg12 rg13
      clear ca0 ca1 ca2 ca3 ca4 ca5 ca6 cb0 cb1 cb2 cb3 cb4 cb5 cb6
      go_wp2
      go_ret
      exact ⟨xAb (by rw [← HR.out]; first | rfl | (simp [*]; done) | (simp [*, zer]; done) | (simp_all [zer]; done) | (rw [Bool.eq_iff_iff]; simp [*, zer]; done) | (rw [Bool.eq_iff_iff]; simp_all [zer]; done)), xAa HB hbZ⟩
  | true =>
   have v2 : (x.kind != 2) = false := by rw [bne, q2]; rfl
   cases q4 : (m3) with
   | false =>
    subst q4
    obtain ⟨ca0, ca1, ca2, ca3, ca4, ca5, ca6⟩ := coC (c := c) (m := m) (ga) rfl
    obtain ⟨cb0, cb1, cb2, cb3, cb4, cb5, cb6⟩ := atC (c := x) (gb) rfl
    go_upto_region 12 with (fail)
    clear ca0 ca1 ca2 ca3 ca4 ca5 ca6 cb0 cb1 cb2 cb3 cb4 cb5 cb6
    refine xAf ?_
    intro X2 hX
    have na : Blk X2 ba 27 #[.int .i64 c.par, .slice m.h c.hold.length m.hc, .slice m.u c.un.length m.uc, .slice m.a c.ac.length m.ac, .slice m.k c.cl.length m.kc, .int .i64 c.days, .slice m.o c.off.length m.oc] := by rw [hX]; (repeat with_reducible first | assumption | exact Blk.new _ _ _ | refine Blk.drew ?_ | refine Blk.alloc ?_ _ | refine Blk.drewN ?_ _ | apply Blk.setT0 | apply Blk.setT1 | refine Blk.far ?_ (by first | (simp; done) | omega | (simp; omega)) _ | refine Blk.then_ ?_ (by assumption))
    have nb : Blk X2 bb 118 #[.int .i64 x.kind, .int .i64 x.role, .int .i64 x.give, .int .i64 x.to_, .int .i64 x.unit, .int .i64 x.lot.1, .int .i64 x.lot.2] := by rw [hX]; (repeat with_reducible first | assumption | exact Blk.new _ _ _ | refine Blk.drew ?_ | refine Blk.alloc ?_ _ | refine Blk.drewN ?_ _ | apply Blk.setT0 | apply Blk.setT1 | refine Blk.far ?_ (by first | (simp; done) | omega | (simp; omega)) _ | refine Blk.then_ ?_ (by assumption))
    have NB : Below w.heap.size w X2 := by rw [hX]; (repeat (first | (with_reducible first | assumption | exact Below.refl _ _ | refine xAk ?_ _ | refine Below.drew ?_ | refine xAc ?_ _ | refine Below.setCell ?_ (by first | omega | (simp; done) | (simp; omega)) _ | refine xAa ?_ (by assumption)) | (refine xAa (a := World.drew _) ?_ (by with_reducible assumption))))
    clear hX ga gb HB
    have ga := na
    clear na
    have gb := nb
    clear nb
    have HB := NB
    clear NB
    have hz := Below.refl X2.heap.size X2
    have hlot := fun W => eqv2 x.lot.1 x.lot.2 0 1 W
    obtain ⟨ca0, ca1, ca2, ca3, ca4, ca5, ca6⟩ := coC (c := c) (m := m) (ga) rfl
    obtain ⟨cb0, cb1, cb2, cb3, cb4, cb5, cb6⟩ := atC (c := x) (gb) rfl
    have rg0 := cR ca0
    have rg1 := cR ca1
    have rg2 := cR ca2
    have rg3 := cR ca3
    have rg4 := cR ca4
    have rg5 := cR ca5
    have rg6 := cR ca6
    have rg7 := cR cb0
    have rg8 := cR cb1
    have rg9 := cR cb2
    have rg10 := cR cb3
    have rg11 := cR cb4
    have rg12 := cR cb5
    have rg13 := cR cb6
    refine xAe [0, 1, 2, 3, 4, 5, 6, 7, 8, 9, 10, 11, 12, 13, 14, 15, 16, 17, 18, 19, 20, 21, 22, 23, 24, 25, 26] [27] (by kernel_rfl) (by kernel_rfl) pO ?_
    simp only [xAm, qzA, qzB, qzC, qzD, qzE, qzF]
    repeat (go_big_quiet_step ((first | (go_at_call 107; with_reducible exact xAp (fun W' _ => HM3.out W') _ _) | (go_at_call 105; exact xAp (fun W' _ => HN.out W') _ _))))
    refine wpQuiet_nil ?_
    intro Z hw2
    have hbZ := xAh hw2
    clear hw2 rg0 rg1 rg2 rg3 rg4 rg5 rg6 rg7 rg8 rg9 rg10 rg11 rg12 rg13
    clear ca0 ca1 ca2 ca3 ca4 ca5 ca6 cb0 cb1 cb2 cb3 cb4 cb5 cb6
    go_wp2
    go_ret
    exact ⟨xAb (by rw [← HR.out]; first | rfl | (simp [*]; done) | (simp [*, zer]; done) | (simp_all [zer]; done) | (rw [Bool.eq_iff_iff]; simp [*, zer]; done) | (rw [Bool.eq_iff_iff]; simp_all [zer]; done)), xAa HB hbZ⟩
   | true =>
    subst q4
    by_cases q5 : 0 ≤ x.to_
    ·have u5 := qzO q5
     by_cases q6 : x.to_ < c.par
     ·have u6 := qzO q6
      cases q7 : (x.unit == -1) with
      | false =>
       have v7 : (x.unit != -1) = true := by rw [bne, q7]; rfl
       obtain ⟨ca0, ca1, ca2, ca3, ca4, ca5, ca6⟩ := coC (c := c) (m := m) (ga) rfl
       obtain ⟨cb0, cb1, cb2, cb3, cb4, cb5, cb6⟩ := atC (c := x) (gb) rfl
       go_upto_region 12 with (fail)
       clear ca0 ca1 ca2 ca3 ca4 ca5 ca6 cb0 cb1 cb2 cb3 cb4 cb5 cb6
       refine xAf ?_
       intro X2 hX
       have na : Blk X2 ba 27 #[.int .i64 c.par, .slice m.h c.hold.length m.hc, .slice m.u c.un.length m.uc, .slice m.a c.ac.length m.ac, .slice m.k c.cl.length m.kc, .int .i64 c.days, .slice m.o c.off.length m.oc] := by rw [hX]; (repeat with_reducible first | assumption | exact Blk.new _ _ _ | refine Blk.drew ?_ | refine Blk.alloc ?_ _ | refine Blk.drewN ?_ _ | apply Blk.setT0 | apply Blk.setT1 | refine Blk.far ?_ (by first | (simp; done) | omega | (simp; omega)) _ | refine Blk.then_ ?_ (by assumption))
       have nb : Blk X2 bb 118 #[.int .i64 x.kind, .int .i64 x.role, .int .i64 x.give, .int .i64 x.to_, .int .i64 x.unit, .int .i64 x.lot.1, .int .i64 x.lot.2] := by rw [hX]; (repeat with_reducible first | assumption | exact Blk.new _ _ _ | refine Blk.drew ?_ | refine Blk.alloc ?_ _ | refine Blk.drewN ?_ _ | apply Blk.setT0 | apply Blk.setT1 | refine Blk.far ?_ (by first | (simp; done) | omega | (simp; omega)) _ | refine Blk.then_ ?_ (by assumption))
       have NB : Below w.heap.size w X2 := by rw [hX]; (repeat (first | (with_reducible first | assumption | exact Below.refl _ _ | refine xAk ?_ _ | refine Below.drew ?_ | refine xAc ?_ _ | refine Below.setCell ?_ (by first | omega | (simp; done) | (simp; omega)) _ | refine xAa ?_ (by assumption)) | (refine xAa (a := World.drew _) ?_ (by with_reducible assumption))))
       clear hX ga gb HB
       have ga := na
       clear na
       have gb := nb
       clear nb
       have HB := NB
       clear NB
       have hz := Below.refl X2.heap.size X2
       have hlot := fun W => eqv2 x.lot.1 x.lot.2 0 1 W
       obtain ⟨ca0, ca1, ca2, ca3, ca4, ca5, ca6⟩ := coC (c := c) (m := m) (ga) rfl
       obtain ⟨cb0, cb1, cb2, cb3, cb4, cb5, cb6⟩ := atC (c := x) (gb) rfl
       have rg0 := cR ca0
       have rg1 := cR ca1
       have rg2 := cR ca2
       have rg3 := cR ca3
       have rg4 := cR ca4
       have rg5 := cR ca5
       have rg6 := cR ca6
       have rg7 := cR cb0
       have rg8 := cR cb1
       have rg9 := cR cb2
       have rg10 := cR cb3
       have rg11 := cR cb4
       have rg12 := cR cb5
       have rg13 := cR cb6
       refine xAe [0, 1, 2, 3, 4, 5, 6, 7, 8, 9, 10, 11, 12, 13, 14, 15, 16, 17, 18, 19, 20, 21, 22, 23, 24, 25, 26] [27] (by kernel_rfl) (by kernel_rfl) pO ?_
       simp only [xAm, qzA, qzB, qzC, qzD, qzE, qzF]
       repeat (go_big_quiet_step ((first | (go_at_call 107; with_reducible exact xAp (fun W' _ => HM3.out W') _ _) | (go_at_call 105; exact xAp (fun W' _ => HN.out W') _ _))))
       refine wpQuiet_nil ?_
       intro Z hw2
       have hbZ := xAh hw2
       clear hw2 rg0 rg1 rg2 rg3 rg4 rg5 rg6 rg7 rg8 rg9 rg10 rg11 rg12 rg13
       clear ca0 ca1 ca2 ca3 ca4 ca5 ca6 cb0 cb1 cb2 cb3 cb4 cb5 cb6
       go_wp2
       go_ret
       exact ⟨xAb (by rw [← HR.out]; first | rfl | (simp [*]; done) | (simp [*, zer]; done) | (simp_all [zer]; done) | (rw [Bool.eq_iff_iff]; simp [*, zer]; done) | (rw [Bool.eq_iff_iff]; simp_all [zer]; done)), xAa HB hbZ⟩
      | true =>
       have v7 : (x.unit != -1) = false := by rw [bne, q7]; rfl
       obtain ⟨ca0, ca1, ca2, ca3, ca4, ca5, ca6⟩ := coC (c := c) (m := m) (ga) rfl
       obtain ⟨cb0, cb1, cb2, cb3, cb4, cb5, cb6⟩ := atC (c := x) (gb) rfl
       go_upto_region 12 with (fail)
       clear ca0 ca1 ca2 ca3 ca4 ca5 ca6 cb0 cb1 cb2 cb3 cb4 cb5 cb6
       refine xAf ?_
       intro X2 hX
       have na : Blk X2 ba 27 #[.int .i64 c.par, .slice m.h c.hold.length m.hc, .slice m.u c.un.length m.uc, .slice m.a c.ac.length m.ac, .slice m.k c.cl.length m.kc, .int .i64 c.days, .slice m.o c.off.length m.oc] := by rw [hX]; (repeat with_reducible first | assumption | exact Blk.new _ _ _ | refine Blk.drew ?_ | refine Blk.alloc ?_ _ | refine Blk.drewN ?_ _ | apply Blk.setT0 | apply Blk.setT1 | refine Blk.far ?_ (by first | (simp; done) | omega | (simp; omega)) _ | refine Blk.then_ ?_ (by assumption))
       have nb : Blk X2 bb 118 #[.int .i64 x.kind, .int .i64 x.role, .int .i64 x.give, .int .i64 x.to_, .int .i64 x.unit, .int .i64 x.lot.1, .int .i64 x.lot.2] := by rw [hX]; (repeat with_reducible first | assumption | exact Blk.new _ _ _ | refine Blk.drew ?_ | refine Blk.alloc ?_ _ | refine Blk.drewN ?_ _ | apply Blk.setT0 | apply Blk.setT1 | refine Blk.far ?_ (by first | (simp; done) | omega | (simp; omega)) _ | refine Blk.then_ ?_ (by assumption))
       have NB : Below w.heap.size w X2 := by rw [hX]; (repeat (first | (with_reducible first | assumption | exact Below.refl _ _ | refine xAk ?_ _ | refine Below.drew ?_ | refine xAc ?_ _ | refine Below.setCell ?_ (by first | omega | (simp; done) | (simp; omega)) _ | refine xAa ?_ (by assumption)) | (refine xAa (a := World.drew _) ?_ (by with_reducible assumption))))
       clear hX ga gb HB
       have ga := na
       clear na
       have gb := nb
       clear nb
       have HB := NB
       clear NB
       have hz := Below.refl X2.heap.size X2
       have hlot := fun W => eqv2 x.lot.1 x.lot.2 0 1 W
       obtain ⟨ca0, ca1, ca2, ca3, ca4, ca5, ca6⟩ := coC (c := c) (m := m) (ga) rfl
       obtain ⟨cb0, cb1, cb2, cb3, cb4, cb5, cb6⟩ := atC (c := x) (gb) rfl
       have rg0 := cR ca0
       have rg1 := cR ca1
       have rg2 := cR ca2
       have rg3 := cR ca3
       have rg4 := cR ca4
       have rg5 := cR ca5
       have rg6 := cR ca6
       have rg7 := cR cb0
       have rg8 := cR cb1
       have rg9 := cR cb2
       have rg10 := cR cb3
       have rg11 := cR cb4
       have rg12 := cR cb5
       have rg13 := cR cb6
       refine xAe [0, 1, 2, 3, 4, 5, 6, 7, 8, 9, 10, 11, 12, 13, 14, 15, 16, 17, 18, 19, 20, 21, 22, 23, 24, 25, 26] [27] (by kernel_rfl) (by kernel_rfl) pO ?_
       simp only [xAm, qzA, qzB, qzC, qzD, qzE, qzF]
       repeat (go_big_quiet_step ((first | (go_at_call 107; with_reducible exact xAp (fun W' _ => HM3.out W') _ _) | (go_at_call 105; exact xAp (fun W' _ => HN.out W') _ _))))
       refine wpQuiet_nil ?_
       intro Z hw2
       have hbZ := xAh hw2
       clear hw2 rg0 rg1 rg2 rg3 rg4 rg5 rg6 rg7 rg8 rg9 rg10 rg11 rg12 rg13
       clear ca0 ca1 ca2 ca3 ca4 ca5 ca6 cb0 cb1 cb2 cb3 cb4 cb5 cb6
       go_wp2
       go_ret
       exact ⟨xAb (by rw [← HR.out]; first | rfl | (simp [*]; done) | (simp [*, zer]; done) | (simp_all [zer]; done) | (rw [Bool.eq_iff_iff]; simp [*, zer]; done) | (rw [Bool.eq_iff_iff]; simp_all [zer]; done)), xAa HB hbZ⟩
     ·have u6 := qzN q6
      obtain ⟨ca0, ca1, ca2, ca3, ca4, ca5, ca6⟩ := coC (c := c) (m := m) (ga) rfl
      obtain ⟨cb0, cb1, cb2, cb3, cb4, cb5, cb6⟩ := atC (c := x) (gb) rfl
      go_upto_region 12 with (fail)
      clear ca0 ca1 ca2 ca3 ca4 ca5 ca6 cb0 cb1 cb2 cb3 cb4 cb5 cb6
      refine xAf ?_
      intro X2 hX
      have na : Blk X2 ba 27 #[.int .i64 c.par, .slice m.h c.hold.length m.hc, .slice m.u c.un.length m.uc, .slice m.a c.ac.length m.ac, .slice m.k c.cl.length m.kc, .int .i64 c.days, .slice m.o c.off.length m.oc] := by rw [hX]; (repeat with_reducible first | assumption | exact Blk.new _ _ _ | refine Blk.drew ?_ | refine Blk.alloc ?_ _ | refine Blk.drewN ?_ _ | apply Blk.setT0 | apply Blk.setT1 | refine Blk.far ?_ (by first | (simp; done) | omega | (simp; omega)) _ | refine Blk.then_ ?_ (by assumption))
      have nb : Blk X2 bb 118 #[.int .i64 x.kind, .int .i64 x.role, .int .i64 x.give, .int .i64 x.to_, .int .i64 x.unit, .int .i64 x.lot.1, .int .i64 x.lot.2] := by rw [hX]; (repeat with_reducible first | assumption | exact Blk.new _ _ _ | refine Blk.drew ?_ | refine Blk.alloc ?_ _ | refine Blk.drewN ?_ _ | apply Blk.setT0 | apply Blk.setT1 | refine Blk.far ?_ (by first | (simp; done) | omega | (simp; omega)) _ | refine Blk.then_ ?_ (by assumption))
      have NB : Below w.heap.size w X2 := by rw [hX]; (repeat (first | (with_reducible first | assumption | exact Below.refl _ _ | refine xAk ?_ _ | refine Below.drew ?_ | refine xAc ?_ _ | refine Below.setCell ?_ (by first | omega | (simp; done) | (simp; omega)) _ | refine xAa ?_ (by assumption)) | (refine xAa (a := World.drew _) ?_ (by with_reducible assumption))))
      clear hX ga gb HB
      have ga := na
      clear na
      have gb := nb
      clear nb
      have HB := NB
      clear NB
      have hz := Below.refl X2.heap.size X2
      have hlot := fun W => eqv2 x.lot.1 x.lot.2 0 1 W
      obtain ⟨ca0, ca1, ca2, ca3, ca4, ca5, ca6⟩ := coC (c := c) (m := m) (ga) rfl
      obtain ⟨cb0, cb1, cb2, cb3, cb4, cb5, cb6⟩ := atC (c := x) (gb) rfl
      have rg0 := cR ca0
      have rg1 := cR ca1
      have rg2 := cR ca2
      have rg3 := cR ca3
      have rg4 := cR ca4
      have rg5 := cR ca5
      have rg6 := cR ca6
      have rg7 := cR cb0
      have rg8 := cR cb1
      have rg9 := cR cb2
      have rg10 := cR cb3
      have rg11 := cR cb4
      have rg12 := cR cb5
      have rg13 := cR cb6
      refine xAe [0, 1, 2, 3, 4, 5, 6, 7, 8, 9, 10, 11, 12, 13, 14, 15, 16, 17, 18, 19, 20, 21, 22, 23, 24, 25, 26] [27] (by kernel_rfl) (by kernel_rfl) pO ?_
      simp only [xAm, qzA, qzB, qzC, qzD, qzE, qzF]
      repeat (go_big_quiet_step ((first | (go_at_call 107; with_reducible exact xAp (fun W' _ => HM3.out W') _ _) | (go_at_call 105; exact xAp (fun W' _ => HN.out W') _ _))))
      refine wpQuiet_nil ?_
      intro Z hw2
      have hbZ := xAh hw2
      clear hw2 rg0 rg1 rg2 rg3 rg4 rg5 rg6 rg7 rg8 rg9 rg10 rg11 rg12 rg13
      clear ca0 ca1 ca2 ca3 ca4 ca5 ca6 cb0 cb1 cb2 cb3 cb4 cb5 cb6
      go_wp2
      go_ret
      exact ⟨xAb (by rw [← HR.out]; first | rfl | (simp [*]; done) | (simp [*, zer]; done) | (simp_all [zer]; done) | (rw [Bool.eq_iff_iff]; simp [*, zer]; done) | (rw [Bool.eq_iff_iff]; simp_all [zer]; done)), xAa HB hbZ⟩
    ·have u5 := qzN q5
     obtain ⟨ca0, ca1, ca2, ca3, ca4, ca5, ca6⟩ := coC (c := c) (m := m) (ga) rfl
     obtain ⟨cb0, cb1, cb2, cb3, cb4, cb5, cb6⟩ := atC (c := x) (gb) rfl
     go_upto_region 12 with (fail)
     clear ca0 ca1 ca2 ca3 ca4 ca5 ca6 cb0 cb1 cb2 cb3 cb4 cb5 cb6
     refine xAf ?_
     intro X2 hX
     have na : Blk X2 ba 27 #[.int .i64 c.par, .slice m.h c.hold.length m.hc, .slice m.u c.un.length m.uc, .slice m.a c.ac.length m.ac, .slice m.k c.cl.length m.kc, .int .i64 c.days, .slice m.o c.off.length m.oc] := by rw [hX]; (repeat with_reducible first | assumption | exact Blk.new _ _ _ | refine Blk.drew ?_ | refine Blk.alloc ?_ _ | refine Blk.drewN ?_ _ | apply Blk.setT0 | apply Blk.setT1 | refine Blk.far ?_ (by first | (simp; done) | omega | (simp; omega)) _ | refine Blk.then_ ?_ (by assumption))
     have nb : Blk X2 bb 118 #[.int .i64 x.kind, .int .i64 x.role, .int .i64 x.give, .int .i64 x.to_, .int .i64 x.unit, .int .i64 x.lot.1, .int .i64 x.lot.2] := by rw [hX]; (repeat with_reducible first | assumption | exact Blk.new _ _ _ | refine Blk.drew ?_ | refine Blk.alloc ?_ _ | refine Blk.drewN ?_ _ | apply Blk.setT0 | apply Blk.setT1 | refine Blk.far ?_ (by first | (simp; done) | omega | (simp; omega)) _ | refine Blk.then_ ?_ (by assumption))
     have NB : Below w.heap.size w X2 := by rw [hX]; (repeat (first | (with_reducible first | assumption | exact Below.refl _ _ | refine xAk ?_ _ | refine Below.drew ?_ | refine xAc ?_ _ | refine Below.setCell ?_ (by first | omega | (simp; done) | (simp; omega)) _ | refine xAa ?_ (by assumption)) | (refine xAa (a := World.drew _) ?_ (by with_reducible assumption))))
     clear hX ga gb HB
     have ga := na
     clear na
     have gb := nb
     clear nb
     have HB := NB
     clear NB
     have hz := Below.refl X2.heap.size X2
     have hlot := fun W => eqv2 x.lot.1 x.lot.2 0 1 W
     obtain ⟨ca0, ca1, ca2, ca3, ca4, ca5, ca6⟩ := coC (c := c) (m := m) (ga) rfl
     obtain ⟨cb0, cb1, cb2, cb3, cb4, cb5, cb6⟩ := atC (c := x) (gb) rfl
     have rg0 := cR ca0
     have rg1 := cR ca1
     have rg2 := cR ca2
     have rg3 := cR ca3
     have rg4 := cR ca4
     have rg5 := cR ca5
     have rg6 := cR ca6
     have rg7 := cR cb0
     have rg8 := cR cb1
     have rg9 := cR cb2
     have rg10 := cR cb3
     have rg11 := cR cb4
     have rg12 := cR cb5
     have rg13 := cR cb6
     refine xAe [0, 1, 2, 3, 4, 5, 6, 7, 8, 9, 10, 11, 12, 13, 14, 15, 16, 17, 18, 19, 20, 21, 22, 23, 24, 25, 26] [27] (by kernel_rfl) (by kernel_rfl) pO ?_
     simp only [xAm, qzA, qzB, qzC, qzD, qzE, qzF]
     repeat (go_big_quiet_step ((first | (go_at_call 107; with_reducible exact xAp (fun W' _ => HM3.out W') _ _) | (go_at_call 105; exact xAp (fun W' _ => HN.out W') _ _))))
     refine wpQuiet_nil ?_
     intro Z hw2
     have hbZ := xAh hw2
     clear hw2 rg0 rg1 rg2 rg3 rg4 rg5 rg6 rg7 rg8 rg9 rg10 rg11 rg12 rg13
     clear ca0 ca1 ca2 ca3 ca4 ca5 ca6 cb0 cb1 cb2 cb3 cb4 cb5 cb6
     go_wp2
     go_ret
     exact ⟨xAb (by rw [← HR.out]; first | rfl | (simp [*]; done) | (simp [*, zer]; done) | (simp_all [zer]; done) | (rw [Bool.eq_iff_iff]; simp [*, zer]; done) | (rw [Bool.eq_iff_iff]; simp_all [zer]; done)), xAa HB hbZ⟩
 | true =>
  have v1 : (x.kind != 1) = false := by rw [bne, q1]; rfl
  cases q2 : (x.give == 0) with
  | false =>
   have v2 : (x.give != 0) = true := by rw [bne, q2]; rfl
   obtain ⟨ca0, ca1, ca2, ca3, ca4, ca5, ca6⟩ := coC (c := c) (m := m) (ga) rfl
   obtain ⟨cb0, cb1, cb2, cb3, cb4, cb5, cb6⟩ := atC (c := x) (gb) rfl
   go_wp2
   go_ret
   exact ⟨xAb (by rw [← HR.out]; first | rfl | (simp [*]; done) | (simp [*, zer, isI]; done) | (simp_all [zer, isI]; done) | (rw [Bool.eq_iff_iff]; simp [*, zer, isI]; done) | (rw [Bool.eq_iff_iff]; simp_all [zer, isI]; done)), by (repeat (first | (with_reducible first | assumption | exact Below.refl _ _ | refine xAk ?_ _ | refine Below.drew ?_ | refine xAc ?_ _ | refine Below.setCell ?_ (by first | omega | (simp; done) | (simp; omega)) _ | refine xAa ?_ (by assumption)) | (refine xAa (a := World.drew _) ?_ (by with_reducible assumption))))⟩
  | true =>
   have v2 : (x.give != 0) = false := by rw [bne, q2]; rfl
   cases q3 : (x.to_ == -1) with
   | false =>
    have v3 : (x.to_ != -1) = true := by rw [bne, q3]; rfl
    cases q4 : (m2) with
    | false =>
     subst q4
     obtain ⟨ca0, ca1, ca2, ca3, ca4, ca5, ca6⟩ := coC (c := c) (m := m) (ga) rfl
     obtain ⟨cb0, cb1, cb2, cb3, cb4, cb5, cb6⟩ := atC (c := x) (gb) rfl
     go_wp2_with ((go_at_call 107; (with_reducible refine (HM2.out _).mono ?_); rintro e w1 ⟨rfl, hbw1⟩; obtain ⟨k1a0, k1a1, k1a2, k1a3, k1a4, k1a5, k1a6⟩ := coC (c := c) (m := m) ((ga.then_ hbw1)) rfl; obtain ⟨k1b0, k1b1, k1b2, k1b3, k1b4, k1b5, k1b6⟩ := atC (c := x) ((gb.then_ hbw1)) rfl))
     go_ret
     exact ⟨xAb (by rw [← HR.out]; first | rfl | (simp [*]; done) | (simp [*, zer, isI]; done) | (simp_all [zer, isI]; done) | (rw [Bool.eq_iff_iff]; simp [*, zer, isI]; done) | (rw [Bool.eq_iff_iff]; simp_all [zer, isI]; done)), by (repeat (first | (with_reducible first | assumption | exact Below.refl _ _ | refine xAk ?_ _ | refine Below.drew ?_ | refine xAc ?_ _ | refine Below.setCell ?_ (by first | omega | (simp; done) | (simp; omega)) _ | refine xAa ?_ (by assumption)) | (refine xAa (a := World.drew _) ?_ (by with_reducible assumption))))⟩
    | true =>
     subst q4
     cases q5 : (x.unit == -1) with
     | false =>
      have v5 : (x.unit != -1) = true := by rw [bne, q5]; rfl
      by_cases q6 : 0 ≤ x.unit
      ·have u6 := qzO q6
       by_cases q7 : x.unit < (c.un.length : Int)
       ·have u7 := qzO q7
        obtain ⟨ca0, ca1, ca2, ca3, ca4, ca5, ca6⟩ := coC (c := c) (m := m) (ga) rfl
        obtain ⟨cb0, cb1, cb2, cb3, cb4, cb5, cb6⟩ := atC (c := x) (gb) rfl
        go_wp2_with (first | (go_at_call 107; (with_reducible refine (HM2.out _).mono ?_); rintro e w1 ⟨rfl, hbw1⟩; obtain ⟨k1a0, k1a1, k1a2, k1a3, k1a4, k1a5, k1a6⟩ := coC (c := c) (m := m) ((ga.then_ hbw1)) rfl; obtain ⟨k1b0, k1b1, k1b2, k1b3, k1b4, k1b5, k1b6⟩ := atC (c := x) ((gb.then_ hbw1)) rfl) | (go_at_call 106; (with_reducible refine (HP.out _).mono ?_); rintro e w2 ⟨rfl, hbw2⟩; obtain ⟨k2a0, k2a1, k2a2, k2a3, k2a4, k2a5, k2a6⟩ := coC (c := c) (m := m) (((ga.then_ hbw1).then_ hbw2)) rfl; obtain ⟨k2b0, k2b1, k2b2, k2b3, k2b4, k2b5, k2b6⟩ := atC (c := x) (((gb.then_ hbw1).then_ hbw2)) rfl))
        go_ret
        exact ⟨xAb (by rw [← HR.out]; first | rfl | (simp [*]; done) | (simp [*, isI]; done) | (simp_all [zer, isI]; done) | (rw [Bool.eq_iff_iff]; simp [*, zer, isI]; done) | (rw [Bool.eq_iff_iff]; simp_all [zer, isI]; done)), by (repeat (first | (with_reducible first | assumption | exact Below.refl _ _ | refine xAk ?_ _ | refine Below.drew ?_ | refine xAc ?_ _ | refine Below.setCell ?_ (by first | omega | (simp; done) | (simp; omega)) _ | refine xAa ?_ (by assumption)) | (refine xAa (a := World.drew _) ?_ (by with_reducible assumption))))⟩
       ·have u7 := qzN q7
        obtain ⟨ca0, ca1, ca2, ca3, ca4, ca5, ca6⟩ := coC (c := c) (m := m) (ga) rfl
        obtain ⟨cb0, cb1, cb2, cb3, cb4, cb5, cb6⟩ := atC (c := x) (gb) rfl
        go_wp2_with (first | (go_at_call 107; (with_reducible refine (HM2.out _).mono ?_); rintro e w1 ⟨rfl, hbw1⟩; obtain ⟨k1a0, k1a1, k1a2, k1a3, k1a4, k1a5, k1a6⟩ := coC (c := c) (m := m) ((ga.then_ hbw1)) rfl; obtain ⟨k1b0, k1b1, k1b2, k1b3, k1b4, k1b5, k1b6⟩ := atC (c := x) ((gb.then_ hbw1)) rfl) | (go_at_call 106; (with_reducible refine (HP.out _).mono ?_); rintro e w2 ⟨rfl, hbw2⟩; obtain ⟨k2a0, k2a1, k2a2, k2a3, k2a4, k2a5, k2a6⟩ := coC (c := c) (m := m) (((ga.then_ hbw1).then_ hbw2)) rfl; obtain ⟨k2b0, k2b1, k2b2, k2b3, k2b4, k2b5, k2b6⟩ := atC (c := x) (((gb.then_ hbw1).then_ hbw2)) rfl))
        go_ret
        exact ⟨xAb (by rw [← HR.out]; first | rfl | (simp [*]; done) | (simp [*, isI]; done) | (simp_all [zer, isI]; done) | (rw [Bool.eq_iff_iff]; simp [*, zer, isI]; done) | (rw [Bool.eq_iff_iff]; simp_all [zer, isI]; done)), by (repeat (first | (with_reducible first | assumption | exact Below.refl _ _ | refine xAk ?_ _ | refine Below.drew ?_ | refine xAc ?_ _ | refine Below.setCell ?_ (by first | omega | (simp; done) | (simp; omega)) _ | refine xAa ?_ (by assumption)) | (refine xAa (a := World.drew _) ?_ (by with_reducible assumption))))⟩
      ·have u6 := qzN q6
       obtain ⟨ca0, ca1, ca2, ca3, ca4, ca5, ca6⟩ := coC (c := c) (m := m) (ga) rfl
       obtain ⟨cb0, cb1, cb2, cb3, cb4, cb5, cb6⟩ := atC (c := x) (gb) rfl
       go_wp2_with (first | (go_at_call 107; (with_reducible refine (HM2.out _).mono ?_); rintro e w1 ⟨rfl, hbw1⟩; obtain ⟨k1a0, k1a1, k1a2, k1a3, k1a4, k1a5, k1a6⟩ := coC (c := c) (m := m) ((ga.then_ hbw1)) rfl; obtain ⟨k1b0, k1b1, k1b2, k1b3, k1b4, k1b5, k1b6⟩ := atC (c := x) ((gb.then_ hbw1)) rfl) | (go_at_call 106; (with_reducible refine (HP.out _).mono ?_); rintro e w2 ⟨rfl, hbw2⟩; obtain ⟨k2a0, k2a1, k2a2, k2a3, k2a4, k2a5, k2a6⟩ := coC (c := c) (m := m) (((ga.then_ hbw1).then_ hbw2)) rfl; obtain ⟨k2b0, k2b1, k2b2, k2b3, k2b4, k2b5, k2b6⟩ := atC (c := x) (((gb.then_ hbw1).then_ hbw2)) rfl))
       go_ret
       exact ⟨xAb (by rw [← HR.out]; first | rfl | (simp [*]; done) | (simp [*, isI]; done) | (simp_all [zer, isI]; done) | (rw [Bool.eq_iff_iff]; simp [*, zer, isI]; done) | (rw [Bool.eq_iff_iff]; simp_all [zer, isI]; done)), by (repeat (first | (with_reducible first | assumption | exact Below.refl _ _ | refine xAk ?_ _ | refine Below.drew ?_ | refine xAc ?_ _ | refine Below.setCell ?_ (by first | omega | (simp; done) | (simp; omega)) _ | refine xAa ?_ (by assumption)) | (refine xAa (a := World.drew _) ?_ (by with_reducible assumption))))⟩
     | true =>
      have v5 : (x.unit != -1) = false := by rw [bne, q5]; rfl
      obtain ⟨ca0, ca1, ca2, ca3, ca4, ca5, ca6⟩ := coC (c := c) (m := m) (ga) rfl
      obtain ⟨cb0, cb1, cb2, cb3, cb4, cb5, cb6⟩ := atC (c := x) (gb) rfl
      go_upto_region 8 with ((go_at_call 107; (with_reducible refine (HM2.out _).mono ?_); rintro e w1 ⟨rfl, hbw1⟩; obtain ⟨k1a0, k1a1, k1a2, k1a3, k1a4, k1a5, k1a6⟩ := coC (c := c) (m := m) ((ga.then_ hbw1)) rfl; obtain ⟨k1b0, k1b1, k1b2, k1b3, k1b4, k1b5, k1b6⟩ := atC (c := x) ((gb.then_ hbw1)) rfl))
      clear ca0 ca1 ca2 ca3 ca4 ca5 ca6 cb0 cb1 cb2 cb3 cb4 cb5 cb6
      try clear k1a0 k1a1 k1b0 k1b1
      refine xAf ?_
      intro X2 hX
      have na : Blk X2 ba 27 #[.int .i64 c.par, .slice m.h c.hold.length m.hc, .slice m.u c.un.length m.uc, .slice m.a c.ac.length m.ac, .slice m.k c.cl.length m.kc, .int .i64 c.days, .slice m.o c.off.length m.oc] := by rw [hX]; (repeat with_reducible first | assumption | exact Blk.new _ _ _ | refine Blk.drew ?_ | refine Blk.alloc ?_ _ | refine Blk.drewN ?_ _ | apply Blk.setT0 | apply Blk.setT1 | refine Blk.far ?_ (by first | (simp; done) | omega | (simp; omega)) _ | refine Blk.then_ ?_ (by assumption))
      have nb : Blk X2 bb 118 #[.int .i64 x.kind, .int .i64 x.role, .int .i64 x.give, .int .i64 x.to_, .int .i64 x.unit, .int .i64 x.lot.1, .int .i64 x.lot.2] := by rw [hX]; (repeat with_reducible first | assumption | exact Blk.new _ _ _ | refine Blk.drew ?_ | refine Blk.alloc ?_ _ | refine Blk.drewN ?_ _ | apply Blk.setT0 | apply Blk.setT1 | refine Blk.far ?_ (by first | (simp; done) | omega | (simp; omega)) _ | refine Blk.then_ ?_ (by assumption))
      have NB : Below w.heap.size w X2 := by rw [hX]; (repeat (first | (with_reducible first | assumption | exact Below.refl _ _ | refine xAk ?_ _ | refine Below.drew ?_ | refine xAc ?_ _ | refine Below.setCell ?_ (by first | omega | (simp; done) | (simp; omega)) _ | refine xAa ?_ (by assumption)) | (refine xAa (a := World.drew _) ?_ (by with_reducible assumption))))
      clear hX ga gb HB
      have ga := na
      clear na
      have gb := nb
      clear nb
      have HB := NB
      clear NB
      have hz := Below.refl X2.heap.size X2
      have hlot := fun W => eqv2 x.lot.1 x.lot.2 0 1 W
      obtain ⟨ca0, ca1, ca2, ca3, ca4, ca5, ca6⟩ := coC (c := c) (m := m) (ga) rfl
      obtain ⟨cb0, cb1, cb2, cb3, cb4, cb5, cb6⟩ := atC (c := x) (gb) rfl
      have rg0 := cR ca0
      have rg1 := cR ca1
      have rg2 := cR ca2
      have rg3 := cR ca3
      have rg4 := cR ca4
      have rg5 := cR ca5
      have rg6 := cR ca6
      have rg7 := cR cb0
      have rg8 := cR cb1
      have rg9 := cR cb2
      have rg10 := cR cb3
      have rg11 := cR cb4
      have rg12 := cR cb5
      have rg13 := cR cb6
      refine xAe [0, 1, 2, 3] [4] (by kernel_rfl) (by kernel_rfl) pO ?_
      simp only [xAm, qzA, qzB, qzC, qzD, qzE, qzF]
      repeat (go_big_quiet_step ((first | (go_at_call 105; exact xAp (fun W' _ => HN.out W') _ _))))
      refine wpQuiet_nil ?_
      intro Z hw2
      have hbZ := xAh hw2
      clear hw2 rg0 rg1 rg2 rg3 rg4 rg5 rg6 rg7 rg8 rg9 rg10 rg11 rg12 rg13
      clear ca0 ca1 ca2 ca3 ca4 ca5 ca6 cb0 cb1 cb2 cb3 cb4 cb5 cb6
      go_wp2
      go_ret
      exact ⟨xAb (by rw [← HR.out]; first | rfl | (simp [*]; done) | (simp [*, zer]; done) | (simp_all [zer]; done) | (rw [Bool.eq_iff_iff]; simp [*, zer]; done) | (rw [Bool.eq_iff_iff]; simp_all [zer]; done)), xAa HB hbZ⟩
   | true =>
    have v3 : (x.to_ != -1) = false := by rw [bne, q3]; rfl
    cases q5 : (x.unit == -1) with
    | false =>
     have v5 : (x.unit != -1) = true := by rw [bne, q5]; rfl
     by_cases q6 : 0 ≤ x.unit
     ·have u6 := qzO q6
      by_cases q7 : x.unit < (c.un.length : Int)
      ·have u7 := qzO q7
       obtain ⟨ca0, ca1, ca2, ca3, ca4, ca5, ca6⟩ := coC (c := c) (m := m) (ga) rfl
       obtain ⟨cb0, cb1, cb2, cb3, cb4, cb5, cb6⟩ := atC (c := x) (gb) rfl
       go_wp2_with ((go_at_call 106; (with_reducible refine (HP.out _).mono ?_); rintro e w1 ⟨rfl, hbw1⟩; obtain ⟨k1a0, k1a1, k1a2, k1a3, k1a4, k1a5, k1a6⟩ := coC (c := c) (m := m) ((ga.then_ hbw1)) rfl; obtain ⟨k1b0, k1b1, k1b2, k1b3, k1b4, k1b5, k1b6⟩ := atC (c := x) ((gb.then_ hbw1)) rfl))
       go_ret
       exact ⟨xAb (by rw [← HR.out]; first | rfl | (simp [*]; done) | (simp [*, isI]; done) | (simp_all [zer, isI]; done) | (rw [Bool.eq_iff_iff]; simp [*, zer, isI]; done) | (rw [Bool.eq_iff_iff]; simp_all [zer, isI]; done)), by (repeat (first | (with_reducible first | assumption | exact Below.refl _ _ | refine xAk ?_ _ | refine Below.drew ?_ | refine xAc ?_ _ | refine Below.setCell ?_ (by first | omega | (simp; done) | (simp; omega)) _ | refine xAa ?_ (by assumption)) | (refine xAa (a := World.drew _) ?_ (by with_reducible assumption))))⟩
      ·have u7 := qzN q7
       obtain ⟨ca0, ca1, ca2, ca3, ca4, ca5, ca6⟩ := coC (c := c) (m := m) (ga) rfl
       obtain ⟨cb0, cb1, cb2, cb3, cb4, cb5, cb6⟩ := atC (c := x) (gb) rfl
       go_wp2_with ((go_at_call 106; (with_reducible refine (HP.out _).mono ?_); rintro e w1 ⟨rfl, hbw1⟩; obtain ⟨k1a0, k1a1, k1a2, k1a3, k1a4, k1a5, k1a6⟩ := coC (c := c) (m := m) ((ga.then_ hbw1)) rfl; obtain ⟨k1b0, k1b1, k1b2, k1b3, k1b4, k1b5, k1b6⟩ := atC (c := x) ((gb.then_ hbw1)) rfl))
       go_ret
       exact ⟨xAb (by rw [← HR.out]; first | rfl | (simp [*]; done) | (simp [*, isI]; done) | (simp_all [zer, isI]; done) | (rw [Bool.eq_iff_iff]; simp [*, zer, isI]; done) | (rw [Bool.eq_iff_iff]; simp_all [zer, isI]; done)), by (repeat (first | (with_reducible first | assumption | exact Below.refl _ _ | refine xAk ?_ _ | refine Below.drew ?_ | refine xAc ?_ _ | refine Below.setCell ?_ (by first | omega | (simp; done) | (simp; omega)) _ | refine xAa ?_ (by assumption)) | (refine xAa (a := World.drew _) ?_ (by with_reducible assumption))))⟩
     ·have u6 := qzN q6
      obtain ⟨ca0, ca1, ca2, ca3, ca4, ca5, ca6⟩ := coC (c := c) (m := m) (ga) rfl
      obtain ⟨cb0, cb1, cb2, cb3, cb4, cb5, cb6⟩ := atC (c := x) (gb) rfl
      go_wp2_with ((go_at_call 106; (with_reducible refine (HP.out _).mono ?_); rintro e w1 ⟨rfl, hbw1⟩; obtain ⟨k1a0, k1a1, k1a2, k1a3, k1a4, k1a5, k1a6⟩ := coC (c := c) (m := m) ((ga.then_ hbw1)) rfl; obtain ⟨k1b0, k1b1, k1b2, k1b3, k1b4, k1b5, k1b6⟩ := atC (c := x) ((gb.then_ hbw1)) rfl))
      go_ret
      exact ⟨xAb (by rw [← HR.out]; first | rfl | (simp [*]; done) | (simp [*, isI]; done) | (simp_all [zer, isI]; done) | (rw [Bool.eq_iff_iff]; simp [*, zer, isI]; done) | (rw [Bool.eq_iff_iff]; simp_all [zer, isI]; done)), by (repeat (first | (with_reducible first | assumption | exact Below.refl _ _ | refine xAk ?_ _ | refine Below.drew ?_ | refine xAc ?_ _ | refine Below.setCell ?_ (by first | omega | (simp; done) | (simp; omega)) _ | refine xAa ?_ (by assumption)) | (refine xAa (a := World.drew _) ?_ (by with_reducible assumption))))⟩
    | true =>
     have v5 : (x.unit != -1) = false := by rw [bne, q5]; rfl
     obtain ⟨ca0, ca1, ca2, ca3, ca4, ca5, ca6⟩ := coC (c := c) (m := m) (ga) rfl
     obtain ⟨cb0, cb1, cb2, cb3, cb4, cb5, cb6⟩ := atC (c := x) (gb) rfl
     go_upto_region 8 with (fail)
     clear ca0 ca1 ca2 ca3 ca4 ca5 ca6 cb0 cb1 cb2 cb3 cb4 cb5 cb6
     refine xAf ?_
     intro X2 hX
     have na : Blk X2 ba 27 #[.int .i64 c.par, .slice m.h c.hold.length m.hc, .slice m.u c.un.length m.uc, .slice m.a c.ac.length m.ac, .slice m.k c.cl.length m.kc, .int .i64 c.days, .slice m.o c.off.length m.oc] := by rw [hX]; (repeat with_reducible first | assumption | exact Blk.new _ _ _ | refine Blk.drew ?_ | refine Blk.alloc ?_ _ | refine Blk.drewN ?_ _ | apply Blk.setT0 | apply Blk.setT1 | refine Blk.far ?_ (by first | (simp; done) | omega | (simp; omega)) _ | refine Blk.then_ ?_ (by assumption))
     have nb : Blk X2 bb 118 #[.int .i64 x.kind, .int .i64 x.role, .int .i64 x.give, .int .i64 x.to_, .int .i64 x.unit, .int .i64 x.lot.1, .int .i64 x.lot.2] := by rw [hX]; (repeat with_reducible first | assumption | exact Blk.new _ _ _ | refine Blk.drew ?_ | refine Blk.alloc ?_ _ | refine Blk.drewN ?_ _ | apply Blk.setT0 | apply Blk.setT1 | refine Blk.far ?_ (by first | (simp; done) | omega | (simp; omega)) _ | refine Blk.then_ ?_ (by assumption))
     have NB : Below w.heap.size w X2 := by rw [hX]; (repeat (first | (with_reducible first | assumption | exact Below.refl _ _ | refine xAk ?_ _ | refine Below.drew ?_ | refine xAc ?_ _ | refine Below.setCell ?_ (by first | omega | (simp; done) | (simp; omega)) _ | refine xAa ?_ (by assumption)) | (refine xAa (a := World.drew _) ?_ (by with_reducible assumption))))
     clear hX ga gb HB
     have ga := na
     clear na
     have gb := nb
     clear nb
     have HB := NB
     clear NB
     have hz := Below.refl X2.heap.size X2
     have hlot := fun W => eqv2 x.lot.1 x.lot.2 0 1 W
     obtain ⟨ca0, ca1, ca2, ca3, ca4, ca5, ca6⟩ := coC (c := c) (m := m) (ga) rfl
     obtain ⟨cb0, cb1, cb2, cb3, cb4, cb5, cb6⟩ := atC (c := x) (gb) rfl
     have rg0 := cR ca0
     have rg1 := cR ca1
     have rg2 := cR ca2
     have rg3 := cR ca3
     have rg4 := cR ca4
     have rg5 := cR ca5
     have rg6 := cR ca6
     have rg7 := cR cb0
     have rg8 := cR cb1
     have rg9 := cR cb2
     have rg10 := cR cb3
     have rg11 := cR cb4
     have rg12 := cR cb5
     have rg13 := cR cb6
     refine xAe [0, 1, 2, 3] [4] (by kernel_rfl) (by kernel_rfl) pO ?_
     simp only [xAm, qzA, qzB, qzC, qzD, qzE, qzF]
     repeat (go_big_quiet_step ((first | (go_at_call 105; exact xAp (fun W' _ => HN.out W') _ _))))
     refine wpQuiet_nil ?_
     intro Z hw2
     have hbZ := xAh hw2
     clear hw2 rg0 rg1 rg2 rg3 rg4 rg5 rg6 rg7 rg8 rg9 rg10 rg11 rg12 rg13
     clear ca0 ca1 ca2 ca3 ca4 ca5 ca6 cb0 cb1 cb2 cb3 cb4 cb5 cb6
     go_wp2
     go_ret
     exact ⟨xAb (by rw [← HR.out]; first | rfl | (simp [*]; done) | (simp [*, zer]; done) | (simp_all [zer]; done) | (rw [Bool.eq_iff_iff]; simp [*, zer]; done) | (rw [Bool.eq_iff_iff]; simp_all [zer]; done)), xAa HB hbZ⟩
end Go.Proofs.YtginnonjdbpamaaGreatDoor
