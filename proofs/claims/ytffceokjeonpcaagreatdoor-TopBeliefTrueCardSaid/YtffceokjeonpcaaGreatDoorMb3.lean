/- Contracts of functions and plain laws, joined: Kb5, Kb6, Kb7. -/
import Derived.Test.YtffceokjeonpcaaGreatDoorMb2
import Derived.WalkMore
import Derived.Test.YtffceokjeonpcaaGreatDoorMb1
set_option maxHeartbeats 6400000
set_option maxRecDepth 100000
namespace Go.Proofs.YtffceokjeonpcaaGreatDoor
open Go.RowKit
theorem act_mov (c : Con) (m : Cm) (x : Atc) (m1 m2 m3 ps : Bool) (w : World)
  (HM1 : Hid (∀ W, Calls Tryz.prog 94 #[.agg (coA c m), .int .i64 x.role] W fun e w' => e = .returned (.bool m1) ∧ Below W.heap.size W w')) (HM2 : Hid (∀ W, Calls Tryz.prog 94 #[.agg (coA c m), .int .i64 x.to_] W fun e w' => e = .returned (.bool m2) ∧ Below W.heap.size W w')) (HM3 : Hid (∀ W, Calls Tryz.prog 94 #[.agg (coA c m), .int .i64 x.give] W fun e w' => e = .returned (.bool m3) ∧ Below W.heap.size W w'))
  (HN : Hid (∀ W, Calls Tryz.prog 92 #[] W fun e w' => e = .returned (.agg #[.int .i64 0, .int .i64 1]) ∧ Below W.heap.size W w')) (HP : Hid (∀ W, Calls Tryz.prog 93 #[.agg #[.int .i64 x.lot.1, .int .i64 x.lot.2]] W fun e w' => e = .returned (.bool ps) ∧ Below W.heap.size W w'))
  (h1 : m1 = true) :
  Calls Tryz.prog 89 #[.agg (coA c m), .agg (aA x)] w fun e w' => e = .returned (.bool (if x.kind == 1 then x.give == 0 && (x.to_ == -1 || m2) && (if x.unit == -1 then zer x.lot else isI x.unit c.un.length && ps) else (x.kind == 2 || x.kind == 3) && m3 && decide (0 ≤ x.to_) && decide (x.to_ < c.par) && x.unit == -1 && zer x.lot)) ∧ Below w.heap.size w w' := by
 subst h1
 obtain ⟨R, hR⟩ : ∃ R, (if x.kind == 1 then x.give == 0 && (x.to_ == -1 || m2) && (if x.unit == -1 then zer x.lot else isI x.unit c.un.length && ps) else (x.kind == 2 || x.kind == 3) && m3 && decide (0 ≤ x.to_) && decide (x.to_ < c.par) && x.unit == -1 && zer x.lot) = R := ⟨_, rfl⟩
 rw [hR]
 have HR := qzL hR
 clear hR
 go_enter Tryz.func89, Tryz.ntmps89
 go_upto_region 1 with (fail)
 refine xAi ?_
 intro X0 hX
 have ga : Blk X0 (w.heap.size) 27 #[.int .i64 c.par, .slice m.h c.hold.length m.hc, .slice m.u c.un.length m.uc, .slice m.a c.ac.length m.ac, .slice m.k c.cl.length m.kc, .int .i64 c.days, .slice m.o c.off.length m.oc] := by rw [hX]; exact ((xA0 (by simp))).alloc _
 have gb : Blk X0 (w.heap.size + 1) 92 #[.int .i64 x.kind, .int .i64 x.role, .int .i64 x.give, .int .i64 x.to_, .int .i64 x.unit, .int .i64 x.lot.1, .int .i64 x.lot.2] := by rw [hX]; exact (xA0 (by simp))
 have HB : Below w.heap.size w X0 := by rw [hX]; (repeat (first | exact Below.refl _ _ | refine xAc ?_ _))
 clear hX
 obtain ⟨bb, eb⟩ : ∃ b, w.heap.size + 1 = b := ⟨_, rfl⟩
 rw [eb] at gb ⊢
 clear eb
 obtain ⟨ba, eb⟩ : ∃ b, w.heap.size = b := ⟨_, rfl⟩
 rw [eb] at ga ⊢
 clear eb
 have hz := Below.refl X0.heap.size X0
 obtain ⟨ca0, ca1, ca2, ca3, ca4, ca5, ca6⟩ := coC (c := c) (m := m) (ga) rfl
 obtain ⟨cb0, cb1, cb2, cb3, cb4, cb5, cb6⟩ := atC (c := x) (gb) rfl
 go_upto_region 3 with ((go_at_call 94; (with_reducible refine (HM1.out _).mono ?_); rintro e w1 ⟨rfl, hbw1⟩; obtain ⟨k1a0, k1a1, k1a2, k1a3, k1a4, k1a5, k1a6⟩ := coC (c := c) (m := m) ((ga.then_ hbw1)) rfl; obtain ⟨k1b0, k1b1, k1b2, k1b3, k1b4, k1b5, k1b6⟩ := atC (c := x) ((gb.then_ hbw1)) rfl))
 clear HM1
 clear ca0 ca1 ca2 ca3 ca4 ca5 ca6 cb0 cb1 cb2 cb3 cb4 cb5 cb6
 try clear k1a0 k1a1 k1b0 k1b1
 refine xAi ?_
 intro X1 hX
 have na : Blk X1 ba 27 #[.int .i64 c.par, .slice m.h c.hold.length m.hc, .slice m.u c.un.length m.uc, .slice m.a c.ac.length m.ac, .slice m.k c.cl.length m.kc, .int .i64 c.days, .slice m.o c.off.length m.oc] := by rw [hX]; (repeat with_reducible first | assumption | exact Blk.new _ _ _ | refine Blk.drew ?_ | refine Blk.alloc ?_ _ | refine Blk.drewN ?_ _ | apply Blk.setT0 | apply Blk.setT1 | refine Blk.far ?_ (by first | (simp; done) | omega | (simp; omega)) _ | refine Blk.then_ ?_ (by assumption))
 have nb : Blk X1 bb 92 #[.int .i64 x.kind, .int .i64 x.role, .int .i64 x.give, .int .i64 x.to_, .int .i64 x.unit, .int .i64 x.lot.1, .int .i64 x.lot.2] := by rw [hX]; (repeat with_reducible first | assumption | exact Blk.new _ _ _ | refine Blk.drew ?_ | refine Blk.alloc ?_ _ | refine Blk.drewN ?_ _ | apply Blk.setT0 | apply Blk.setT1 | refine Blk.far ?_ (by first | (simp; done) | omega | (simp; omega)) _ | refine Blk.then_ ?_ (by assumption))
 have NB : Below w.heap.size w X1 := by rw [hX]; (repeat (first | (with_reducible first | assumption | exact Below.refl _ _ | refine xAk ?_ _ | refine Below.drew ?_ | refine xAc ?_ _ | refine Below.setCell ?_ (by first | omega | (simp; done) | (simp; omega)) _ | refine xAa ?_ (by assumption)) | (refine xAa (a := World.drew _) ?_ (by with_reducible assumption))))
 clear hX ga gb HB
 have ga := na
 clear na
 have gb := nb
 clear nb
 have HB := NB
 clear NB
 have hz := Below.refl X1.heap.size X1
 cases q1 : (x.kind == 1) with
 | false =>
  have v1 : (x.kind != 1) = true := by rw [bne, q1]; rfl
  cases q2 : (x.kind == 2) with
  | false =>
   have v2 : (x.kind != 2) = true := by rw [bne, q2]; rfl
   cases q3 : (x.kind == 3) with
   | false =>
    have v3 : (x.kind != 3) = true := by rw [bne, q3]; rfl
    obtain ⟨ca0, ca1, ca2, ca3, ca4, ca5, ca6⟩ := coC (c := c) (m := m) (ga) rfl
    obtain ⟨cb0, cb1, cb2, cb3, cb4, cb5, cb6⟩ := atC (c := x) (gb) rfl
    go_wp2
    go_ret
    exact ⟨xAb (by rw [← HR.out]; first | rfl | (simp [*]; done) | (simp [*, zer, isI]; done) | (simp_all [zer, isI]; done) | (rw [Bool.eq_iff_iff]; simp [*, zer, isI]; done) | (rw [Bool.eq_iff_iff]; simp_all [zer, isI]; done)), by (repeat (first | (with_reducible first | assumption | exact Below.refl _ _ | refine xAk ?_ _ | refine Below.drew ?_ | refine xAc ?_ _ | refine Below.setCell ?_ (by first | omega | (simp; done) | (simp; omega)) _ | refine xAa ?_ (by assumption)) | (refine xAa (a := World.drew _) ?_ (by with_reducible assumption))))⟩
   | true =>
    have v3 : (x.kind != 3) = false := by rw [bne, q3]; rfl
    cases q4 : (m3) with
    | false =>
     subst q4
     obtain ⟨ca0, ca1, ca2, ca3, ca4, ca5, ca6⟩ := coC (c := c) (m := m) (ga) rfl
     obtain ⟨cb0, cb1, cb2, cb3, cb4, cb5, cb6⟩ := atC (c := x) (gb) rfl
     go_upto_region 12 with (fail)
     clear ca0 ca1 ca2 ca3 ca4 ca5 ca6 cb0 cb1 cb2 cb3 cb4 cb5 cb6
     refine xAi ?_
     intro X2 hX
     have na : Blk X2 ba 27 #[.int .i64 c.par, .slice m.h c.hold.length m.hc, .slice m.u c.un.length m.uc, .slice m.a c.ac.length m.ac, .slice m.k c.cl.length m.kc, .int .i64 c.days, .slice m.o c.off.length m.oc] := by rw [hX]; (repeat with_reducible first | assumption | exact Blk.new _ _ _ | refine Blk.drew ?_ | refine Blk.alloc ?_ _ | refine Blk.drewN ?_ _ | apply Blk.setT0 | apply Blk.setT1 | refine Blk.far ?_ (by first | (simp; done) | omega | (simp; omega)) _ | refine Blk.then_ ?_ (by assumption))
     have nb : Blk X2 bb 92 #[.int .i64 x.kind, .int .i64 x.role, .int .i64 x.give, .int .i64 x.to_, .int .i64 x.unit, .int .i64 x.lot.1, .int .i64 x.lot.2] := by rw [hX]; (repeat with_reducible first | assumption | exact Blk.new _ _ _ | refine Blk.drew ?_ | refine Blk.alloc ?_ _ | refine Blk.drewN ?_ _ | apply Blk.setT0 | apply Blk.setT1 | refine Blk.far ?_ (by first | (simp; done) | omega | (simp; omega)) _ | refine Blk.then_ ?_ (by assumption))
     have NB : Below w.heap.size w X2 := by rw [hX]; (repeat (first | (with_reducible first | assumption | exact Below.refl _ _ | refine xAk ?_ _ | refine Below.drew ?_ | refine xAc ?_ _ | refine Below.setCell ?_ (by first | omega | (simp; done) | (simp; omega)) _ | refine xAa ?_ (by assumption)) | (refine xAa (a := World.drew _) ?_ (by with_reducible assumption))))
     clear hX ga gb HB
     have ga := na
     clear na
     have gb := nb
     clear nb
     have HB := NB
     clear NB
     have hz := Below.refl X2.heap.size X2
     have hlot := fun W => eqv2 x.lot.1 x.lot.2 0 1 W
     obtain ⟨ca0, ca1, ca2, ca3, ca4, ca5, ca6⟩ := coC (c := c) (m := m) (ga) rfl
     obtain ⟨cb0, cb1, cb2, cb3, cb4, cb5, cb6⟩ := atC (c := x) (gb) rfl
     have rg0 := cR ca0
     have rg1 := cR ca1
     have rg2 := cR ca2
     have rg3 := cR ca3
     have rg4 := cR ca4
     have rg5 := cR ca5
     have rg6 := cR ca6
     have rg7 := cR cb0
     have rg8 := cR cb1
     have rg9 := cR cb2
     have rg10 := cR cb3
     have rg11 := cR cb4
     have rg12 := cR cb5
     have rg13 := cR cb6
     refine xAg [0, 1, 2, 3, 4, 5, 6, 7, 8, 9, 10, 11, 12, 13, 14, 15, 16, 17, 18, 19, 20, 21, 22, 23, 24, 25, 26] [27] (by kernel_rfl) (by kernel_rfl) pO ?_
     simp only [xAn, qzA, qzB, qzC, qzD, qzE, qzF]
     repeat (go_big_quiet_step ((first | (go_at_call 94; with_reducible exact xAq (fun W' _ => HM3.out W') _ _) | (go_at_call 92; exact xAq (fun W' _ => HN.out W') _ _))))
     refine wpQuiet_nil ?_
     intro Z hw2
     have hbZ := xAj hw2
     clear hw2 rg0 rg1 rg2 rg3 rg4 rg5 rg6 rg7 rg8 rg9 rg10 rg11 rg12 rg13
     clear ca0 ca1 ca2 ca3 ca4 ca5 ca6 cb0 cb1 cb2 cb3 cb4 cb5 cb6
     go_wp2
     go_ret
     exact ⟨xAb (by rw [← HR.out]; first | rfl | (simp [*]; done) | (simp [*, zer]; done) | (simp_all [zer]; done) | (rw [Bool.eq_iff_iff]; simp [*, zer]; done) | (rw [Bool.eq_iff_iff]; simp_all [zer]; done)), xAa HB hbZ⟩
    | true =>
     subst q4
     by_cases q5 : 0 ≤ x.to_
     ·have u5 := qzO q5
      by_cases q6 : x.to_ < c.par
      ·have u6 := qzO q6
       cases q7 : (x.unit == -1) with
       | false =>
        have v7 : (x.unit != -1) = true := by rw [bne, q7]; rfl
        obtain ⟨ca0, ca1, ca2, ca3, ca4, ca5, ca6⟩ := coC (c := c) (m := m) (ga) rfl
        obtain ⟨cb0, cb1, cb2, cb3, cb4, cb5, cb6⟩ := atC (c := x) (gb) rfl
        go_upto_region 12 with (fail)
        clear ca0 ca1 ca2 ca3 ca4 ca5 ca6 cb0 cb1 cb2 cb3 cb4 cb5 cb6
        refine xAi ?_
        intro X2 hX
        have na : Blk X2 ba 27 #[.int .i64 c.par, .slice m.h c.hold.length m.hc, .slice m.u c.un.length m.uc, .slice m.a c.ac.length m.ac, .slice m.k c.cl.length m.kc, .int .i64 c.days, .slice m.o c.off.length m.oc] := by rw [hX]; (repeat with_reducible first | assumption | exact Blk.new _ _ _ | refine Blk.drew ?_ | refine Blk.alloc ?_ _ | refine Blk.drewN ?_ _ | apply Blk.setT0 | apply Blk.setT1 | refine Blk.far ?_ (by first | (simp; done) | omega | (simp; omega)) _ | refine Blk.then_ ?_ (by assumption))
        have nb : Blk X2 bb 92 #[.int .i64 x.kind, .int .i64 x.role, .int .i64 x.give, .int .i64 x.to_, .int .i64 x.unit, .int .i64 x.lot.1, .int .i64 x.lot.2] := by rw [hX]; (repeat with_reducible first | assumption | exact Blk.new _ _ _ | refine Blk.drew ?_ | refine Blk.alloc ?_ _ | refine Blk.drewN ?_ _ | apply Blk.setT0 | apply Blk.setT1 | refine Blk.far ?_ (by first | (simp; done) | omega | (simp; omega)) _ | refine Blk.then_ ?_ (by assumption))
        have NB : Below w.heap.size w X2 := by rw [hX]; (repeat (first | (with_reducible first | assumption | exact Below.refl _ _ | refine xAk ?_ _ | refine Below.drew ?_ | refine xAc ?_ _ | refine Below.setCell ?_ (by first | omega | (simp; done) | (simp; omega)) _ | refine xAa ?_ (by assumption)) | (refine xAa (a := World.drew _) ?_ (by with_reducible assumption))))
        clear hX ga gb HB
        have ga := na
        clear na
        have gb := nb
        clear nb
        have HB := NB
        clear NB
        have hz := Below.refl X2.heap.size X2
        have hlot := fun W => eqv2 x.lot.1 x.lot.2 0 1 W
        obtain ⟨ca0, ca1, ca2, ca3, ca4, ca5, ca6⟩ := coC (c := c) (m := m) (ga) rfl
        obtain ⟨cb0, cb1, cb2, cb3, cb4, cb5, cb6⟩ := atC (c := x) (gb) rfl
        have rg0 := cR ca0
        have rg1 := cR ca1
        have rg2 := cR ca2
        have rg3 := cR ca3
        have rg4 := cR ca4
        have rg5 := cR ca5
        have rg6 := cR ca6
        have rg7 := cR cb0
        have rg8 := cR cb1
        have rg9 := cR cb2
        have rg10 := cR cb3
        have rg11 := cR cb4
        have rg12 := cR cb5
        have rg13 := cR cb6
        refine xAg [0, 1, 2, 3, 4, 5, 6, 7, 8, 9, 10, 11, 12, 13, 14, 15, 16, 17, 18, 19, 20, 21, 22, 23, 24, 25, 26] [27] (by kernel_rfl) (by kernel_rfl) pO ?_
        simp only [xAn, qzA, qzB, qzC, qzD, qzE, qzF]
        repeat (go_big_quiet_step ((first | (go_at_call 94; with_reducible exact xAq (fun W' _ => HM3.out W') _ _) | (go_at_call 92; exact xAq (fun W' _ => HN.out W') _ _))))
        refine wpQuiet_nil ?_
        intro Z hw2
        have hbZ := xAj hw2
        clear hw2 rg0 rg1 rg2 rg3 rg4 rg5 rg6 rg7 rg8 rg9 rg10 rg11 rg12 rg13
        clear ca0 ca1 ca2 ca3 ca4 ca5 ca6 cb0 cb1 cb2 cb3 cb4 cb5 cb6
        go_wp2
        go_ret
        exact ⟨xAb (by rw [← HR.out]; first | rfl | (simp [*]; done) | (simp [*, zer]; done) | (simp_all [zer]; done) | (rw [Bool.eq_iff_iff]; simp [*, zer]; done) | (rw [Bool.eq_iff_iff]; simp_all [zer]; done)), xAa HB hbZ⟩
       | true =>
        have v7 : (x.unit != -1) = false := by rw [bne, q7]; rfl
        obtain ⟨ca0, ca1, ca2, ca3, ca4, ca5, ca6⟩ := coC (c := c) (m := m) (ga) rfl
        obtain ⟨cb0, cb1, cb2, cb3, cb4, cb5, cb6⟩ := atC (c := x) (gb) rfl
        go_upto_region 12 with (fail)
        clear ca0 ca1 ca2 ca3 ca4 ca5 ca6 cb0 cb1 cb2 cb3 cb4 cb5 cb6
        refine xAi ?_
        intro X2 hX
        have na : Blk X2 ba 27 #[.int .i64 c.par, .slice m.h c.hold.length m.hc, .slice m.u c.un.length m.uc, .slice m.a c.ac.length m.ac, .slice m.k c.cl.length m.kc, .int .i64 c.days, .slice m.o c.off.length m.oc] := by rw [hX]; (repeat with_reducible first | assumption | exact Blk.new _ _ _ | refine Blk.drew ?_ | refine Blk.alloc ?_ _ | refine Blk.drewN ?_ _ | apply Blk.setT0 | apply Blk.setT1 | refine Blk.far ?_ (by first | (simp; done) | omega | (simp; omega)) _ | refine Blk.then_ ?_ (by assumption))
        have nb : Blk X2 bb 92 #[.int .i64 x.kind, .int .i64 x.role, .int .i64 x.give, .int .i64 x.to_, .int .i64 x.unit, .int .i64 x.lot.1, .int .i64 x.lot.2] := by rw [hX]; (repeat with_reducible first | assumption | exact Blk.new _ _ _ | refine Blk.drew ?_ | refine Blk.alloc ?_ _ | refine Blk.drewN ?_ _ | apply Blk.setT0 | apply Blk.setT1 | refine Blk.far ?_ (by first | (simp; done) | omega | (simp; omega)) _ | refine Blk.then_ ?_ (by assumption))
        have NB : Below w.heap.size w X2 := by rw [hX]; (repeat (first | (with_reducible first | assumption | exact Below.refl _ _ | refine xAk ?_ _ | refine Below.drew ?_ | refine xAc ?_ _ | refine Below.setCell ?_ (by first | omega | (simp; done) | (simp; omega)) _ | refine xAa ?_ (by assumption)) | (refine xAa (a := World.drew _) ?_ (by with_reducible assumption))))
        clear hX ga gb HB
        have ga := na
        clear na
        have gb := nb
        clear nb
        have HB := NB
        clear NB
        have hz := Below.refl X2.heap.size X2
        have hlot := fun W => eqv2 x.lot.1 x.lot.2 0 1 W
        obtain ⟨ca0, ca1, ca2, ca3, ca4, ca5, ca6⟩ := coC (c := c) (m := m) (ga) rfl
        obtain ⟨cb0, cb1, cb2, cb3, cb4, cb5, cb6⟩ := atC (c := x) (gb) rfl
        have rg0 := cR ca0
        have rg1 := cR ca1
        have rg2 := cR ca2
        have rg3 := cR ca3
        have rg4 := cR ca4
        have rg5 := cR ca5
        have rg6 := cR ca6
        have rg7 := cR cb0
        have rg8 := cR cb1
        have rg9 := cR cb2
        have rg10 := cR cb3
        have rg11 := cR cb4
        have rg12 := cR cb5
        have rg13 := cR cb6
        refine xAg [0, 1, 2, 3, 4, 5, 6, 7, 8, 9, 10, 11, 12, 13, 14, 15, 16, 17, 18, 19, 20, 21, 22, 23, 24, 25, 26] [27] (by kernel_rfl) (by kernel_rfl) pO ?_
        simp only [xAn, qzA, qzB, qzC, qzD, qzE, qzF]
        repeat (go_big_quiet_step ((first | (go_at_call 94; with_reducible exact xAq (fun W' _ => HM3.out W') _ _) | (go_at_call 92; exact xAq (fun W' _ => HN.out W') _ _))))
        refine wpQuiet_nil ?_
        intro Z hw2
        have hbZ := xAj hw2
        clear hw2 rg0 rg1 rg2 rg3 rg4 rg5 rg6 rg7 rg8 rg9 rg10 rg11 rg12 rg13
        clear ca0 ca1 ca2 ca3 ca4 ca5 ca6 cb0 cb1 cb2 cb3 cb4 cb5 cb6
        go_wp2
        go_ret
        exact ⟨xAb (by rw [← HR.out]; first | rfl | (simp [*]; done) | (simp [*, zer]; done) | (simp_all [zer]; done) | (rw [Bool.eq_iff_iff]; simp [*, zer]; done) | (rw [Bool.eq_iff_iff]; simp_all [zer]; done)), xAa HB hbZ⟩
      ·have u6 := qzN q6
       obtain ⟨ca0, ca1, ca2, ca3, ca4, ca5, ca6⟩ := coC (c := c) (m := m) (ga) rfl
       obtain ⟨cb0, cb1, cb2, cb3, cb4, cb5, cb6⟩ := atC (c := x) (gb) rfl
       go_upto_region 12 with (fail)
       clear ca0 ca1 ca2 ca3 ca4 ca5 ca6 cb0 cb1 cb2 cb3 cb4 cb5 cb6
       refine xAi ?_
       intro X2 hX
       have na : Blk X2 ba 27 #[.int .i64 c.par, .slice m.h c.hold.length m.hc, .slice m.u c.un.length m.uc, .slice m.a c.ac.length m.ac, .slice m.k c.cl.length m.kc, .int .i64 c.days, .slice m.o c.off.length m.oc] := by rw [hX]; (repeat with_reducible first | assumption | exact Blk.new _ _ _ | refine Blk.drew ?_ | refine Blk.alloc ?_ _ | refine Blk.drewN ?_ _ | apply Blk.setT0 | apply Blk.setT1 | refine Blk.far ?_ (by first | (simp; done) | omega | (simp; omega)) _ | refine Blk.then_ ?_ (by assumption))
       have nb : Blk X2 bb 92 #[.int .i64 x.kind, .int .i64 x.role, .int .i64 x.give, .int .i64 x.to_, .int .i64 x.unit, .int .i64 x.lot.1, .int .i64 x.lot.2] := by rw [hX]; (repeat with_reducible first | assumption | exact Blk.new _ _ _ | refine Blk.drew ?_ | refine Blk.alloc ?_ _ | refine Blk.drewN ?_ _ | apply Blk.setT0 | apply Blk.setT1 | refine Blk.far ?_ (by first | (simp; done) | omega | (simp; omega)) _ | refine Blk.then_ ?_ (by assumption))
       have NB : Below w.heap.size w X2 := by rw [hX]; (repeat (first | (with_reducible first | assumption | exact Below.refl _ _ | refine xAk ?_ _ | refine Below.drew ?_ | refine xAc ?_ _ | refine Below.setCell ?_ (by first | omega | (simp; done) | (simp; omega)) _ | refine xAa ?_ (by assumption)) | (refine xAa (a := World.drew _) ?_ (by with_reducible assumption))))
       clear hX ga gb HB
       have ga := na
       clear na
       have gb := nb
       clear nb
       have HB := NB
       clear NB
       have hz := Below.refl X2.heap.size X2
       have hlot := fun W => eqv2 x.lot.1 x.lot.2 0 1 W
       obtain ⟨ca0, ca1, ca2, ca3, ca4, ca5, ca6⟩ := coC (c := c) (m := m) (ga) rfl
       obtain ⟨cb0, cb1, cb2, cb3, cb4, cb5, cb6⟩ := atC (c := x) (gb) rfl
       have rg0 := cR ca0
       have rg1 := cR ca1
       have rg2 := cR ca2
       have rg3 := cR ca3
       have rg4 := cR ca4
       have rg5 := cR ca5
       have rg6 := cR ca6
       have rg7 := cR cb0
       have rg8 := cR cb1
       have rg9 := cR cb2
       have rg10 := cR cb3
       have rg11 := cR cb4
       have rg12 := cR cb5
       have rg13 := cR cb6
       refine xAg [0, 1, 2, 3, 4, 5, 6, 7, 8, 9, 10, 11, 12, 13, 14, 15, 16, 17, 18, 19, 20, 21, 22, 23, 24, 25, 26] [27] (by kernel_rfl) (by kernel_rfl) pO ?_
       simp only [xAn, qzA, qzB, qzC, qzD, qzE, qzF]
       repeat (go_big_quiet_step ((first | (go_at_call 94; with_reducible exact xAq (fun W' _ => HM3.out W') _ _) | (go_at_call 92; exact xAq (fun W' _ => HN.out W') _ _))))
       refine wpQuiet_nil ?_
       intro Z hw2
       have hbZ := xAj hw2
       clear hw2 rg0 rg1 rg2 rg3 rg4 rg5 rg6 rg7 rg8 rg9 rg10 rg11 rg12 rg13
       clear ca0 ca1 ca2 ca3 ca4 ca5 ca6 cb0 cb1 cb2 cb3 cb4 cb5 cb6
       go_wp2
       go_ret
       exact ⟨xAb (by rw [← HR.out]; first | rfl | (simp [*]; done) | (simp [*, zer]; done) | (simp_all [zer]; done) | (rw [Bool.eq_iff_iff]; simp [*, zer]; done) | (rw [Bool.eq_iff_iff]; simp_all [zer]; done)), xAa HB hbZ⟩
     ·have u5 := qzN q5
      obtain ⟨ca0, ca1, ca2, ca3, ca4, ca5, ca6⟩ := coC (c := c) (m := m) (ga) rfl
      obtain ⟨cb0, cb1, cb2, cb3, cb4, cb5, cb6⟩ := atC (c := x) (gb) rfl
      go_upto_region 12 with (fail)
      clear ca0 ca1 ca2 ca3 ca4 ca5 ca6 cb0 cb1 cb2 cb3 cb4 cb5 cb6
      refine xAi ?_
      intro X2 hX
      have na : Blk X2 ba 27 #[.int .i64 c.par, .slice m.h c.hold.length m.hc, .slice m.u c.un.length m.uc, .slice m.a c.ac.length m.ac, .slice m.k c.cl.length m.kc, .int .i64 c.days, .slice m.o c.off.length m.oc] := by rw [hX]; (repeat with_reducible first | assumption | exact Blk.new _ _ _ | refine Blk.drew ?_ | refine Blk.alloc ?_ _ | refine Blk.drewN ?_ _ | apply Blk.setT0 | apply Blk.setT1 | refine Blk.far ?_ (by first | (simp; done) | omega | (simp; omega)) _ | refine Blk.then_ ?_ (by assumption))
      have nb : Blk X2 bb 92 #[.int .i64 x.kind, .int .i64 x.role, .int .i64 x.give, .int .i64 x.to_, .int .i64 x.unit, .int .i64 x.lot.1, .int .i64 x.lot.2] := by rw [hX]; (repeat with_reducible first | assumption | exact Blk.new _ _ _ | refine Blk.drew ?_ | refine Blk.alloc ?_ _ | refine Blk.drewN ?_ _ | apply Blk.setT0 | apply Blk.setT1 | refine Blk.far ?_ (by first | (simp; done) | omega | (simp; omega)) _ | refine Blk.then_ ?_ (by assumption))
      have NB : Below w.heap.size w X2 := by rw [hX]; (repeat (first | (with_reducible first | assumption | exact Below.refl _ _ | refine xAk ?_ _ | refine Below.drew ?_ | refine xAc ?_ _ | refine Below.setCell ?_ (by first | omega | (simp; done) | (simp; omega)) _ | refine xAa ?_ (by assumption)) | (refine xAa (a := World.drew _) ?_ (by with_reducible assumption))))
      clear hX ga gb HB
      have ga := na
      clear na
      have gb := nb
      clear nb
      have HB := NB
      clear NB
      have hz := Below.refl X2.heap.size X2
      have hlot := fun W => eqv2 x.lot.1 x.lot.2 0 1 W
      obtain ⟨ca0, ca1, ca2, ca3, ca4, ca5, ca6⟩ := coC (c := c) (m := m) (ga) rfl
      obtain ⟨cb0, cb1, cb2, cb3, cb4, cb5, cb6⟩ := atC (c := x) (gb) rfl
      have rg0 := cR ca0
      have rg1 := cR ca1
      have rg2 := cR ca2
      have rg3 := cR ca3
      have rg4 := cR ca4
      have rg5 := cR ca5
      have rg6 := cR ca6
      have rg7 := cR cb0
      have rg8 := cR cb1
      have rg9 := cR cb2
      have rg10 := cR cb3
      have rg11 := cR cb4
      have rg12 := cR cb5
      have rg13 := cR cb6
      refine xAg [0, 1, 2, 3, 4, 5, 6, 7, 8, 9, 10, 11, 12, 13, 14, 15, 16, 17, 18, 19, 20, 21, 22, 23, 24, 25, 26] [27] (by kernel_rfl) (by kernel_rfl) pO ?_
      simp only [xAn, qzA, qzB, qzC, qzD, qzE, qzF]
      repeat (go_big_quiet_step ((first | (go_at_call 94; with_reducible exact xAq (fun W' _ => HM3.out W') _ _) | (go_at_call 92; exact xAq (fun W' _ => HN.out W') _ _))))
      refine wpQuiet_nil ?_
      intro Z hw2
      have hbZ := xAj hw2
      clear hw2 rg0 rg1 rg2 rg3 rg4 rg5 rg6 rg7 rg8 rg9 rg10 rg11 rg12 rg13
      clear ca0 ca1 ca2 ca3 ca4 ca5 ca6 cb0 cb1 cb2 cb3 cb4 cb5 cb6
      go_wp2
      go_ret
      exact ⟨xAb (by rw [← HR.out]; first | rfl | (simp [*]; done) | (simp [*, zer]; done) | (simp_all [zer]; done) | (rw [Bool.eq_iff_iff]; simp [*, zer]; done) | (rw [Bool.eq_iff_iff]; simp_all [zer]; done)), xAa HB hbZ⟩
  | true =>
   have v2 : (x.kind != 2) = false := by rw [bne, q2]; rfl
   cases q4 : (m3) with
   | false =>
    subst q4
    obtain ⟨ca0, ca1, ca2, ca3, ca4, ca5, ca6⟩ := coC (c := c) (m := m) (ga) rfl
    obtain ⟨cb0, cb1, cb2, cb3, cb4, cb5, cb6⟩ := atC (c := x) (gb) rfl
    go_upto_region 12 with (fail)
    clear ca0 ca1 ca2 ca3 ca4 ca5 ca6 cb0 cb1 cb2 cb3 cb4 cb5 cb6
    refine xAi ?_
    intro X2 hX
    have na : Blk X2 ba 27 #[.int .i64 c.par, .slice m.h c.hold.length m.hc, .slice m.u c.un.length m.uc, .slice m.a c.ac.length m.ac, .slice m.k c.cl.length m.kc, .int .i64 c.days, .slice m.o c.off.length m.oc] := by rw [hX]; (repeat with_reducible first | assumption | exact Blk.new _ _ _ | refine Blk.drew ?_ | refine Blk.alloc ?_ _ | refine Blk.drewN ?_ _ | apply Blk.setT0 | apply Blk.setT1 | refine Blk.far ?_ (by first | (simp; done) | omega | (simp; omega)) _ | refine Blk.then_ ?_ (by assumption))
    have nb : Blk X2 bb 92 #[.int .i64 x.kind, .int .i64 x.role, .int .i64 x.give, .int .i64 x.to_, .int .i64 x.unit, .int .i64 x.lot.1, .int .i64 x.lot.2] := by rw [hX]; (repeat with_reducible first | assumption | exact Blk.new _ _ _ | refine Blk.drew ?_ | refine Blk.alloc ?_ _ | refine Blk.drewN ?_ _ | apply Blk.setT0 | apply Blk.setT1 | refine Blk.far ?_ (by first | (simp; done) | omega | (simp; omega)) _ | refine Blk.then_ ?_ (by assumption))
    have NB : Below w.heap.size w X2 := by rw [hX]; (repeat (first | (with_reducible first | assumption | exact Below.refl _ _ | refine xAk ?_ _ | refine Below.drew ?_ | refine xAc ?_ _ | refine Below.setCell ?_ (by first | omega | (simp; done) | (simp; omega)) _ | refine xAa ?_ (by assumption)) | (refine xAa (a := World.drew _) ?_ (by with_reducible assumption))))
    clear hX ga gb HB
    have ga := na
    clear na
    have gb := nb
    clear nb
    have HB := NB
    clear NB
    have hz := Below.refl X2.heap.size X2
    have hlot := fun W => eqv2 x.lot.1 x.lot.2 0 1 W
    obtain ⟨ca0, ca1, ca2, ca3, ca4, ca5, ca6⟩ := coC (c := c) (m := m) (ga) rfl
    obtain ⟨cb0, cb1, cb2, cb3, cb4, cb5, cb6⟩ := atC (c := x) (gb) rfl
    have rg0 := cR ca0
    have rg1 := cR ca1
    have rg2 := cR ca2
    have rg3 := cR ca3
    have rg4 := cR ca4
    have rg5 := cR ca5
    have rg6 := cR ca6
    have rg7 := cR cb0
    have rg8 := cR cb1
    have rg9 := cR cb2
    have rg10 := cR cb3
    have rg11 := cR cb4
    have rg12 := cR cb5
    have rg13 := cR cb6
    refine xAg [0, 1, 2, 3, 4, 5, 6, 7, 8, 9, 10, 11, 12, 13, 14, 15, 16, 17, 18, 19, 20, 21, 22, 23, 24, 25, 26] [27] (by kernel_rfl) (by kernel_rfl) pO ?_
    simp only [xAn, qzA, qzB, qzC, qzD, qzE, qzF]
    repeat (go_big_quiet_step ((first | (go_at_call 94; with_reducible exact xAq (fun W' _ => HM3.out W') _ _) | (go_at_call 92; exact xAq (fun W' _ => HN.out W') _ _))))
    refine wpQuiet_nil ?_
    intro Z hw2
    have hbZ := xAj hw2
    clear hw2 rg0 rg1 rg2 rg3 rg4 rg5 rg6 rg7 rg8 rg9 rg10 rg11 rg12 rg13
    clear ca0 ca1 ca2 ca3 ca4 ca5 ca6 cb0 cb1 cb2 cb3 cb4 cb5 cb6
    go_wp2
    go_ret
    exact ⟨xAb (by rw [← HR.out]; first | rfl | (simp [*]; done) | (simp [*, zer]; done) | (simp_all [zer]; done) | (rw [Bool.eq_iff_iff]; simp [*, zer]; done) | (rw [Bool.eq_iff_iff]; simp_all [zer]; done)), xAa HB hbZ⟩
   | true =>
    subst q4
    by_cases q5 : 0 ≤ x.to_
    ·have u5 := qzO q5
     by_cases q6 : x.to_ < c.par
     ·have u6 := qzO q6
      cases q7 : (x.unit == -1) with
      | false =>
       have v7 : (x.unit != -1) = true := by rw [bne, q7]; rfl
       obtain ⟨ca0, ca1, ca2, ca3, ca4, ca5, ca6⟩ := coC (c := c) (m := m) (ga) rfl
       obtain ⟨cb0, cb1, cb2, cb3, cb4, cb5, cb6⟩ := atC (c := x) (gb) rfl
       go_upto_region 12 with (fail)
       clear ca0 ca1 ca2 ca3 ca4 ca5 ca6 cb0 cb1 cb2 cb3 cb4 cb5 cb6
       refine xAi ?_
       intro X2 hX
       have na : Blk X2 ba 27 #[.int .i64 c.par, .slice m.h c.hold.length m.hc, .slice m.u c.un.length m.uc, .slice m.a c.ac.length m.ac, .slice m.k c.cl.length m.kc, .int .i64 c.days, .slice m.o c.off.length m.oc] := by rw [hX]; (repeat with_reducible first | assumption | exact Blk.new _ _ _ | refine Blk.drew ?_ | refine Blk.alloc ?_ _ | refine Blk.drewN ?_ _ | apply Blk.setT0 | apply Blk.setT1 | refine Blk.far ?_ (by first | (simp; done) | omega | (simp; omega)) _ | refine Blk.then_ ?_ (by assumption))
       have nb : Blk X2 bb 92 #[.int .i64 x.kind, .int .i64 x.role, .int .i64 x.give, .int .i64 x.to_, .int .i64 x.unit, .int .i64 x.lot.1, .int .i64 x.lot.2] := by rw [hX]; (repeat with_reducible first | assumption | exact Blk.new _ _ _ | refine Blk.drew ?_ | refine Blk.alloc ?_ _ | refine Blk.drewN ?_ _ | apply Blk.setT0 | apply Blk.setT1 | refine Blk.far ?_ (by first | (simp; done) | omega | (simp; omega)) _ | refine Blk.then_ ?_ (by assumption))
       have NB : Below w.heap.size w X2 := by rw [hX]; (repeat (first | (with_reducible first | assumption | exact Below.refl _ _ | refine xAk ?_ _ | refine Below.drew ?_ | refine xAc ?_ _ | refine Below.setCell ?_ (by first | omega | (simp; done) | (simp; omega)) _ | refine xAa ?_ (by assumption)) | (refine xAa (a := World.drew _) ?_ (by with_reducible assumption))))
       clear hX ga gb HB
       have ga := na
       clear na
       have gb := nb
       clear nb
       have HB := NB
       clear NB
       have hz := Below.refl X2.heap.size X2
       have hlot := fun W => eqv2 x.lot.1 x.lot.2 0 1 W
       obtain ⟨ca0, ca1, ca2, ca3, ca4, ca5, ca6⟩ := coC (c := c) (m := m) (ga) rfl
       obtain ⟨cb0, cb1, cb2, cb3, cb4, cb5, cb6⟩ := atC (c := x) (gb) rfl
       have rg0 := cR ca0
       have rg1 := cR ca1
       have rg2 := cR ca2
       have rg3 := cR ca3
       have rg4 := cR ca4
       have rg5 := cR ca5
       have rg6 := cR ca6
       have rg7 := cR cb0
       have rg8 := cR cb1
       have rg9 := cR cb2
       have rg10 := cR cb3
       have rg11 := cR cb4
       have rg12 := cR cb5
       have rg13 := cR cb6
       refine xAg [0, 1, 2, 3, 4, 5, 6, 7, 8, 9, 10, 11, 12, 13, 14, 15, 16, 17, 18, 19, 20, 21, 22, 23, 24, 25, 26] [27] (by kernel_rfl) (by kernel_rfl) pO ?_
       simp only [xAn, qzA, qzB, qzC, qzD, qzE, qzF]
       repeat (go_big_quiet_step ((first | (go_at_call 94; with_reducible exact xAq (fun W' _ => HM3.out W') _ _) | (go_at_call 92; exact xAq (fun W' _ => HN.out W') _ _))))
       refine wpQuiet_nil ?_
       intro Z hw2
       have hbZ := xAj hw2
       clear hw2 rg0 rg1 rg2 rg3 rg4 rg5 rg6 rg7 rg8 rg9 rg10 rg11 rg12 rg13
       clear ca0 ca1 ca2 ca3 ca4 ca5 ca6 cb0 cb1 cb2 cb3 cb4 cb5 cb6
       go_wp2
       go_ret
       exact ⟨xAb (by rw [← HR.out]; first | rfl | (simp [*]; done) | (simp [*, zer]; done) | (simp_all [zer]; done) | (rw [Bool.eq_iff_iff]; simp [*, zer]; done) | (rw [Bool.eq_iff_iff]; simp_all [zer]; done)), xAa HB hbZ⟩
      | true =>
       have v7 : (x.unit != -1) = false := by rw [bne, q7]; rfl
       obtain ⟨ca0, ca1, ca2, ca3, ca4, ca5, ca6⟩ := coC (c := c) (m := m) (ga) rfl
       obtain ⟨cb0, cb1, cb2, cb3, cb4, cb5, cb6⟩ := atC (c := x) (gb) rfl
       go_upto_region 12 with (fail)
       clear ca0 ca1 ca2 ca3 ca4 ca5 ca6 cb0 cb1 cb2 cb3 cb4 cb5 cb6
       refine xAi ?_
       intro X2 hX
       have na : Blk X2 ba 27 #[.int .i64 c.par, .slice m.h c.hold.length m.hc, .slice m.u c.un.length m.uc, .slice m.a c.ac.length m.ac, .slice m.k c.cl.length m.kc, .int .i64 c.days, .slice m.o c.off.length m.oc] := by rw [hX]; (repeat with_reducible first | assumption | exact Blk.new _ _ _ | refine Blk.drew ?_ | refine Blk.alloc ?_ _ | refine Blk.drewN ?_ _ | apply Blk.setT0 | apply Blk.setT1 | refine Blk.far ?_ (by first | (simp; done) | omega | (simp; omega)) _ | refine Blk.then_ ?_ (by assumption))
       have nb : Blk X2 bb 92 #[.int .i64 x.kind, .int .i64 x.role, .int .i64 x.give, .int .i64 x.to_, .int .i64 x.unit, .int .i64 x.lot.1, .int .i64 x.lot.2] := by rw [hX]; (repeat with_reducible first | assumption | exact Blk.new _ _ _ | refine Blk.drew ?_ | refine Blk.alloc ?_ _ | refine Blk.drewN ?_ _ | apply Blk.setT0 | apply Blk.setT1 | refine Blk.far ?_ (by first | (simp; done) | omega | (simp; omega)) _ | refine Blk.then_ ?_ (by assumption))
       have NB : Below w.heap.size w X2 := by rw [hX]; (repeat (first | (with_reducible first | assumption | exact Below.refl _ _ | refine xAk ?_ _ | refine Below.drew ?_ | refine xAc ?_ _ | refine Below.setCell ?_ (by first | omega | (simp; done) | (simp; omega)) _ | refine xAa ?_ (by assumption)) | (refine xAa (a := World.drew _) ?_ (by with_reducible assumption))))
       clear hX ga gb HB
       have ga := na
       clear na
       have gb := nb
       clear nb
       have HB := NB
       clear NB
       have hz := Below.refl X2.heap.size X2
       have hlot := fun W => eqv2 x.lot.1 x.lot.2 0 1 W
       obtain ⟨ca0, ca1, ca2, ca3, ca4, ca5, ca6⟩ := coC (c := c) (m := m) (ga) rfl
       obtain ⟨cb0, cb1, cb2, cb3, cb4, cb5, cb6⟩ := atC (c := x) (gb) rfl
       have rg0 := cR ca0
       have rg1 := cR ca1
       have rg2 := cR ca2
       have rg3 := cR ca3
       have rg4 := cR ca4
       have rg5 := cR ca5
       have rg6 := cR ca6
       have rg7 := cR cb0
       have rg8 := cR cb1
       have rg9 := cR cb2
       have rg10 := cR cb3
       have rg11 := cR cb4
       have rg12 := cR cb5
       have rg13 := cR cb6
       refine xAg [0, 1, 2, 3, 4, 5, 6, 7, 8, 9, 10, 11, 12, 13, 14, 15, 16, 17, 18, 19, 20, 21, 22, 23, 24, 25, 26] [27] (by kernel_rfl) (by kernel_rfl) pO ?_
       simp only [xAn, qzA, qzB, qzC, qzD, qzE, qzF]
       repeat (go_big_quiet_step ((first | (go_at_call 94; with_reducible exact xAq (fun W' _ => HM3.out W') _ _) | (go_at_call 92; exact xAq (fun W' _ => HN.out W') _ _))))
       refine wpQuiet_nil ?_
       intro Z hw2
       have hbZ := xAj hw2
       clear hw2 rg0 rg1 rg2 rg3 rg4 rg5 rg6 rg7 rg8 rg9 rg10 rg11 rg12 rg13
       clear ca0 ca1 ca2 ca3 ca4 ca5 ca6 cb0 cb1 cb2 cb3 cb4 cb5 cb6
       go_wp2
       go_ret
       exact ⟨xAb (by rw [← HR.out]; first | rfl | (simp [*]; done) | (simp [*, zer]; done) | (simp_all [zer]; done) | (rw [Bool.eq_iff_iff]; simp [*, zer]; done) | (rw [Bool.eq_iff_iff]; simp_all [zer]; done)), xAa HB hbZ⟩
     ·have u6 := qzN q6
      obtain ⟨ca0, ca1, ca2, ca3, ca4, ca5, ca6⟩ := coC (c := c) (m := m) (ga) rfl
      obtain ⟨cb0, cb1, cb2, cb3, cb4, cb5, cb6⟩ := atC (c := x) (gb) rfl
      go_upto_region 12 with (fail)
      clear ca0 ca1 ca2 ca3 ca4 ca5 ca6 cb0 cb1 cb2 cb3 cb4 cb5 cb6
      refine xAi ?_
      intro X2 hX
      have na : Blk X2 ba 27 #[.int .i64 c.par, .slice m.h c.hold.length m.hc, .slice m.u c.un.length m.uc, .slice m.a c.ac.length m.ac, .slice m.k c.cl.length m.kc, .int .i64 c.days, .slice m.o c.off.length m.oc] := by rw [hX]; (repeat with_reducible first | assumption | exact Blk.new _ _ _ | refine Blk.drew ?_ | refine Blk.alloc ?_ _ | refine Blk.drewN ?_ _ | apply Blk.setT0 | apply Blk.setT1 | refine Blk.far ?_ (by first | (simp; done) | omega | (simp; omega)) _ | refine Blk.then_ ?_ (by assumption))
      have nb : Blk X2 bb 92 #[.int .i64 x.kind, .int .i64 x.role, .int .i64 x.give, .int .i64 x.to_, .int .i64 x.unit, .int .i64 x.lot.1, .int .i64 x.lot.2] := by rw [hX]; (repeat with_reducible first | assumption | exact Blk.new _ _ _ | refine Blk.drew ?_ | refine Blk.alloc ?_ _ | refine Blk.drewN ?_ _ | apply Blk.setT0 | apply Blk.setT1 | refine Blk.far ?_ (by first | (simp; done) | omega | (simp; omega)) _ | refine Blk.then_ ?_ (by assumption))
      have NB : Below w.heap.size w X2 := by rw [hX]; (repeat (first | (with_reducible first | assumption | exact Below.refl _ _ | refine xAk ?_ _ | refine Below.drew ?_ | refine xAc ?_ _ | refine Below.setCell ?_ (by first | omega | (simp; done) | (simp; omega)) _ | refine xAa ?_ (by assumption)) | (refine xAa (a := World.drew _) ?_ (by with_reducible assumption))))
      clear hX ga gb HB
      have ga := na
      clear na
      have gb := nb
      clear nb
      have HB := NB
      clear NB
      have hz := Below.refl X2.heap.size X2
      have hlot := fun W => eqv2 x.lot.1 x.lot.2 0 1 W
      obtain ⟨ca0, ca1, ca2, ca3, ca4, ca5, ca6⟩ := coC (c := c) (m := m) (ga) rfl
      obtain ⟨cb0, cb1, cb2, cb3, cb4, cb5, cb6⟩ := atC (c := x) (gb) rfl
      have rg0 := cR ca0
      have rg1 := cR ca1
      have rg2 := cR ca2
      have rg3 := cR ca3
      have rg4 := cR ca4
      have rg5 := cR ca5
      have rg6 := cR ca6
      have rg7 := cR cb0
      have rg8 := cR cb1
      have rg9 := cR cb2
      have rg10 := cR cb3
      have rg11 := cR cb4
      have rg12 := cR cb5
      have rg13 := cR cb6
      refine xAg [0, 1, 2, 3, 4, 5, 6, 7, 8, 9, 10, 11, 12, 13, 14, 15, 16, 17, 18, 19, 20, 21, 22, 23, 24, 25, 26] [27] (by kernel_rfl) (by kernel_rfl) pO ?_
      simp only [xAn, qzA, qzB, qzC, qzD, qzE, qzF]
      repeat (go_big_quiet_step ((first | (go_at_call 94; with_reducible exact xAq (fun W' _ => HM3.out W') _ _) | (go_at_call 92; exact xAq (fun W' _ => HN.out W') _ _))))
      refine wpQuiet_nil ?_
      intro Z hw2
      have hbZ := xAj hw2
      clear hw2 rg0 rg1 rg2 rg3 rg4 rg5 rg6 rg7 rg8 rg9 rg10 rg11 rg12 rg13
      clear ca0 ca1 ca2 ca3 ca4 ca5 ca6 cb0 cb1 cb2 cb3 cb4 cb5 cb6
      go_wp2
      go_ret
      exact ⟨xAb (by rw [← HR.out]; first | rfl | (simp [*]; done) | (simp [*, zer]; done) | (simp_all [zer]; done) | (rw [Bool.eq_iff_iff]; simp [*, zer]; done) | (rw [Bool.eq_iff_iff]; simp_all [zer]; done)), xAa HB hbZ⟩
    ·have u5 := qzN q5
     obtain ⟨ca0, ca1, ca2, ca3, ca4, ca5, ca6⟩ := coC (c := c) (m := m) (ga) rfl
     obtain ⟨cb0, cb1, cb2, cb3, cb4, cb5, cb6⟩ := atC (c := x) (gb) rfl
     go_upto_region 12 with (fail)
     clear ca0 ca1 ca2 ca3 ca4 ca5 ca6 cb0 cb1 cb2 cb3 cb4 cb5 cb6
     refine xAi ?_
     intro X2 hX
     have na : Blk X2 ba 27 #[.int .i64 c.par, .slice m.h c.hold.length m.hc, .slice m.u c.un.length m.uc, .slice m.a c.ac.length m.ac, .slice m.k c.cl.length m.kc, .int .i64 c.days, .slice m.o c.off.length m.oc] := by rw [hX]; (repeat with_reducible first | assumption | exact Blk.new _ _ _ | refine Blk.drew ?_ | refine Blk.alloc ?_ _ | refine Blk.drewN ?_ _ | apply Blk.setT0 | apply Blk.setT1 | refine Blk.far ?_ (by first | (simp; done) | omega | (simp; omega)) _ | refine Blk.then_ ?_ (by assumption))
     have nb : Blk X2 bb 92 #[.int .i64 x.kind, .int .i64 x.role, .int .i64 x.give, .int .i64 x.to_, .int .i64 x.unit, .int .i64 x.lot.1, .int .i64 x.lot.2] := by rw [hX]; (repeat with_reducible first | assumption | exact Blk.new _ _ _ | refine Blk.drew ?_ | refine Blk.alloc ?_ _ | refine Blk.drewN ?_ _ | apply Blk.setT0 | apply Blk.setT1 | refine Blk.far ?_ (by first | (simp; done) | omega | (simp; omega)) _ | refine Blk.then_ ?_ (by assumption))
     have NB : Below w.heap.size w X2 := by rw [hX]; (repeat (first | (with_reducible first | assumption | exact Below.refl _ _ | refine xAk ?_ _ | refine Below.drew ?_ | refine xAc ?_ _ | refine Below.setCell ?_ (by first | omega | (simp; done) | (simp; omega)) _ | refine xAa ?_ (by assumption)) | (refine xAa (a := World.drew _) ?_ (by with_reducible assumption))))
     clear hX ga gb HB
     have ga := na
     clear na
     have gb := nb
     clear nb
     have HB := NB
     clear NB
     have hz := Below.refl X2.heap.size X2
     have hlot := fun W => eqv2 x.lot.1 x.lot.2 0 1 W
     obtain ⟨ca0, ca1, ca2, ca3, ca4, ca5, ca6⟩ := coC (c := c) (m := m) (ga) rfl
     obtain ⟨cb0, cb1, cb2, cb3, cb4, cb5, cb6⟩ := atC (c := x) (gb) rfl
     have rg0 := cR ca0
     have rg1 := cR ca1
     have rg2 := cR ca2
     have rg3 := cR ca3
     have rg4 := cR ca4
     have rg5 := cR ca5
     have rg6 := cR ca6
     have rg7 := cR cb0
     have rg8 := cR cb1
     have rg9 := cR cb2
     have rg10 := cR cb3
     have rg11 := cR cb4
     have rg12 := cR cb5
     have rg13 := cR cb6
     refine xAg [0, 1, 2, 3, 4, 5, 6, 7, 8, 9, 10, 11, 12, 13, 14, 15, 16, 17, 18, 19, 20, 21, 22, 23, 24, 25, 26] [27] (by kernel_rfl) (by kernel_rfl) pO ?_
     simp only [xAn, qzA, qzB, qzC, qzD, qzE, qzF]
     repeat (go_big_quiet_step ((first | (go_at_call 94; with_reducible exact xAq (fun W' _ => HM3.out W') _ _) | (go_at_call 92; exact xAq (fun W' _ => HN.out W') _ _))))
     refine wpQuiet_nil ?_
     intro Z hw2
     have hbZ := xAj hw2
     clear hw2 rg0 rg1 rg2 rg3 rg4 rg5 rg6 rg7 rg8 rg9 rg10 rg11 rg12 rg13
     clear ca0 ca1 ca2 ca3 ca4 ca5 ca6 cb0 cb1 cb2 cb3 cb4 cb5 cb6
     go_wp2
     go_ret
     exact ⟨xAb (by rw [← HR.out]; first | rfl | (simp [*]; done) | (simp [*, zer]; done) | (simp_all [zer]; done) | (rw [Bool.eq_iff_iff]; simp [*, zer]; done) | (rw [Bool.eq_iff_iff]; simp_all [zer]; done)), xAa HB hbZ⟩
 | true =>
  have v1 : (x.kind != 1) = false := by rw [bne, q1]; rfl
  cases q2 : (x.give == 0) with
  | false =>
   have v2 : (x.give != 0) = true := by rw [bne, q2]; rfl
   obtain ⟨ca0, ca1, ca2, ca3, ca4, ca5, ca6⟩ := coC (c := c) (m := m) (ga) rfl
   obtain ⟨cb0, cb1, cb2, cb3, cb4, cb5, cb6⟩ := atC (c := x) (gb) rfl
   go_wp2
   go_ret
   exact ⟨xAb (by rw [← HR.out]; first | rfl | (simp [*]; done) | (simp [*, zer, isI]; done) | (simp_all [zer, isI]; done) | (rw [Bool.eq_iff_iff]; simp [*, zer, isI]; done) | (rw [Bool.eq_iff_iff]; simp_all [zer, isI]; done)), by (repeat (first | (with_reducible first | assumption | exact Below.refl _ _ | refine xAk ?_ _ | refine Below.drew ?_ | refine xAc ?_ _ | refine Below.setCell ?_ (by first | omega | (simp; done) | (simp; omega)) _ | refine xAa ?_ (by assumption)) | (refine xAa (a := World.drew _) ?_ (by with_reducible assumption))))⟩
  | true =>
   have v2 : (x.give != 0) = false := by rw [bne, q2]; rfl
   cases q3 : (x.to_ == -1) with
   | false =>
    have v3 : (x.to_ != -1) = true := by rw [bne, q3]; rfl
    cases q4 : (m2) with
    | false =>
     subst q4
     obtain ⟨ca0, ca1, ca2, ca3, ca4, ca5, ca6⟩ := coC (c := c) (m := m) (ga) rfl
     obtain ⟨cb0, cb1, cb2, cb3, cb4, cb5, cb6⟩ := atC (c := x) (gb) rfl
     go_wp2_with ((go_at_call 94; (with_reducible refine (HM2.out _).mono ?_); rintro e w1 ⟨rfl, hbw1⟩; obtain ⟨k1a0, k1a1, k1a2, k1a3, k1a4, k1a5, k1a6⟩ := coC (c := c) (m := m) ((ga.then_ hbw1)) rfl; obtain ⟨k1b0, k1b1, k1b2, k1b3, k1b4, k1b5, k1b6⟩ := atC (c := x) ((gb.then_ hbw1)) rfl))
     go_ret
     exact ⟨xAb (by rw [← HR.out]; first | rfl | (simp [*]; done) | (simp [*, zer, isI]; done) | (simp_all [zer, isI]; done) | (rw [Bool.eq_iff_iff]; simp [*, zer, isI]; done) | (rw [Bool.eq_iff_iff]; simp_all [zer, isI]; done)), by (repeat (first | (with_reducible first | assumption | exact Below.refl _ _ | refine xAk ?_ _ | refine Below.drew ?_ | refine xAc ?_ _ | refine Below.setCell ?_ (by first | omega | (simp; done) | (simp; omega)) _ | refine xAa ?_ (by assumption)) | (refine xAa (a := World.drew _) ?_ (by with_reducible assumption))))⟩
    | true =>
     subst q4
     cases q5 : (x.unit == -1) with
     | false =>
      have v5 : (x.unit != -1) = true := by rw [bne, q5]; rfl
      by_cases q6 : 0 ≤ x.unit
      ·have u6 := qzO q6
       by_cases q7 : x.unit < (c.un.length : Int)
       ·have u7 := qzO q7
        obtain ⟨ca0, ca1, ca2, ca3, ca4, ca5, ca6⟩ := coC (c := c) (m := m) (ga) rfl
        obtain ⟨cb0, cb1, cb2, cb3, cb4, cb5, cb6⟩ := atC (c := x) (gb) rfl
        go_wp2_with (first | (go_at_call 94; (with_reducible refine (HM2.out _).mono ?_); rintro e w1 ⟨rfl, hbw1⟩; obtain ⟨k1a0, k1a1, k1a2, k1a3, k1a4, k1a5, k1a6⟩ := coC (c := c) (m := m) ((ga.then_ hbw1)) rfl; obtain ⟨k1b0, k1b1, k1b2, k1b3, k1b4, k1b5, k1b6⟩ := atC (c := x) ((gb.then_ hbw1)) rfl) | (go_at_call 93; (with_reducible refine (HP.out _).mono ?_); rintro e w2 ⟨rfl, hbw2⟩; obtain ⟨k2a0, k2a1, k2a2, k2a3, k2a4, k2a5, k2a6⟩ := coC (c := c) (m := m) (((ga.then_ hbw1).then_ hbw2)) rfl; obtain ⟨k2b0, k2b1, k2b2, k2b3, k2b4, k2b5, k2b6⟩ := atC (c := x) (((gb.then_ hbw1).then_ hbw2)) rfl))
        go_ret
        exact ⟨xAb (by rw [← HR.out]; first | rfl | (simp [*]; done) | (simp [*, isI]; done) | (simp_all [zer, isI]; done) | (rw [Bool.eq_iff_iff]; simp [*, zer, isI]; done) | (rw [Bool.eq_iff_iff]; simp_all [zer, isI]; done)), by (repeat (first | (with_reducible first | assumption | exact Below.refl _ _ | refine xAk ?_ _ | refine Below.drew ?_ | refine xAc ?_ _ | refine Below.setCell ?_ (by first | omega | (simp; done) | (simp; omega)) _ | refine xAa ?_ (by assumption)) | (refine xAa (a := World.drew _) ?_ (by with_reducible assumption))))⟩
       ·have u7 := qzN q7
        obtain ⟨ca0, ca1, ca2, ca3, ca4, ca5, ca6⟩ := coC (c := c) (m := m) (ga) rfl
        obtain ⟨cb0, cb1, cb2, cb3, cb4, cb5, cb6⟩ := atC (c := x) (gb) rfl
        go_wp2_with (first | (go_at_call 94; (with_reducible refine (HM2.out _).mono ?_); rintro e w1 ⟨rfl, hbw1⟩; obtain ⟨k1a0, k1a1, k1a2, k1a3, k1a4, k1a5, k1a6⟩ := coC (c := c) (m := m) ((ga.then_ hbw1)) rfl; obtain ⟨k1b0, k1b1, k1b2, k1b3, k1b4, k1b5, k1b6⟩ := atC (c := x) ((gb.then_ hbw1)) rfl) | (go_at_call 93; (with_reducible refine (HP.out _).mono ?_); rintro e w2 ⟨rfl, hbw2⟩; obtain ⟨k2a0, k2a1, k2a2, k2a3, k2a4, k2a5, k2a6⟩ := coC (c := c) (m := m) (((ga.then_ hbw1).then_ hbw2)) rfl; obtain ⟨k2b0, k2b1, k2b2, k2b3, k2b4, k2b5, k2b6⟩ := atC (c := x) (((gb.then_ hbw1).then_ hbw2)) rfl))
        go_ret
        exact ⟨xAb (by rw [← HR.out]; first | rfl | (simp [*]; done) | (simp [*, isI]; done) | (simp_all [zer, isI]; done) | (rw [Bool.eq_iff_iff]; simp [*, zer, isI]; done) | (rw [Bool.eq_iff_iff]; simp_all [zer, isI]; done)), by (repeat (first | (with_reducible first | assumption | exact Below.refl _ _ | refine xAk ?_ _ | refine Below.drew ?_ | refine xAc ?_ _ | refine Below.setCell ?_ (by first | omega | (simp; done) | (simp; omega)) _ | refine xAa ?_ (by assumption)) | (refine xAa (a := World.drew _) ?_ (by with_reducible assumption))))⟩
      ·have u6 := qzN q6
       obtain ⟨ca0, ca1, ca2, ca3, ca4, ca5, ca6⟩ := coC (c := c) (m := m) (ga) rfl
       obtain ⟨cb0, cb1, cb2, cb3, cb4, cb5, cb6⟩ := atC (c := x) (gb) rfl
       go_wp2_with (first | (go_at_call 94; (with_reducible refine (HM2.out _).mono ?_); rintro e w1 ⟨rfl, hbw1⟩; obtain ⟨k1a0, k1a1, k1a2, k1a3, k1a4, k1a5, k1a6⟩ := coC (c := c) (m := m) ((ga.then_ hbw1)) rfl; obtain ⟨k1b0, k1b1, k1b2, k1b3, k1b4, k1b5, k1b6⟩ := atC (c := x) ((gb.then_ hbw1)) rfl) | (go_at_call 93; (with_reducible refine (HP.out _).mono ?_); rintro e w2 ⟨rfl, hbw2⟩; obtain ⟨k2a0, k2a1, k2a2, k2a3, k2a4, k2a5, k2a6⟩ := coC (c := c) (m := m) (((ga.then_ hbw1).then_ hbw2)) rfl; obtain ⟨k2b0, k2b1, k2b2, k2b3, k2b4, k2b5, k2b6⟩ := atC (c := x) (((gb.then_ hbw1).then_ hbw2)) rfl))
       go_ret
       exact ⟨xAb (by rw [← HR.out]; first | rfl | (simp [*]; done) | (simp [*, isI]; done) | (simp_all [zer, isI]; done) | (rw [Bool.eq_iff_iff]; simp [*, zer, isI]; done) | (rw [Bool.eq_iff_iff]; simp_all [zer, isI]; done)), by (repeat (first | (with_reducible first | assumption | exact Below.refl _ _ | refine xAk ?_ _ | refine Below.drew ?_ | refine xAc ?_ _ | refine Below.setCell ?_ (by first | omega | (simp; done) | (simp; omega)) _ | refine xAa ?_ (by assumption)) | (refine xAa (a := World.drew _) ?_ (by with_reducible assumption))))⟩
     | true =>
      have v5 : (x.unit != -1) = false := by rw [bne, q5]; rfl
      obtain ⟨ca0, ca1, ca2, ca3, ca4, ca5, ca6⟩ := coC (c := c) (m := m) (ga) rfl
      obtain ⟨cb0, cb1, cb2, cb3, cb4, cb5, cb6⟩ := atC (c := x) (gb) rfl
      go_upto_region 8 with ((go_at_call 94; (with_reducible refine (HM2.out _).mono ?_); rintro e w1 ⟨rfl, hbw1⟩; obtain ⟨k1a0, k1a1, k1a2, k1a3, k1a4, k1a5, k1a6⟩ := coC (c := c) (m := m) ((ga.then_ hbw1)) rfl; obtain ⟨k1b0, k1b1, k1b2, k1b3, k1b4, k1b5, k1b6⟩ := atC (c := x) ((gb.then_ hbw1)) rfl))
      clear ca0 ca1 ca2 ca3 ca4 ca5 ca6 cb0 cb1 cb2 cb3 cb4 cb5 cb6
      try clear k1a0 k1a1 k1b0 k1b1
      refine xAi ?_
      intro X2 hX
      have na : Blk X2 ba 27 #[.int .i64 c.par, .slice m.h c.hold.length m.hc, .slice m.u c.un.length m.uc, .slice m.a c.ac.length m.ac, .slice m.k c.cl.length m.kc, .int .i64 c.days, .slice m.o c.off.length m.oc] := by rw [hX]; (repeat with_reducible first | assumption | exact Blk.new _ _ _ | refine Blk.drew ?_ | refine Blk.alloc ?_ _ | refine Blk.drewN ?_ _ | apply Blk.setT0 | apply Blk.setT1 | refine Blk.far ?_ (by first | (simp; done) | omega | (simp; omega)) _ | refine Blk.then_ ?_ (by assumption))
      have nb : Blk X2 bb 92 #[.int .i64 x.kind, .int .i64 x.role, .int .i64 x.give, .int .i64 x.to_, .int .i64 x.unit, .int .i64 x.lot.1, .int .i64 x.lot.2] := by rw [hX]; (repeat with_reducible first | assumption | exact Blk.new _ _ _ | refine Blk.drew ?_ | refine Blk.alloc ?_ _ | refine Blk.drewN ?_ _ | apply Blk.setT0 | apply Blk.setT1 | refine Blk.far ?_ (by first | (simp; done) | omega | (simp; omega)) _ | refine Blk.then_ ?_ (by assumption))
      have NB : Below w.heap.size w X2 := by rw [hX]; (repeat (first | (with_reducible first | assumption | exact Below.refl _ _ | refine xAk ?_ _ | refine Below.drew ?_ | refine xAc ?_ _ | refine Below.setCell ?_ (by first | omega | (simp; done) | (simp; omega)) _ | refine xAa ?_ (by assumption)) | (refine xAa (a := World.drew _) ?_ (by with_reducible assumption))))
      clear hX ga gb HB
      have ga := na
      clear na
      have gb := nb
      clear nb
      have HB := NB
      clear NB
      have hz := Below.refl X2.heap.size X2
      have hlot := fun W => eqv2 x.lot.1 x.lot.2 0 1 W
      obtain ⟨ca0, ca1, ca2, ca3, ca4, ca5, ca6⟩ := coC (c := c) (m := m) (ga) rfl
      obtain ⟨cb0, cb1, cb2, cb3, cb4, cb5, cb6⟩ := atC (c := x) (gb) rfl
      have rg0 := cR ca0
      have rg1 := cR ca1
      have rg2 := cR ca2
      have rg3 := cR ca3
      have rg4 := cR ca4
      have rg5 := cR ca5
      have rg6 := cR ca6
      have rg7 := cR cb0
      have rg8 := cR cb1
      have rg9 := cR cb2
      have rg10 := cR cb3
      have rg11 := cR cb4
      have rg12 := cR cb5
      have rg13 := cR cb6
      refine xAg [0, 1, 2, 3] [4] (by kernel_rfl) (by kernel_rfl) pO ?_
      simp only [xAn, qzA, qzB, qzC, qzD, qzE, qzF]
      repeat (go_big_quiet_step ((first | (go_at_call 92; exact xAq (fun W' _ => HN.out W') _ _))))
      refine wpQuiet_nil ?_
      intro Z hw2
      have hbZ := xAj hw2
      clear hw2 rg0 rg1 rg2 rg3 rg4 rg5 rg6 rg7 rg8 rg9 rg10 rg11 rg12 rg13
      clear ca0 ca1 ca2 ca3 ca4 ca5 ca6 cb0 cb1 cb2 cb3 cb4 cb5 cb6
      go_wp2
      go_ret
      exact ⟨xAb (by rw [← HR.out]; first | rfl | (simp [*]; done) | (simp [*, zer]; done) | (simp_all [zer]; done) | (rw [Bool.eq_iff_iff]; simp [*, zer]; done) | (rw [Bool.eq_iff_iff]; simp_all [zer]; done)), xAa HB hbZ⟩
   | true =>
    have v3 : (x.to_ != -1) = false := by rw [bne, q3]; rfl
    cases q5 : (x.unit == -1) with
    | false =>
     have v5 : (x.unit != -1) = true := by rw [bne, q5]; rfl
     by_cases q6 : 0 ≤ x.unit
     ·have u6 := qzO q6
      by_cases q7 : x.unit < (c.un.length : Int)
      ·have u7 := qzO q7
       obtain ⟨ca0, ca1, ca2, ca3, ca4, ca5, ca6⟩ := coC (c := c) (m := m) (ga) rfl
       obtain ⟨cb0, cb1, cb2, cb3, cb4, cb5, cb6⟩ := atC (c := x) (gb) rfl
       go_wp2_with ((go_at_call 93; (with_reducible refine (HP.out _).mono ?_); rintro e w1 ⟨rfl, hbw1⟩; obtain ⟨k1a0, k1a1, k1a2, k1a3, k1a4, k1a5, k1a6⟩ := coC (c := c) (m := m) ((ga.then_ hbw1)) rfl; obtain ⟨k1b0, k1b1, k1b2, k1b3, k1b4, k1b5, k1b6⟩ := atC (c := x) ((gb.then_ hbw1)) rfl))
       go_ret
       exact ⟨xAb (by rw [← HR.out]; first | rfl | (simp [*]; done) | (simp [*, isI]; done) | (simp_all [zer, isI]; done) | (rw [Bool.eq_iff_iff]; simp [*, zer, isI]; done) | (rw [Bool.eq_iff_iff]; simp_all [zer, isI]; done)), by (repeat (first | (with_reducible first | assumption | exact Below.refl _ _ | refine xAk ?_ _ | refine Below.drew ?_ | refine xAc ?_ _ | refine Below.setCell ?_ (by first | omega | (simp; done) | (simp; omega)) _ | refine xAa ?_ (by assumption)) | (refine xAa (a := World.drew _) ?_ (by with_reducible assumption))))⟩
      ·have u7 := qzN q7
       obtain ⟨ca0, ca1, ca2, ca3, ca4, ca5, ca6⟩ := coC (c := c) (m := m) (ga) rfl
       obtain ⟨cb0, cb1, cb2, cb3, cb4, cb5, cb6⟩ := atC (c := x) (gb) rfl
       go_wp2_with ((go_at_call 93; (with_reducible refine (HP.out _).mono ?_); rintro e w1 ⟨rfl, hbw1⟩; obtain ⟨k1a0, k1a1, k1a2, k1a3, k1a4, k1a5, k1a6⟩ := coC (c := c) (m := m) ((ga.then_ hbw1)) rfl; obtain ⟨k1b0, k1b1, k1b2, k1b3, k1b4, k1b5, k1b6⟩ := atC (c := x) ((gb.then_ hbw1)) rfl))
       go_ret
       exact ⟨xAb (by rw [← HR.out]; first | rfl | (simp [*]; done) | (simp [*, isI]; done) | (simp_all [zer, isI]; done) | (rw [Bool.eq_iff_iff]; simp [*, zer, isI]; done) | (rw [Bool.eq_iff_iff]; simp_all [zer, isI]; done)), by (repeat (first | (with_reducible first | assumption | exact Below.refl _ _ | refine xAk ?_ _ | refine Below.drew ?_ | refine xAc ?_ _ | refine Below.setCell ?_ (by first | omega | (simp; done) | (simp; omega)) _ | refine xAa ?_ (by assumption)) | (refine xAa (a := World.drew _) ?_ (by with_reducible assumption))))⟩
     ·have u6 := qzN q6
      obtain ⟨ca0, ca1, ca2, ca3, ca4, ca5, ca6⟩ := coC (c := c) (m := m) (ga) rfl
      obtain ⟨cb0, cb1, cb2, cb3, cb4, cb5, cb6⟩ := atC (c := x) (gb) rfl
      go_wp2_with ((go_at_call 93; (with_reducible refine (HP.out _).mono ?_); rintro e w1 ⟨rfl, hbw1⟩; obtain ⟨k1a0, k1a1, k1a2, k1a3, k1a4, k1a5, k1a6⟩ := coC (c := c) (m := m) ((ga.then_ hbw1)) rfl; obtain ⟨k1b0, k1b1, k1b2, k1b3, k1b4, k1b5, k1b6⟩ := atC (c := x) ((gb.then_ hbw1)) rfl))
      go_ret
      exact ⟨xAb (by rw [← HR.out]; first | rfl | (simp [*]; done) | (simp [*, isI]; done) | (simp_all [zer, isI]; done) | (rw [Bool.eq_iff_iff]; simp [*, zer, isI]; done) | (rw [Bool.eq_iff_iff]; simp_all [zer, isI]; done)), by (repeat (first | (with_reducible first | assumption | exact Below.refl _ _ | refine xAk ?_ _ | refine Below.drew ?_ | refine xAc ?_ _ | refine Below.setCell ?_ (by first | omega | (simp; done) | (simp; omega)) _ | refine xAa ?_ (by assumption)) | (refine xAa (a := World.drew _) ?_ (by with_reducible assumption))))⟩
    | true =>
     have v5 : (x.unit != -1) = false := by rw [bne, q5]; rfl
     obtain ⟨ca0, ca1, ca2, ca3, ca4, ca5, ca6⟩ := coC (c := c) (m := m) (ga) rfl
     obtain ⟨cb0, cb1, cb2, cb3, cb4, cb5, cb6⟩ := atC (c := x) (gb) rfl
     go_upto_region 8 with (fail)
     clear ca0 ca1 ca2 ca3 ca4 ca5 ca6 cb0 cb1 cb2 cb3 cb4 cb5 cb6
     refine xAi ?_
     intro X2 hX
     have na : Blk X2 ba 27 #[.int .i64 c.par, .slice m.h c.hold.length m.hc, .slice m.u c.un.length m.uc, .slice m.a c.ac.length m.ac, .slice m.k c.cl.length m.kc, .int .i64 c.days, .slice m.o c.off.length m.oc] := by rw [hX]; (repeat with_reducible first | assumption | exact Blk.new _ _ _ | refine Blk.drew ?_ | refine Blk.alloc ?_ _ | refine Blk.drewN ?_ _ | apply Blk.setT0 | apply Blk.setT1 | refine Blk.far ?_ (by first | (simp; done) | omega | (simp; omega)) _ | refine Blk.then_ ?_ (by assumption))
     have nb : Blk X2 bb 92 #[.int .i64 x.kind, .int .i64 x.role, .int .i64 x.give, .int .i64 x.to_, .int .i64 x.unit, .int .i64 x.lot.1, .int .i64 x.lot.2] := by rw [hX]; (repeat with_reducible first | assumption | exact Blk.new _ _ _ | refine Blk.drew ?_ | refine Blk.alloc ?_ _ | refine Blk.drewN ?_ _ | apply Blk.setT0 | apply Blk.setT1 | refine Blk.far ?_ (by first | (simp; done) | omega | (simp; omega)) _ | refine Blk.then_ ?_ (by assumption))
     have NB : Below w.heap.size w X2 := by rw [hX]; (repeat (first | (with_reducible first | assumption | exact Below.refl _ _ | refine xAk ?_ _ | refine Below.drew ?_ | refine xAc ?_ _ | refine Below.setCell ?_ (by first | omega | (simp; done) | (simp; omega)) _ | refine xAa ?_ (by assumption)) | (refine xAa (a := World.drew _) ?_ (by with_reducible assumption))))
     clear hX ga gb HB
     have ga := na
     clear na
     have gb := nb
     clear nb
     have HB := NB
     clear NB
     have hz := Below.refl X2.heap.size X2
     have hlot := fun W => eqv2 x.lot.1 x.lot.2 0 1 W
     obtain ⟨ca0, ca1, ca2, ca3, ca4, ca5, ca6⟩ := coC (c := c) (m := m) (ga) rfl
     obtain ⟨cb0, cb1, cb2, cb3, cb4, cb5, cb6⟩ := atC (c := x) (gb) rfl
     have rg0 := cR ca0
     have rg1 := cR ca1
     have rg2 := cR ca2
     have rg3 := cR ca3
     have rg4 := cR ca4
     have rg5 := cR ca5
     have rg6 := cR ca6
     have rg7 := cR cb0
     have rg8 := cR cb1
     have rg9 := cR cb2
     have rg10 := cR cb3
     have rg11 := cR cb4
     have rg12 := cR cb5
     have rg13 := cR cb6
     refine xAg [0, 1, 2, 3] [4] (by kernel_rfl) (by kernel_rfl) pO ?_
     simp only [xAn, qzA, qzB, qzC, qzD, qzE, qzF]
     repeat (go_big_quiet_step ((first | (go_at_call 92; exact xAq (fun W' _ => HN.out W') _ _))))
     refine wpQuiet_nil ?_
     intro Z hw2
     have hbZ := xAj hw2
     clear hw2 rg0 rg1 rg2 rg3 rg4 rg5 rg6 rg7 rg8 rg9 rg10 rg11 rg12 rg13
     clear ca0 ca1 ca2 ca3 ca4 ca5 ca6 cb0 cb1 cb2 cb3 cb4 cb5 cb6
     go_wp2
     go_ret
     exact ⟨xAb (by rw [← HR.out]; first | rfl | (simp [*]; done) | (simp [*, zer]; done) | (simp_all [zer]; done) | (rw [Bool.eq_iff_iff]; simp [*, zer]; done) | (rw [Bool.eq_iff_iff]; simp_all [zer]; done)), xAa HB hbZ⟩
theorem el5 : ElT Tryz.prog 151 5 := ⟨⟨_, Tryz.underlying151⟩, by kernel_rfl, ⟨.agg #[.string ⟨#[]⟩, .int .i64 0, .int .i64 0, .int .i64 0, .int .i64 0], rfl, fun w => by kernel_rfl⟩⟩
abbrev uA (u : Uni) : List Value := [.string u.nm, .int .i64 u.kind, .int .i64 u.base, .int .i64 u.f.1, .int .i64 u.f.2]
theorem uni_any (t : List Uni) (A : Option Addr) (cap i : Nat) (u : Uni) (w : World) (hu : t[i]? = some u) (hs : Seg w w.heap.size 5 eU A t) (hb : I64 u.f.1 ∧ I64 u.f.2) (hn : t.length ≤ 1000000) (hcap : t.length ≤ cap) :
  Calls Tryz.prog 109 #[.slice A t.length cap, .int .i64 (i : Nat)] w fun e w' => e = .returned (.bool (xFq t i u)) ∧ Below w.heap.size w w' := by
 have HV := qzL (fun W => xG1 u.f.1 u.f.2 W hb.1.1 hb.1.2 hb.2.1 hb.2.2)
 have hi : i < t.length := (qzM hu).1
 obtain ⟨b0, o0, eA0, hb0, hc⟩ := xAv hs hu
 have hrg : w.rangeAt b0 (o0 + i * 5) (uA u) := fun j v hv => hc j v hv
 have HS := qzL hs
 have HU := qzL hu
 clear hc hs hb hu
 subst eA0
 obtain ⟨R, hR⟩ : ∃ R, xFq t i u = R := ⟨_, rfl⟩
 rw [hR]
 have HR := qzL hR
 clear hR
 go_enter Tryz.func109, Tryz.ntmps109
 go_upto_region 2 with ((refine xAm 151 el5 _ _ _ rfl rfl rfl rfl rfl rfl rfl rfl rfl b0 _ rfl (uA u) rfl hrg (by simp [Value.oneCell']) (by decide) (by simp) (by simp) ?_; simp only [Act.put, qzG, qzH, qzI]))
 refine xAi ?_
 intro X hX
 have ga : Blk X w.heap.size 151 (uA u).toArray := by rw [hX]; exact Blk.new _ _ _
 have HB : Below w.heap.size w X := by rw [hX]; exact wa1 _ _
 obtain ⟨ba, eb⟩ : ∃ b, w.heap.size = b := ⟨_, rfl⟩
 rw [eb] at ga ⊢
 clear hX eb hrg
 have lb0 : b0 < X.heap.size := Nat.lt_of_lt_of_le hb0 HB.size
 have HS2 : Hid (Seg X X.heap.size 5 eU (some ⟨b0, o0, none⟩) t) := (HS.out.below HB).more HB.size
 clear HS
 have k0 : X.cell? ⟨ba, 0, none⟩ = some (.string u.nm) := ga.cell 0
 by_cases h20 : i < 20
 ·have t1 : decide ((20 : Int) ≤ (i : Int)) = false := qzN (by omega)
  cases hnm : (u.nm.toList == ([] : List UInt8)) with
  | true =>
   go_wp2
   go_ret
   exact ⟨xAb (by rw [← HR.out]; unfold xFq; simp [hnm]), HB⟩
  | false =>
   have HNM := qzL hnm
   go_upto_region 5 with (fail)
   clear t1 hnm k0
   have H20 := qzL h20
   clear h20
   go_loopw [23] (fun y WR => ∃ j : Nat, j ≤ i ∧ y = .int .i64 j ∧ Hid ((t.take j).all (fun o => !(o.nm.toList == u.nm.toList)) = true) ∧ Below X.heap.size X WR) (fun y _ => 2000000 - (intOf y).toNat)
   case atStart => exact ⟨0, by omega, rfl, rfl, Below.refl _ _⟩
   case round =>
    obtain ⟨j, hj, rfl, hN, hbr⟩ := hrel
    have gr := ga.then_ hbr
    have r0 : wr.cell? ⟨ba, 0, none⟩ = some (.string u.nm) := gr.cell 0
    have lgr := gr.lt
    by_cases hlt2 : j < i
    ·obtain ⟨y, hy⟩ : ∃ y, t[j]? = some y := ⟨_, qzJ (by omega)⟩
     obtain ⟨b1, o1, ec, hb1, hc⟩ := xAv (HS2.out.below hbr) hy
     cases ec
     have hrg : wr.rangeAt b0 (o0 + j * 5) (uA y) := fun j v hv => hc j v hv
     have htk : Hid ((t.take (j + 1)).all (fun o => !(o.nm.toList == u.nm.toList)) = !(y.nm.toList == u.nm.toList)) := by
      unfold Hid
      obtain ⟨h1, rfl⟩ := qzM hy
      rw [List.take_succ_eq_append_getElem h1, List.all_append, hN.out]
      simp
     have HBR := qzL hbr
     have tj : decide ((j : Int) < (i : Int)) = true := qzO (by omega)
     clear hy hc hbr ga gr
     cases hq : (y.nm.toList == u.nm.toList) with
     | true =>
      have hf : Hid (R = false) := by
       unfold Hid
       rw [← HR.out]
       have h4 : (t.take i).all (fun o => !(o.nm.toList == u.nm.toList)) = false := by
        rw [← List.take_append_drop (j + 1) (t.take i), List.all_append, List.take_take, Nat.min_eq_left (by omega), htk.out, hq]; rfl
       unfold xFq
       rw [h4]; simp
      go_wp2_with ((refine xAm 151 el5 _ _ _ rfl rfl rfl rfl rfl rfl rfl rfl rfl b0 _ rfl (uA y) rfl hrg (by simp [Value.oneCell']) (by decide) (by simp) (by simp) ?_; simp only [Act.put, qzG, qzH, qzI]))
      go_ret
      exact ⟨xAb hf.out.symm, (HB.trans (HBR.out.mono HB.size)).alloc (by have := HBR.out.size; have := HB.size; omega) _⟩
     | false =>
      go_wp2_with ((refine xAm 151 el5 _ _ _ rfl rfl rfl rfl rfl rfl rfl rfl rfl b0 _ rfl (uA y) rfl hrg (by simp [Value.oneCell']) (by decide) (by simp) (by simp) ?_; simp only [Act.put, qzG, qzH, qzI]))
      go_roundw
      case rel => exact ⟨j + 1, by omega, by simp, by unfold Hid; rw [htk.out, hq]; rfl, xAc HBR.out _⟩
      case measure => simp [intOf]; omega
    ·have tj : decide ((j : Int) < (i : Int)) = false := qzN (by omega)
     obtain rfl : j = i := by omega
     have HBW := qzL (xAa HB hbr)
     have HS3 : Hid (Seg wr wr.heap.size 5 eU (some ⟨b0, o0, none⟩) t) := (HS2.out.below hbr).more hbr.size
     have hRR : Hid (R = ((u.kind == 1 || u.kind == 2) && vld u.f.1 u.f.2 && decide (0 < u.f.1) && isI u.base t.length && (match t[u.base.toNat]? with | some b => b.kind == u.kind && b.base == u.base | none => false) && (u.base != (j : Int) || (u.f.1 == 1 && u.f.2 == 1)))) := by
      unfold Hid
      rw [← HR.out]
      unfold xFq
      rw [hN.out, HNM.out, qzO H20.out]
      rfl
     clear hbr hN HS2 HR HNM H20 HB ga lb0
     have r1 : wr.cell? ⟨ba, 1, none⟩ = some (.int .i64 u.kind) := gr.cell 1
     have r2 : wr.cell? ⟨ba, 2, none⟩ = some (.int .i64 u.base) := gr.cell 2
     have r3 : wr.cell? ⟨ba, 3, none⟩ = some (.int .i64 u.f.1) := gr.cell 3
     have r4 : wr.cell? ⟨ba, 4, none⟩ = some (.int .i64 u.f.2) := gr.cell 4
     have noK : (u.kind == 1 || u.kind == 2) = false → Hid (R = false) := fun h => by unfold Hid; rw [hRR.out, h]; rfl
     have noV : vld u.f.1 u.f.2 = false → Hid (R = false) := fun h => by unfold Hid; rw [hRR.out, h]; simp
     have noP : ¬ 0 < u.f.1 → Hid (R = false) := fun h => by unfold Hid; rw [hRR.out, qzN h]; simp
     cases q1 : (u.kind == 1 || u.kind == 2) with
     | false =>
      have hf := noK q1
      have e1 : (u.kind == 1) = false := by cases h : (u.kind == 1) <;> simp_all
      have e2 : (u.kind == 2) = false := by cases h : (u.kind == 2) <;> simp_all
      have e3 : (u.kind != 1) = true := by rw [bne, e1]; rfl
      have e4 : (u.kind != 2) = true := by rw [bne, e2]; rfl
      clear noK noV noP q1 hRR
      go_wp2
      go_ret
      exact ⟨xAb hf.out.symm, HBW.out⟩
     | true =>
      have ways : ((u.kind == 1) = true) ∨ ((u.kind == 1) = false ∧ (u.kind == 2) = true) := by cases h : (u.kind == 1) <;> simp_all
      clear noK
      cases hv : vld u.f.1 u.f.2 with
      | false =>
       have hf := noV hv
       rw [hv] at HV
       clear noV noP hRR q1
       rcases ways with e1 | ⟨e1, e2⟩
       ·have e3 : (u.kind != 1) = false := by rw [bne, e1]; rfl
        go_wp2_with (go_at_call 110; refine (HV.out _).mono ?_; rintro e w1 ⟨rfl, hbw1⟩)
        go_ret
        exact ⟨xAb hf.out.symm, xAa HBW.out hbw1⟩
       ·have e3 : (u.kind != 1) = true := by rw [bne, e1]; rfl
        have e4 : (u.kind != 2) = false := by rw [bne, e2]; rfl
        go_wp2_with (go_at_call 110; refine (HV.out _).mono ?_; rintro e w1 ⟨rfl, hbw1⟩)
        go_ret
        exact ⟨xAb hf.out.symm, xAa HBW.out hbw1⟩
      | true =>
       clear noV
       rw [hv] at HV
       by_cases hp : 0 < u.f.1
       ·clear noP
        have tp : decide (u.f.1 ≤ 0) = false := qzN (by omega)
        have hRR2 : Hid (R = (isI u.base t.length && (match t[u.base.toNat]? with | some b => b.kind == u.kind && b.base == u.base | none => false) && (u.base != (j : Int) || (u.f.1 == 1 && u.f.2 == 1)))) := by
         unfold Hid
         rw [hRR.out, hv, q1, qzO hp]
         simp only [Bool.and_self, Bool.true_and]
        have HI := qzL (fun W => isIx_any t (some ⟨b0, o0, none⟩) cap u.base W)
        clear hRR hv hp q1
        have ww : ∃ a b : Bool, (u.kind != 1) = a ∧ (u.kind != 2) = b ∧ (a = true → b = false) := ⟨_, _, rfl, rfl, fun h => by rcases ways with e1 | ⟨e1, e2⟩ <;> simp_all [bne]⟩
        obtain ⟨a, b, e3, e4, hab⟩ := ww
        have wab : (a = false) ∨ (a = true ∧ b = false) := by cases a <;> simp_all
        clear ways hab
        rcases wab with rfl | ⟨rfl, rfl⟩
        all_goals
         go_upto_region 12 with (go_at_call 110; refine (HV.out _).mono ?_; rintro e w1 ⟨rfl, hbw1⟩; have x0 : w1.cell? ⟨ba, 3, none⟩ = some (.int .i64 u.f.1) := (gr.then_ hbw1).cell 3)
         refine xAi ?_
         intro Y hY
         have gY : Blk Y ba 151 (uA u).toArray := by rw [hY]; exact gr.then_ hbw1
         have HBY : Hid (Below w.heap.size w Y) := by rw [hY]; exact xAa HBW.out hbw1
         have HSY : Hid (Seg Y Y.heap.size 5 eU (some ⟨b0, o0, none⟩) t) := by rw [hY]; exact (HS3.out.below hbw1).more hbw1.size
         clear hY hbw1 gr r0 r1 r2 r3 r4 lgr tp e3 e4 HBW HS3 HV
         have y1 : Y.cell? ⟨ba, 1, none⟩ = some (.int .i64 u.kind) := gY.cell 1
         have y2 : Y.cell? ⟨ba, 2, none⟩ = some (.int .i64 u.base) := gY.cell 2
         have y3 : Y.cell? ⟨ba, 3, none⟩ = some (.int .i64 u.f.1) := gY.cell 3
         have y4 : Y.cell? ⟨ba, 4, none⟩ = some (.int .i64 u.f.2) := gY.cell 4
         have heq := fun W => eqv2 u.f.1 u.f.2 1 1 W
         cases q2 : isI u.base t.length with
         | false =>
          rw [q2] at HI
          have hf : Hid (R = false) := by unfold Hid; rw [hRR2.out, q2]; rfl
          clear hRR2 q2
          have rg0 := cR y1
          have rg1 := cR y2
          have rg2 := cR y3
          have rg3 := cR y4
          refine xAg [0, 1, 2, 3, 4, 5, 6, 7, 8, 9, 10, 11, 12, 13, 14, 15, 16, 17, 18, 19, 20, 21, 22, 23, 24, 25, 26] [] (by kernel_rfl) (by kernel_rfl) pO ?_
          simp only [xAn, qzA, qzB, qzC, qzD, qzE, qzF]
          repeat (go_big_quiet_step ((go_at_call 116; exact xAq (fun W' _ => (HI.out W').mono fun _ _ ⟨a, b⟩ => ⟨a, b ▸ Below.refl _ _⟩) _ _)))
          refine wpQuiet_nil ?_
          intro Z hw2
          have hbZ := xAj hw2
          clear hw2 rg0 rg1 rg2 rg3
          clear y1 y2 y3 y4
          go_wp2
          go_ret
          exact ⟨xAb hf.out.symm, xAa HBY.out hbZ⟩
         | true =>
          rw [q2] at HI
          obtain ⟨z1, z2⟩ := xB3.1 q2
          obtain ⟨n, hnb⟩ := Int.eq_ofNat_of_zero_le z1
          have hnl : n < t.length := by omega
          obtain ⟨x, hx⟩ : ∃ x, t[n]? = some x := ⟨_, qzJ hnl⟩
          have hRR3 : Hid (R = (x.kind == u.kind && x.base == u.base && (u.base != (j : Int) || (u.f.1 == 1 && u.f.2 == 1)))) := by
           unfold Hid
           rw [hRR2.out, q2, hnb, Int.toNat_natCast, hx]
           simp only [Bool.true_and]
          obtain ⟨b1, o1, ec, hb1, hc⟩ := xAv HSY.out hx
          cases ec
          have x1 : Y.cell? ⟨b0, o0 + n * 5 + 1, none⟩ = some (.int .i64 x.kind) := hc 1 _ rfl
          have x2 : Y.cell? ⟨b0, o0 + n * 5 + 2, none⟩ = some (.int .i64 x.base) := hc 2 _ rfl
          clear hc hx hRR2 q2 z1 z2 HSY
          have HNB := qzL hnb
          rw [hnb] at y2 HI hRR3
          clear hnb gY
          have CALL : Hid (∀ W, Calls Tryz.prog 116 #[.slice (some ⟨b0, o0, none⟩) t.length cap, .int .i64 (n : Nat)] W fun e w' => e = .returned (.bool true) ∧ Below W.heap.size W w') := fun W => (HI.out W).mono fun _ _ ⟨a, b⟩ => ⟨a, b ▸ Below.refl _ _⟩
          clear HI
          cases q3 : (x.kind == u.kind) with
          | false =>
           have e3 : (x.kind != u.kind) = true := by rw [bne, q3]; rfl
           have hf : Hid (R = false) := by unfold Hid; rw [hRR3.out, q3]; rfl
           have rg0 := cR y1
           have rg1 := cR y2
           have rg2 := cR y3
           have rg3 := cR y4
           have rg4 := cR x1
           have rg5 := cR x2
           refine xAg [0, 1, 2, 3, 4, 5, 6, 7, 8, 9, 10, 11, 12, 13, 14, 15, 16, 17, 18, 19, 20, 21, 22, 23, 24, 25, 26] [] (by kernel_rfl) (by kernel_rfl) pO ?_
           simp only [xAn, qzA, qzB, qzC, qzD, qzE, qzF]
           repeat (go_big_quiet_step ((go_at_call 116; exact xAq (fun W' _ => CALL.out W') _ _)))
           refine wpQuiet_nil ?_
           intro Z hw2
           have hbZ := xAj hw2
           clear hw2 rg0 rg1 rg2 rg3 rg4 rg5
           clear y1 y2 y3 y4 x1 x2
           go_wp2
           go_ret
           exact ⟨xAb hf.out.symm, xAa HBY.out hbZ⟩
          | true =>
           have e3 : (x.kind != u.kind) = false := by rw [bne, q3]; rfl
           cases q4 : (x.base == (n : Int)) with
           | false =>
            have e4 : (x.base != (n : Int)) = true := by rw [bne, q4]; rfl
            have hf : Hid (R = false) := by unfold Hid; rw [hRR3.out, q3, q4]; rfl
            have rg0 := cR y1
            have rg1 := cR y2
            have rg2 := cR y3
            have rg3 := cR y4
            have rg4 := cR x1
            have rg5 := cR x2
            refine xAg [0, 1, 2, 3, 4, 5, 6, 7, 8, 9, 10, 11, 12, 13, 14, 15, 16, 17, 18, 19, 20, 21, 22, 23, 24, 25, 26] [] (by kernel_rfl) (by kernel_rfl) pO ?_
            simp only [xAn, qzA, qzB, qzC, qzD, qzE, qzF]
            repeat (go_big_quiet_step ((go_at_call 116; exact xAq (fun W' _ => CALL.out W') _ _)))
            refine wpQuiet_nil ?_
            intro Z hw2
            have hbZ := xAj hw2
            clear hw2 rg0 rg1 rg2 rg3 rg4 rg5
            clear y1 y2 y3 y4 x1 x2
            go_wp2
            go_ret
            exact ⟨xAb hf.out.symm, xAa HBY.out hbZ⟩
           | true =>
            have e4 : (x.base != (n : Int)) = false := by rw [bne, q4]; rfl
            have hf : Hid (R = ((n : Int) != (j : Int) || (u.f.1 == 1 && u.f.2 == 1))) := by unfold Hid; rw [hRR3.out, q3, q4]; rfl
            have rg0 := cR y1
            have rg1 := cR y2
            have rg2 := cR y3
            have rg3 := cR y4
            have rg4 := cR x1
            have rg5 := cR x2
            refine xAg [0, 1, 2, 3, 4, 5, 6, 7, 8, 9, 10, 11, 12, 13, 14, 15, 16, 17, 18, 19, 20, 21, 22, 23, 24, 25, 26] [] (by kernel_rfl) (by kernel_rfl) pO ?_
            simp only [xAn, qzA, qzB, qzC, qzD, qzE, qzF]
            repeat (go_big_quiet_step ((go_at_call 116; exact xAq (fun W' _ => CALL.out W') _ _)))
            refine wpQuiet_nil ?_
            intro Z hw2
            have hbZ := xAj hw2
            clear hw2 rg0 rg1 rg2 rg3 rg4 rg5
            have g1 : Z.cell? ⟨ba, 2, none⟩ = some (.int .i64 (n : Nat)) := (hbZ.cell (block_lt_of_cell y2)).trans y2
            have g3 : Z.cell? ⟨ba, 3, none⟩ = some (.int .i64 u.f.1) := (hbZ.cell (block_lt_of_cell y3)).trans y3
            have g4 : Z.cell? ⟨ba, 4, none⟩ = some (.int .i64 u.f.2) := (hbZ.cell (block_lt_of_cell y4)).trans y4
            clear y1 y2 y3 y4 x1 x2
            cases q5 : ((n : Int) != (j : Int)) with
            | true =>
             go_wp2
             go_ret
             exact ⟨xAb (by rw [hf.out, q5]; rfl), xAa HBY.out hbZ⟩
            | false =>
             go_wp2
             go_ret
             exact ⟨xAb (by rw [hf.out, q5, Bool.false_or]; rfl), xAa HBY.out hbZ⟩
       ·have tp : decide (u.f.1 ≤ 0) = true := qzO (by omega)
        have hf := noP hp
        clear noP hRR hv hp q1
        rcases ways with e1 | ⟨e1, e2⟩
        ·have e3 : (u.kind != 1) = false := by rw [bne, e1]; rfl
         go_wp2_with (go_at_call 110; refine (HV.out _).mono ?_; rintro e w1 ⟨rfl, hbw1⟩; have x0 : w1.cell? ⟨ba, 3, none⟩ = some (.int .i64 u.f.1) := (gr.then_ hbw1).cell 3)
         go_ret
         exact ⟨xAb hf.out.symm, xAa HBW.out hbw1⟩
        ·have e3 : (u.kind != 1) = true := by rw [bne, e1]; rfl
         have e4 : (u.kind != 2) = false := by rw [bne, e2]; rfl
         go_wp2_with (go_at_call 110; refine (HV.out _).mono ?_; rintro e w1 ⟨rfl, hbw1⟩; have x0 : w1.cell? ⟨ba, 3, none⟩ = some (.int .i64 u.f.1) := (gr.then_ hbw1).cell 3)
         go_ret
         exact ⟨xAb hf.out.symm, xAa HBW.out hbw1⟩
 ·have t1 : decide ((20 : Int) ≤ (i : Int)) = true := qzO (by omega)
  go_wp2
  go_ret
  exact ⟨xAb (by rw [← HR.out]; unfold xFq; rw [qzN h20]; simp), HB⟩
theorem xFa (t : List Uni) : ∀ (l : List Uni) (i : Nat), xGb t i l = true ↔ ∀ j u, l[j]? = some u → xFq t (i + j) u = true
 | [], i => by simp [xGb]
 | u :: l, i => by
  simp only [xGb, Bool.and_eq_true]
  rw [xFa t l (i + 1)]
  constructor
  ·rintro ⟨h1, h2⟩ j x hx
   cases j with
   | zero => simp at hx; subst hx; exact h1
   | succ j => rw [show i + (j + 1) = i + 1 + j by omega]; exact h2 j x (by simpa using hx)
  ·intro h
   exact ⟨h 0 u rfl, fun j x hx => by rw [show i + 1 + j = i + (j + 1) by omega]; exact h (j + 1) x (by simpa using hx)⟩
theorem uns_any (t : List Uni) (A : Option Addr) (cap : Nat) (w : World) (hs : Seg w w.heap.size 5 eU A t) (hb : ∀ u ∈ t, I64 u.f.1 ∧ I64 u.f.2) (hn : t.length ≤ 1000000) (hcap : t.length ≤ cap) :
  Calls Tryz.prog 88 #[.slice A t.length cap] w fun e w' => (∃ k : Int, e = .returned (.tuple #[.int .i64 k, .bool (xGb t 0 t)])) ∧ Below w.heap.size w w' := by
 have HS := qzL hs
 have HU := qzL (fun (i : Nat) (u : Uni) (hu : t[i]? = some u) W hb2 => uni_any t A cap i u W hu ((hs.below hb2).more (Below.size hb2)) (hb u (qzK hu)) hn hcap)
 clear hs hb
 go_enter Tryz.func88, Tryz.ntmps88
 go_upto_region 2 with (fail)
 go_loopw [7] (fun y WR => ∃ j : Nat, j ≤ t.length ∧ y = .int .i64 j ∧ Hid (∀ i u, i < j → t[i]? = some u → xFq t i u = true) ∧ Below w.heap.size w WR) (fun y _ => 2000000 - (intOf y).toNat)
 case atStart => exact ⟨0, by omega, rfl, fun i u h => absurd h (by omega), Below.refl _ _⟩
 case round =>
  obtain ⟨j, hj, rfl, hN, hbr⟩ := hrel
  by_cases hlt : j < t.length
  ·have tj : decide ((j : Int) < (t.length : Int)) = true := qzO (by omega)
   obtain ⟨u, hu⟩ : ∃ u, t[j]? = some u := ⟨_, qzJ hlt⟩
   have HC := qzL (HU.out j u hu wr hbr)
   have HX := qzL hu
   have HBR := qzL hbr
   clear hu hbr
   cases hq : xFq t j u with
   | true =>
    rw [hq] at HC
    go_wp2_with (go_at_call 109; (with_reducible refine HC.out.mono ?_); rintro e w1 ⟨rfl, hbw1⟩)
    go_roundw
    case rel => exact ⟨j + 1, by omega, by simp, fun i x hi hx => by
     by_cases h : i = j
     ·subst h
      rw [HX.out] at hx
      injection hx with hx
      subst hx
      exact hq
     ·exact hN.out i x (by omega) hx, xAa HBR.out hbw1⟩
    case measure => simp [intOf]; omega
   | false =>
    rw [hq] at HC
    have hf : Hid (xGb t 0 t = false) := by
     unfold Hid
     rw [Bool.eq_false_iff]
     intro h
     have := (xFa t t 0).1 h j u HX.out
     rw [Nat.zero_add, hq] at this
     cases this
    go_wp2_with (go_at_call 109; (with_reducible refine HC.out.mono ?_); rintro e w1 ⟨rfl, hbw1⟩)
    refine bodyPost_ret (by simp [results, Tryz.results88, go_sem, *]; rfl) rfl ⟨?_, ?_⟩
    ·exact ⟨_, by rw [hf.out]⟩
    ·exact xAa HBR.out hbw1
  ·have tj : decide ((j : Int) < (t.length : Int)) = false := qzN (by omega)
   have hf : Hid (xGb t 0 t = true) := by
    unfold Hid
    rw [xFa]
    intro i u hu
    rw [Nat.zero_add]
    exact hN.out i u (by have := (qzM hu).1; omega) hu
   have HBR := qzL hbr
   clear hbr hN
   go_wp2
   refine bodyPost_ret (by simp [results, Tryz.results88, go_sem, *]; rfl) rfl ⟨?_, ?_⟩
   ·exact ⟨_, by rw [hf.out]⟩
   ·exact HBR.out
theorem held_any (c : Con) (m : Cm) (w : World) (hs : Seg w w.heap.size 1 eI m.h c.hold) (hn : c.hold.length ≤ 1000000) (hp : c.par ≤ 1000000) :
  Calls Tryz.prog 87 #[.agg (coA c m)] w fun e w' => e = .returned (.bool (c.hold.all fun h => decide (0 ≤ h) && decide (h < c.par))) ∧ Below w.heap.size w w' := by
 obtain ⟨R, hR⟩ : ∃ R, (c.hold.all fun h => decide (0 ≤ h) && decide (h < c.par)) = R := ⟨_, rfl⟩
 rw [hR]
 have HR := qzL hR
 have HS := qzL hs
 clear hR hs
 go_enter Tryz.func87, Tryz.ntmps87
 go_upto_region 1 with (fail)
 refine xAi ?_
 intro X hX
 have ga : Blk X w.heap.size 27 (coA c m) := by rw [hX]; exact Blk.new _ _ _
 have HB : Hid (Below w.heap.size w X) := by rw [hX]; exact wa1 _ _
 obtain ⟨ba, eb⟩ : ∃ b, w.heap.size = b := ⟨_, rfl⟩
 rw [eb] at ga ⊢
 clear hX eb
 have HS2 : Hid (Seg X X.heap.size 1 eI m.h c.hold) := (HS.out.below HB.out).more HB.out.size
 have k0 : X.cell? ⟨ba, 0, none⟩ = some (.int .i64 c.par) := ga.cell 0
 have k1 : X.cell? ⟨ba, 1, none⟩ = some (.slice m.h c.hold.length m.hc) := ga.cell 1
 clear ga HS
 go_wp2
 go_step3
 go_wp2
 go_step3
 go_upto_region 2 with (fail)
 go_loopw [8] (fun y WR => ∃ j : Nat, j ≤ c.hold.length ∧ y = .int .i64 j ∧ Hid (∀ i x, i < j → c.hold[i]? = some x → 0 ≤ x ∧ x < c.par) ∧ WR = X) (fun y _ => 2000000 - (intOf y).toNat)
 case atStart => exact ⟨0, by omega, rfl, fun i u h => absurd h (by omega), rfl⟩
 case round =>
  obtain ⟨j, hj, rfl, hN, rfl⟩ := hrel
  by_cases hlt : j < c.hold.length
  ·have tj : decide ((j : Int) < (c.hold.length : Int)) = true := qzO (by omega)
   obtain ⟨x, hx⟩ : ∃ x, c.hold[j]? = some x := ⟨_, qzJ hlt⟩
   obtain ⟨b0, o0, eA0, hb0, hc⟩ := xAv HS2.out hx
   have x0 : wr.cell? ⟨b0, o0 + j, none⟩ = some (.int .i64 x) := by simpa using hc 0 _ rfl
   have HX := qzL hx
   clear hc hx
   go_upto_region 5 with (fail)
   go_loopw [13] (fun y WR => ∃ n : Nat, ((n : Int) ≤ c.par ∨ n = 0) ∧ y = .int .i64 n ∧ Hid (∀ i : Nat, i < n → x ≠ i) ∧ WR = wr) (fun y _ => 2000000 - (intOf y).toNat)
   case atStart => exact ⟨0, .inr rfl, rfl, fun i h => absurd h (by omega), rfl⟩
   case round =>
    obtain ⟨n, hn2, rfl, hM, rfl⟩ := hrel
    by_cases hl2 : (n : Int) < c.par
    ·have tn : decide ((n : Int) < c.par) = true := qzO hl2
     cases hq : (x == (n : Int)) with
     | true =>
      have HQ : Hid (x = (n : Int)) := by unfold Hid; simpa using hq
      have HL := qzL hl2
      clear hl2
      go_wp2
      go_roundw
      case rel => exact ⟨j + 1, by omega, by simp, fun i y hi hy => by
       by_cases h : i = j
       ·subst h
        rw [HX.out] at hy
        injection hy with hy
        subst hy
        have := HQ.out
        have := HL.out
        omega
       ·exact hN.out i y (by omega) hy, by first | trivial | rfl⟩
      case measure => simp [intOf]; omega
     | false =>
      have HQ : Hid (x ≠ (n : Int)) := by unfold Hid; simpa using hq
      go_wp2
      go_roundw
      case rel => exact ⟨n + 1, .inl (by omega), by simp, fun i hi => by
       by_cases h : i = n
       ·subst h; exact HQ.out
       ·exact hM.out i (by omega), by first | trivial | rfl⟩
      case measure => simp [intOf]; omega
    ·have tn : decide ((n : Int) < c.par) = false := qzN hl2
     have hf : Hid (R = false) := by
      unfold Hid
      rw [← HR.out, Bool.eq_false_iff]
      intro h
      rw [List.all_eq_true] at h
      have := h x (qzK HX.out)
      simp only [Bool.and_eq_true, decide_eq_true_eq] at this
      obtain ⟨i, hi⟩ := Int.eq_ofNat_of_zero_le this.1
      exact hM.out i (by omega) hi
     clear hl2
     go_wp2
     rw [Exit.noGoto_ret]
     go_ret
     exact ⟨xAb hf.out.symm, HB.out⟩
  ·have tj : decide ((j : Int) < (c.hold.length : Int)) = false := qzN (by omega)
   have hf : Hid (R = true) := by
    unfold Hid
    rw [← HR.out, List.all_eq_true]
    intro x hx
    obtain ⟨i, hi, rfl⟩ := List.getElem_of_mem hx
    have := hN.out i _ (by omega) (qzJ hi)
    simp [this.1, this.2]
   go_wp2
   rw [Exit.noGoto_ret]
   go_ret
   exact ⟨xAb hf.out.symm, HB.out⟩
end Go.Proofs.YtffceokjeonpcaaGreatDoor
