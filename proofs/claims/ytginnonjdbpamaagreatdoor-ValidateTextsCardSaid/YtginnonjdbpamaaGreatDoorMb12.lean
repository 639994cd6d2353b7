/- Contracts of functions and plain laws, joined: Sx, Pk2, Sy, Rg. -/
import Derived.Test.YtginnonjdbpamaaGreatDoorMb11
import Derived.Test.YtginnonjdbpamaaGreatDoorMb4
import Derived.RangeFuncNested
import Derived.RangeFuncBound
import Derived.RangeFuncCalls
import Derived.RangeFuncLeaves
import Derived.Shelf.Abstract
import Derived.Shelf.RegionOpen
import Derived.WalkKit
import Derived.OwnWalkIn
import Derived.TacticsInMore
import Derived.LoopNIn
import Derived.LoopIn
import Derived.Test.YtginnonjdbpamaaGreatDoorMb9
/- The walks of the effects on one clause: perform, violate, done, expire, lapse. -/
namespace Go.Proofs.YtginnonjdbpamaaGreatDoor
open Go.RowKit
section
variable {w0 w w' : World} {b : Nat} {c : Con} {m : Cm} {s : Sta} {q : Qn}
theorem set_set {i : Nat} {x y : Mk} (l : List Mk) : (l.set i x).set i y = l.set i y := by simp
theorem Wk.cont (h : Wk w0 w b c m s q) : Cont w c m := h.cn.then_ h.hb
theorem Wk.km (h : Wk w0 w b c m s q) {i : Nat} {x : Mk} (hx : s.marks[i]? = some x) : ∃ k, m.ks[i]? = some k ∧ c.cl[i]? = some k.k := by
 have hi : i < c.cl.length := by rw [← h.lm]; exact (List.getElem?_eq_some_iff.1 hx).1
 obtain ⟨k, hk⟩ : ∃ k, c.cl[i]? = some k := ⟨_, List.getElem?_eq_getElem hi⟩
 obtain ⟨kx, h1, h2⟩ := km_at h.cn.e hk
 exact ⟨kx, h1, by rw [h2]; exact hk⟩
theorem Eff.of_end {i : Nat} {x y : Mk} {e : Ending} (hk : Kept w w' (· = q.m)) {ew : World} (h : Eff w0 w' b c m { s with marks := s.marks.set i x } q i y e ew) : Eff w0 w b c m s q i y e ew := by
 obtain ⟨h1, h2, h3⟩ := h
 refine ⟨h1, ?_, hk.trans h3⟩
 simpa using h2
end
theorem list_set_same {α : Type} {l : List α} {i : Nat} {x : α} (h : l[i]? = some x) : l.set i x = l := by
 refine List.ext_getElem? fun j => ?_
 by_cases e : i = j
 ·subst e; rw [List.getElem?_set_self (List.getElem?_eq_some_iff.1 h).1, h]
 ·rw [List.getElem?_set_ne e]
theorem done_any (w0 : World) (b : Nat) (c : Con) (m : Cm) (s : Sta) (q : Qn) (i : Nat) (x : Mk) (w : World) (hW : Wk w0 w b c m s q) (hx : s.marks[i]? = some x) :
  Calls Tryz.prog 75 #[.pointer (some ⟨b, 0, none⟩), .int .i64 (i : Nat)] w fun e w' => Eff w0 w b c m s q i (x.endS 3) e w' := by
 have HE := Lib.hid (end_any w0 b c m s q i x 3 w hW hx)
 clear hW hx
 go_enter Tryz.func75, Tryz.ntmps75
 go_wp2_with (go_at_call 108; (with_reducible refine HE.out.mono ?_); rintro e w1 ⟨rfl, h1, h2⟩)
 go_end0
 exact ⟨rfl, h1, h2⟩
theorem lapse_any (w0 : World) (b : Nat) (c : Con) (m : Cm) (s : Sta) (q : Qn) (i : Nat) (x : Mk) (w : World) (hW : Wk w0 w b c m s q) (hx : s.marks[i]? = some x) :
  Calls Tryz.prog 76 #[.pointer (some ⟨b, 0, none⟩), .int .i64 (i : Nat)] w fun e w' => Eff w0 w b c m s q i (x.endS 5) e w' := by
 have HE := Lib.hid (end_any w0 b c m s q i x 5 w hW hx)
 clear hW hx
 go_enter Tryz.func76, Tryz.ntmps76
 go_wp2_with (go_at_call 108; (with_reducible refine HE.out.mono ?_); rintro e w1 ⟨rfl, h1, h2⟩)
 go_end0
 exact ⟨rfl, h1, h2⟩
theorem violate_any (w0 : World) (b : Nat) (c : Con) (m : Cm) (s : Sta) (q : Qn) (i : Nat) (x : Mk) (w : World) (hW : Wk w0 w b c m s q) (hx : s.marks[i]? = some x) :
  Calls Tryz.prog 79 #[.pointer (some ⟨b, 0, none⟩), .int .i64 (i : Nat)] w fun e w' => Eff w0 w b c m s q i (if x.pau then x else x.endS 4) e w' := by
 have him : i < s.marks.length := (List.getElem?_eq_some_iff.1 hx).1
 have hix := fun W => idx_own (t := 41) (size := 5) (g := q.m) (cap := q.mc) him (by kernel_rfl) (fun W => by kernel_rfl) W
 have nm := hW.nm
 have k10 : w.cell? ⟨b, 10, none⟩ = some (.slice (some ⟨q.m, 0, none⟩) s.marks.length q.mc) := hW.g.cell 10
 obtain ⟨⟨m0, f0⟩, ⟨m1, f1⟩, ⟨m2, f2⟩, ⟨m3, f3⟩, ⟨m4, f4⟩⟩ := hW.mark hx
 have HE := Lib.hid (end_any w0 b c m s q i x 4 w hW hx)
 have HS : Hid (Wk w0 w b c m { s with marks := s.marks.set i x } q) := by
  unfold Hid
  rw [show s.marks.set i x = s.marks from list_set_same hx]
  exact hW
 clear hW hx
 cases hp : x.pau with
 | true =>
  rw [hp] at m4
  go_enter Tryz.func79, Tryz.ntmps79
  go_wp2
  go_end0
  exact ⟨rfl, HS.out, Kept.refl _ _⟩
 | false =>
  rw [hp] at m4
  go_enter Tryz.func79, Tryz.ntmps79
  go_wp2_with (go_at_call 108; (with_reducible refine HE.out.mono ?_); rintro e w1 ⟨rfl, h1, h2⟩)
  go_end0
  exact ⟨rfl, h1, h2⟩
set_option maxRecDepth 100000 in
set_option maxHeartbeats 6400000 in
theorem perform_any (w0 : World) (b : Nat) (c : Con) (m : Cm) (s : Sta) (q : Qn) (i : Nat) (x : Mk) (k : Cla) (w : World) (hW : Wk w0 w b c m s q) (hx : s.marks[i]? = some x) (hk : c.cl[i]? = some k) (hg : 0 ≤ x.got ∧ x.got ≤ 9) :
  Calls Tryz.prog 78 #[.pointer (some ⟨b, 0, none⟩), .int .i64 (i : Nat)] w fun e w' => Eff w0 w b c m s q i (if x.got + 1 = k.need then { x with got := x.got + 1 }.endS 3 else { x with got := x.got + 1 }) e w' := by
 have him : i < s.marks.length := (List.getElem?_eq_some_iff.1 hx).1
 have hik : i < c.cl.length := (List.getElem?_eq_some_iff.1 hk).1
 have hix := fun W => idx_own (t := 41) (size := 5) (g := q.m) (cap := q.mc) him (by kernel_rfl) (fun W => by kernel_rfl) W
 have nm := hW.nm
 have nk := hW.cn.nk
 obtain ⟨kx, hkx, hkk⟩ := km_at hW.cn.e hk
 have k10 : w.cell? ⟨b, 10, none⟩ = some (.slice (some ⟨q.m, 0, none⟩) s.marks.length q.mc) := hW.g.cell 10
 obtain ⟨⟨m0, f0⟩, ⟨m1, f1⟩, ⟨m2, f2⟩, ⟨m3, f3⟩, ⟨m4, f4⟩⟩ := hW.mark hx
 have HW := Lib.hid hW
 have HX := Lib.hid hx
 have HKX := Lib.hid hkx
 have HKK := Lib.hid hkk
 clear hW hx hk hkx hkk
 obtain ⟨y, hy⟩ : ∃ y, (if x.got + 1 = k.need then ({ x with got := x.got + 1 } : Mk).endS 3 else { x with got := x.got + 1 }) = y := ⟨_, rfl⟩
 rw [hy]
 have HY := Lib.hid hy
 clear hy
 go_enter Tryz.func78, Tryz.ntmps78
 go_upto_region 1 with (fail)
 refine name_wp ?_
 intro Z hZ
 have hZ2 : Hid (Wk w0 Z b c m { s with marks := s.marks.set i { x with got := x.got + 1 } } q) := by
  unfold Hid; rw [hZ]; exact HW.out.setM (j := 2) (y := { x with got := x.got + 1 }) HX.out (by omega) rfl
 have hZ3 : Hid (Kept w Z (· = q.m)) := by
  unfold Hid; rw [hZ]; exact (Kept.refl w _).setCell rfl
 clear hZ k10 m0 f0 m1 f1 m2 f2 m3 f3 m4 f4
 have hx2 : (s.marks.set i { x with got := x.got + 1 })[i]? = some { x with got := x.got + 1 } := List.getElem?_set_self him
 have hml : (s.marks.set i { x with got := x.got + 1 }).length = s.marks.length := List.length_set
 have k10 : Z.cell? ⟨b, 10, none⟩ = some (.slice (some ⟨q.m, 0, none⟩) s.marks.length q.mc) := by rw [← hml]; exact hZ2.out.g.cell 10
 have k4 : Z.cell? ⟨b, 4, none⟩ = some (.slice m.k c.cl.length m.kc) := hZ2.out.g.cell 4
 have m2 : Z.cell? ⟨q.m, i * 5 + 2, none⟩ = some (.int .i64 (x.got + 1)) := (hZ2.out.mark hx2).2.2.1.1
 obtain ⟨b0, o0, eA0, hb0, hc0⟩ := segAt hZ2.out.cont.k HKX.out
 have hix0 := fun W => idx_at (t := 25) (size := 16) (cap := m.kc) eA0 hik (by kernel_rfl) (fun W => by kernel_rfl) W
 have c3 : Z.cell? ⟨b0, o0 + i * 16 + 3, none⟩ = some (.int .i64 k.need) := by rw [← HKK.out]; exact hc0 3 _ rfl
 have HX2 := Lib.hid hx2
 clear hc0 eA0 hx2 hml
 have rg0 := cell_regrown k10
 have rg1 := cell_regrown k4
 have rg2 := cell_regrown m2
 have rg3 := cell_regrown c3
 refine wp_region_qt [0, 1, 2, 3, 4, 5, 6, 7, 8, 9, 10, 11, 12, 13, 14, 15, 16, 17, 18] [] (by kernel_rfl) (by kernel_rfl) (by repeat (first | with_reducible refine panOk_then ?_ | with_reducible refine panOk_block ?_ | exact panOk_body)) ?_
 simp only [opsAt, List.getElem?_toArray, List.getElem?_cons_succ, List.getElem?_cons_zero, Option.toList_some, List.cons_append, List.nil_append]
 repeat (go_big_quiet_step (skip))
 refine wpQuiet_nil ?_
 intro Y hw2
 have hbY := qt_world hw2
 clear hw2 rg0 rg1 rg2 rg3
 refine wpList_nil ?_
 have HE := Lib.hid (end_any w0 b c m { s with marks := s.marks.set i { x with got := x.got + 1 } } q i _ 3 Y (hZ2.out.then_ hbY) HX2.out)
 cases he : (x.got + 1 == k.need) with
 | true =>
  have he2 : x.got + 1 = k.need := by simpa using he
  have HI : Hid (y = ({ x with got := x.got + 1 } : Mk).endS 3) := by unfold Hid; rw [← HY.out, if_pos he2]
  clear he2
  go_wp2_with (go_at_call 108; (with_reducible refine HE.out.mono ?_); rintro e w1 h1; obtain ⟨rfl, h2⟩ := Eff.of_end (hZ3.out.trans (Kept.of_below hbY)) h1)
  go_end0
  rw [HI.out]
  exact ⟨rfl, h2⟩
 | false =>
  have he2 : ¬ (x.got + 1 = k.need) := by simpa using he
  have HI : Hid (y = { x with got := x.got + 1 }) := by unfold Hid; rw [← HY.out, if_neg he2]
  clear he2
  go_wp2
  go_end0
  rw [HI.out]
  exact ⟨rfl, hZ2.out.then_ hbY, hZ3.out.trans (Kept.of_below hbY)⟩
set_option maxRecDepth 100000 in
set_option maxHeartbeats 6400000 in
theorem expire_any (w0 : World) (b : Nat) (c : Con) (m : Cm) (s : Sta) (q : Qn) (i : Nat) (x : Mk) (k : Cla) (w : World) (hW : Wk w0 w b c m s q) (hx : s.marks[i]? = some x) (hk : c.cl[i]? = some k) :
  Calls Tryz.prog 74 #[.pointer (some ⟨b, 0, none⟩), .int .i64 (i : Nat)] w fun e w' => Eff w0 w b c m s q i (if x.st = 1 ∧ 0 < k.grace then { x with st := 2, left := k.grace } else x.endS 4) e w' := by
 have him : i < s.marks.length := (List.getElem?_eq_some_iff.1 hx).1
 have hik : i < c.cl.length := (List.getElem?_eq_some_iff.1 hk).1
 have hix := fun W => idx_own (t := 41) (size := 5) (g := q.m) (cap := q.mc) him (by kernel_rfl) (fun W => by kernel_rfl) W
 have nm := hW.nm
 have nk := hW.cn.nk
 obtain ⟨kx, hkx, hkk⟩ := km_at hW.cn.e hk
 have k10 : w.cell? ⟨b, 10, none⟩ = some (.slice (some ⟨q.m, 0, none⟩) s.marks.length q.mc) := hW.g.cell 10
 have k4 : w.cell? ⟨b, 4, none⟩ = some (.slice m.k c.cl.length m.kc) := hW.g.cell 4
 obtain ⟨⟨m0, f0⟩, ⟨m1, f1⟩, ⟨m2, f2⟩, ⟨m3, f3⟩, ⟨m4, f4⟩⟩ := hW.mark hx
 obtain ⟨b0, o0, eA0, hb0, hc0⟩ := segAt hW.cont.k hkx
 have hix0 := fun W => idx_at (t := 25) (size := 16) (cap := m.kc) eA0 hik (by kernel_rfl) (fun W => by kernel_rfl) W
 have c6 : w.cell? ⟨b0, o0 + i * 16 + 6, none⟩ = some (.int .i64 k.grace) := by rw [← hkk]; exact hc0 6 _ rfl
 have HW := Lib.hid hW
 have HX := Lib.hid hx
 have HE := Lib.hid (end_any w0 b c m s q i x 4 w hW hx)
 clear hW hx hk hkx hkk hc0 eA0
 cases t1 : (x.st == 1) with
 | false =>
  have h1 : ¬ (x.st = 1 ∧ 0 < k.grace) := fun h => by simp [h.1] at t1
  rw [if_neg h1]
  clear h1
  go_enter Tryz.func74, Tryz.ntmps74
  go_wp2_with (go_at_call 108; (with_reducible refine HE.out.mono ?_); rintro e w1 ⟨rfl, h1, h2⟩)
  go_end0
  exact ⟨rfl, h1, h2⟩
 | true =>
 by_cases hg : 0 < k.grace
 ·have t2 := decide_eq_true hg
  have h1 : x.st = 1 ∧ 0 < k.grace := ⟨by simpa using t1, hg⟩
  rw [if_pos h1]
  clear h1 hg
  go_enter Tryz.func74, Tryz.ntmps74
  go_upto_region 1 with (fail)
  have rg0 := cell_regrown k10
  have rg1 := cell_regrown k4
  have rg2 := cell_regrown m0
  have rg3 := cell_regrown c6
  refine wp_region_qp [11] [0, 1, 2, 3, 4, 5, 6, 7, 8, 9, 10, 12, 13, 14, 15, 16, 17, 18, 19, 20] [21, 22, 23, 24, 25, 26] (by kernel_rfl) (by kernel_rfl) (by repeat (first | with_reducible refine panOk_then ?_ | with_reducible refine panOk_block ?_ | exact panOk_body)) ?_
  simp only [opsAt, List.getElem?_toArray, List.getElem?_cons_succ, List.getElem?_cons_zero, Option.toList_some, List.cons_append, List.nil_append]
  repeat (go_big_quiet_step (skip))
  refine wpQuiet_nil ?_
  intro X hw2
  have hbX := qt_world hw2
  clear hw2 rg0 rg1 rg2 rg3
  obtain ⟨⟨n0, g0⟩, ⟨n1, g1⟩, _⟩ := (HW.out.then_ hbX).mark HX.out
  have HX2 := Lib.hid (HW.out.then_ hbX)
  go_wp2
  go_end0
  refine ⟨rfl, ?_, ?_⟩
  ·have h1 := HX2.out.setM (j := 0) (y := { x with st := 2 }) (v := .int .i64 2) HX.out (by omega) rfl
   have h2 := h1.setM (i := i) (j := 1) (x := { x with st := 2 }) (y := { x with st := 2, left := k.grace }) (v := .int .i64 k.grace) (by simp [him]) (by omega) rfl
   simpa using h2
  ·exact ((Kept.of_below (p := (· = q.m)) hbX).setCell rfl).setCell rfl
 ·have t2 := decide_eq_false hg
  have h1 : ¬ (x.st = 1 ∧ 0 < k.grace) := fun h => hg h.2
  rw [if_neg h1]
  clear h1 hg
  go_enter Tryz.func74, Tryz.ntmps74
  go_wp2_with (go_at_call 108; (with_reducible refine HE.out.mono ?_); rintro e w1 ⟨rfl, h1, h2⟩)
  go_end0
  exact ⟨rfl, h1, h2⟩
end Go.Proofs.YtginnonjdbpamaaGreatDoor
/- 'for i, x := range l' at a struct: the load, the new variable, an assignment, the store. -/
namespace Go.Proofs.YtginnonjdbpamaaGreatDoor
open Go.RowKit
theorem wpList_elem4 {P : Program} {ops : Array Oper} {rest : List Oper} {o1 o2 oa o3 : Oper} {a : Act} {w : World} {Q : Exit → Act → World → Prop} {n : Nat} (ty : TypeId) (E : ElT P ty n) (x y : Operand) (d1 d2 d3 : Tmp)
  (g1 : o1.guard = none) (g2 : o2.guard = none) (ga : oa.guard = none) (g3 : o3.guard = none)
  (ho1 : o1.op = .load ty x) (hd1 : o1.dst = some d1) (ho2 : o2.op = .alloc ty) (hd2 : o2.dst = some d2) (hoa : oa.op = .assign y) (hda : oa.dst = some d3) (ho3 : o3.op = .store ty (.tmp d2) (.tmp d1)) (hd3 : o3.dst = none)
  (b o : Nat) (hx : a.eval x = .pointer (some ⟨b, o, none⟩)) (cs : List Value) (hn : cs.length = n) (hc : w.rangeAt b o cs) (h1 : ∀ v ∈ cs, v.oneCell' = true) (hne : d1 ≠ d2) (hne1 : d3 ≠ d1) (hne2 : d3 ≠ d2) (s1 : d1 < a.tmps.size) (s2 : d2 < a.tmps.size)
  (u : Value) (hyu : ((a.put (some d1) (.agg cs.toArray)).put (some d2) (.pointer (some ⟨w.heap.size, 0, none⟩))).eval y = u)
  (h : wpList P ops Q rest (((a.put (some d1) (.agg cs.toArray)).put (some d2) (.pointer (some ⟨w.heap.size, 0, none⟩))).put (some d3) u) (w.alloc (.cells cs.toArray ty))) : wpList P ops Q (o1 :: o2 :: oa :: o3 :: rest) a w := by
 subst hn hyu
 obtain ⟨⟨fs, hu⟩, hi, v, hz, hzr⟩ := E
 refine wpList_load_mid g1 ty x ho1 b o hx cs _ hc hu rfl hi ?_
 rw [hd1]
 refine wpList_plain g2 fun K hK => ?_
 have hrun : (execOp (Act.eval (a.put (some d1) (.agg cs.toArray))) o2).run P w = .ok (.value (.pointer (some ⟨w.heap.size, 0, none⟩))) (w.alloc (.cells v.cells ty)) := by
  unfold execOp
  simp only [ho2, Instr.alloc, Sem.run_bind, hzr, Result.andThen_ok, newVar, newRow]
  rfl
 unfold Oper.wp
 rw [hrun, Oper.upon_value]
 refine hK _ _ ?_
 rw [hd2]
 refine wpList_plain ga fun K hK => ?_
 unfold Oper.wp execOp
 simp only [hoa]
 refine hK _ _ ?_
 rw [hda]
 refine wpList_store_mid g3 ty _ _ ho3 w.heap.size 0 cs.toArray ?_ ?_ ?_ (by simpa using hi) (all_oneCell_toArray h1) ?_
 ·simp [Act.eval, Act.put, Array.getElem?_setIfInBounds, hne2, s2]
 ·simp [Act.eval, Act.put, Array.getElem?_setIfInBounds, hne.symm, hne1, s1]
 ·intro j hj
  simp only [Nat.zero_add, List.size_toArray] at hj ⊢
  rw [World.cell?_alloc_at _ _ _ _ rfl, World.frozen?_alloc_at _ _ _ _ rfl]
  simp [hz, hj]
 ·rw [hd3]
  simp only
  rw [setCells_new0 w ty _ cs hz]
  exact h
end Go.Proofs.YtginnonjdbpamaaGreatDoor
/- The walk of the method start: all clauses that can start. -/
namespace Go.Proofs.YtginnonjdbpamaaGreatDoor
open Go.RowKit
def isZ : Option Value → Bool
 | some (.int _ z) => z == 0
 | _ => false
def cntI (w : World) (g n : Nat) : Nat := (List.range n).countP fun i => isZ (w.cell? ⟨g, i * 5, none⟩)
def boolN : Value → Nat
 | .bool true => 1
 | _ => 0
theorem countP_get {α : Type} (p : α → Bool) : ∀ (l : List α) (f : Nat → Bool), (∀ i x, l[i]? = some x → f i = p x) → (List.range l.length).countP f = l.countP p
 | [], _, _ => rfl
 | a :: l, f, h => by
  have ih := countP_get p l (fun i => f (i + 1)) (fun i x hx => h (i + 1) x (by simpa using hx))
  have h0 := h 0 a rfl
  rw [List.length_cons, List.range_succ_eq_map, List.countP_cons, List.countP_map, List.countP_cons, h0]
  congr 1
theorem cntI_eq {w0 w : World} {b : Nat} {c : Con} {m : Cm} {s : Sta} {q : Qn} (h : Wk w0 w b c m s q) : cntI w q.m c.cl.length = idles s.marks := by
 unfold cntI idles
 rw [← h.lm]
 exact countP_get _ s.marks _ fun i x hx => by
  rw [(h.mark hx).1.1]
  rfl
theorem rdy_at {c : Con} {ms : List Mk} {i : Nat} {k : Cla} {x : Mk} (hk : c.cl[i]? = some k) (hx : ms[i]? = some x) : rdy c ms i = (x.st == 0 && !k.waived && k.start.all fun y => condHolds y.2 (stOf ms y.1)) := by
 unfold rdy
 rw [hk, hx]
theorem ok_cond {c : Con} (h : c.ok = true) {k : Cla} (hk : k ∈ c.cl) : ∀ y ∈ k.start, 0 ≤ y.1 ∧ y.1 < (c.cl.length : Int) ∧ 1 ≤ y.2 ∧ y.2 ≤ 4 := by
 intro y hy
 unfold Con.ok at h
 simp only [Bool.and_eq_true] at h
 obtain ⟨i, hi⟩ := List.getElem?_of_mem hk
 have h2 := (c.clsOk_iff c.cl 0).1 h.2 i k hi
 unfold Con.claOk at h2
 simp only [Bool.and_eq_true, List.all_eq_true] at h2
 have h3 := h2.1.1.2 y hy
 unfold condOk at h3
 simp only [Bool.and_eq_true, decide_eq_true_eq] at h3
 have := isI_iff.1 h3.1.1.1
 exact ⟨this.1, this.2, h3.1.2, h3.2⟩
theorem Own.capLe {α : Type} {w : World} {B : Nat} {T : TypeId} {size : Nat} {enc : α → List Value} {g n cap : Nat} {xs : List α} (h : Own w B T size enc (.slice (some ⟨g, 0, none⟩) n cap) xs) : xs.length ≤ cap := by
 rcases h.2 with ⟨h1, _⟩ | ⟨g', cap', cur, hv, hg, hh, hc, _⟩
 ·cases h1
 ·cases hv
  exact hc
section
variable {w0 w w' : World} {b : Nat} {c : Con} {m : Cm} {s : Sta} {q : Qn}
theorem Wk.stm (h : Wk w0 w b c m s q) : Stm w s q.q :=
 ⟨h.oh.segA eI_len, h.ou.segA eB_len, h.om.segA eM_len, h.nh, h.nu, h.nm, h.oh.capLe, h.ou.capLe, h.om.capLe⟩
theorem Wk.setWhole (h : Wk w0 w b c m s q) {i : Nat} {x : Mk} (y : Mk) (hx : s.marks[i]? = some x) : Wk w0 (w.setCells q.m (i * 5) (mL y)) b c m { s with marks := s.marks.set i y } q := by
 have e : (s.marks.set i y).length = s.marks.length := List.length_set
 have u : Upd w (w.setCells q.m (i * 5) (mL y)) q.m := Upd.setCells _ _ _ (Upd.refl _ _)
 refine ⟨?_, h.oh.upd u (by intro k hk; cases hk; exact h.hm), h.ou.upd u (by intro k hk; cases hk; exact h.um), ?_, h.hb.trans (u.b _ h.om.lt_.1), h.lb, h.cn, e.trans h.lm, h.nh, h.nu⟩
 ·have h2 := h.g.upd u h.bm
  unfold wkA at h2 ⊢
  rw [show ({ s with marks := s.marks.set i y } : Sta).marks.length = s.marks.length from e]
  exact h2
 ·have h2 := h.om.setPart eM_len rfl (k := i) (j := 0) (y := y) (vs := mL y) hx (by simp) rfl
  rw [show ({ s with marks := s.marks.set i y } : Sta).marks.length = s.marks.length from e]
  exact h2
end
structure SI (w0 w WR : World) (b : Nat) (c : Con) (m : Cm) (s : Sta) (q : Qn) (SA : List Mk) (again : Bool) (ms : List Mk) : Prop where
 wk : Wk w0 WR b c m { s with marks := ms } q
 k : Kept w WR (· = q.m)
 t : again = true → ∃ n, idles ms < n ∧ starts c s.hol n ms = SA
 f : again = false → ms = SA
structure SJ (w0 w WR : World) (b : Nat) (c : Con) (m : Cm) (s : Sta) (q : Qn) (ms0 : List Mk) (i : Nat) (again : Bool) (ms : List Mk) : Prop where
 wk : Wk w0 WR b c m { s with marks := ms } q
 k : Kept w WR (· = q.m)
 e : (List.range i).foldl (start1 c s.hol) (ms0, false) = (ms, again)
theorem SJ.skip {w0 w WR WR' : World} {b : Nat} {c : Con} {m : Cm} {s : Sta} {q : Qn} {ms0 : List Mk} {i : Nat} {again : Bool} {ms : List Mk} (h : SJ w0 w WR b c m s q ms0 i again ms) (hb : Below WR.heap.size WR WR') (hr : rdy c ms i = false) : SJ w0 w WR' b c m s q ms0 (i + 1) again ms :=
 ⟨h.wk.then_ hb, h.k.trans (Kept.of_below hb), by rw [List.range_succ, List.foldl_append, h.e]; simp [start1, hr]⟩
theorem SJ.set_ {w0 w WR WR' : World} {b : Nat} {c : Con} {m : Cm} {s : Sta} {q : Qn} {ms0 : List Mk} {i : Nat} {again : Bool} {ms : List Mk} {k : Cla} {x y : Mk} (h : SJ w0 w WR b c m s q ms0 i again ms) (hb : Below WR.heap.size WR WR') (hk : c.cl[i]? = some k) (hx : ms[i]? = some x) (hr : rdy c ms i = true) (hy : y = live k s.hol) :
  SJ w0 w (WR'.setCells q.m (i * 5) (mL y)) b c m s q ms0 (i + 1) true (ms.set i y) :=
 ⟨(h.wk.then_ hb).setWhole y hx, (h.k.trans (Kept.of_below hb)).trans (Kept.of_upd (Upd.setCells _ _ _ (Upd.refl _ _)) rfl), by rw [List.range_succ, List.foldl_append, h.e]; simp [start1, hr, hk, hy]⟩
set_option maxRecDepth 100000 in
set_option maxHeartbeats 6400000 in
theorem start_any (w0 : World) (b : Nat) (c : Con) (m : Cm) (s : Sta) (q : Qn) (w : World) (hW : Wk w0 w b c m s q) (hok : c.ok = true) (hl : s.hol.length = c.hold.length) :
  Calls Tryz.prog 52 #[.pointer (some ⟨b, 0, none⟩)] w fun e w' => e = .returned (.tuple #[]) ∧ Wk w0 w' b c m { s with marks := startAll c s.hol s.marks } q ∧ Kept w w' (· = q.m) := by
 obtain ⟨SA, hSA⟩ : ∃ l, startAll c s.hol s.marks = l := ⟨_, rfl⟩
 rw [hSA]
 have h0 : Hid (SI w0 w w b c m s q SA true s.marks) := ⟨hW, Kept.refl _ _, fun _ => ⟨c.cl.length + 1, by have := idles_le s.marks; rw [hW.lm] at this; omega, hSA⟩, fun h => by cases h⟩
 have nk := hW.cn.nk
 have nm := hW.nm
 have nh := hW.nh
 have HOK := Lib.hid hok
 have HL := Lib.hid hl
 clear hSA hW hok hl
 go_enter Tryz.func52, Tryz.ntmps52
 go_upto_region 1 with (fail)
 go_loopw [2] (fun y WR => ∃ (again : Bool) (ms : List Mk), y = .bool again ∧ Hid (SI w0 w WR b c m s q SA again ms)) (fun y WR => 2 * cntI WR q.m c.cl.length + boolN y)
 case atStart => exact ⟨true, s.marks, rfl, h0⟩
 case round =>
  obtain ⟨again, ms, rfl, hI⟩ := hrel
  clear h0
  cases again with
  | false =>
   have hz := Lib.hid (hI.out.f rfl)
   have hw := Lib.hid hI.out.wk
   have hk := Lib.hid hI.out.k
   clear hI
   go_wp2
   go_end0
   rw [← hz.out]
   exact ⟨rfl, hw.out, hk.out⟩
  | true =>
   have k4 : wr.cell? ⟨b, 4, none⟩ = some (.slice m.k c.cl.length m.kc) := hI.out.wk.g.cell 4
   have hJ0 : Hid (SJ w0 w wr b c m s q ms 0 false ms) := ⟨hI.out.wk, hI.out.k, rfl⟩
   have hmeas : Hid (cntI wr q.m c.cl.length = idles ms) := cntI_eq hI.out.wk
   obtain ⟨wo, rfl⟩ : ∃ wo : World, wo = wr := ⟨_, rfl⟩
   go_upto_region 4 with (fail)
   clear k4
   go_loopw [13, 2] (fun y v WR => ∃ (i : Nat) (again : Bool) (ms' : List Mk), i ≤ c.cl.length ∧ y = .int .i64 i ∧ v = .bool again ∧ Hid (SJ w0 w WR b c m s q ms i again ms')) (fun y _ _ => 2000000 - (intOf y).toNat)
   case atStart => exact ⟨0, false, ms, by omega, rfl, rfl, hJ0⟩
   case round =>
    obtain ⟨i, again, ms', hi', rfl, rfl, hJ⟩ := hrel
    clear hJ0
    by_cases hlt : i < c.cl.length
    case neg =>
     have hin : i = c.cl.length := by omega
     have he := hJ.out.e
     rw [hin] at he
     have hp : pass c s.hol ms = (ms', again) := he
     obtain ⟨_, _, ⟨_, h4⟩, _⟩ := fold_ok c s.hol (List.range c.cl.length) ms false
     have hlt2 : again = true → idles ms' < idles ms := fun e => by
      have h5 := h4 (by rw [show (List.range c.cl.length).foldl (start1 c s.hol) (ms, false) = (ms', again) from he]; exact e)
      rw [show (List.range c.cl.length).foldl (start1 c s.hol) (ms, false) = (ms', again) from he] at h5
      rcases h5 with h5 | h5
      ·cases h5
      ·exact h5
     obtain ⟨n, hn, hst⟩ := hI.out.t rfl
     have hN : SI w0 w wr b c m s q SA again ms' := by
      refine ⟨hJ.out.wk, hJ.out.k, fun e => ?_, fun e => ?_⟩
      ·cases n with
       | zero => omega
       | succ n =>
        refine ⟨n, by have := hlt2 e; omega, ?_⟩
        rw [← hst]
        show _ = (if (pass c s.hol ms).2 then starts c s.hol n (pass c s.hol ms).1 else (pass c s.hol ms).1)
        rw [hp, e]
        rfl
      ·cases n with
       | zero => omega
       | succ n =>
        rw [← hst]
        show _ = (if (pass c s.hol ms).2 then starts c s.hol n (pass c s.hol ms).1 else (pass c s.hol ms).1)
        rw [hp, e]
        rfl
     have hmeas2 : Hid (2 * cntI wr q.m c.cl.length + boolN (.bool again) < 2 * cntI wo q.m c.cl.length + 1) := by
      unfold Hid
      rw [hmeas.out, cntI_eq hN.wk]
      have hle : idles ms' ≤ idles ms := by
       obtain ⟨_, _, _, h5⟩ := fold_ok c s.hol (List.range c.cl.length) ms false
       rw [show (List.range c.cl.length).foldl (start1 c s.hol) (ms, false) = (ms', again) from he] at h5
       exact h5
      cases again with
      | true => have := hlt2 rfl; show 2 * idles ms' + 1 < _; omega
      | false => show 2 * idles ms' + 0 < _; omega
     have HN := Lib.hid hN
     have tl : decide ((i : Int) < (c.cl.length : Int)) = false := decide_eq_false (by omega)
     clear hN he hp h4 hlt2 hst hn hJ hI hin hmeas
     go_wp2
     go_roundw
     case rel => exact ⟨again, ms', rfl, HN⟩
     case measure => exact hmeas2.out
    obtain ⟨k, hk⟩ : ∃ k, c.cl[i]? = some k := ⟨_, List.getElem?_eq_getElem hlt⟩
    obtain ⟨kx, hkx, hkk⟩ := km_at hJ.out.wk.cn.e hk
    have hlm : ms'.length = c.cl.length := hJ.out.wk.lm
    obtain ⟨x, hx⟩ : ∃ x, ms'[i]? = some x := ⟨_, List.getElem?_eq_getElem (by omega)⟩
    have HLM := Lib.hid hlm
    have HK := Lib.hid hk
    have HX := Lib.hid hx
    have HKX := Lib.hid hkx
    have hkv := ok_kv HOK.out (List.mem_of_getElem? hk)
    have HR := Lib.hid (rdy_at hk hx)
    obtain ⟨b0, o0, eA0, hb0, hc0⟩ := segAt hJ.out.wk.cont.k hkx
    have hrg : wr.rangeAt b0 (o0 + i * 16) (kL kx) := fun j v hv => hc0 j v hv
    have hix := fun W => idx_at (t := 25) (size := 16) (cap := m.kc) eA0 hlt (by kernel_rfl) (fun W => by kernel_rfl) W
    have tl : decide ((i : Int) < (c.cl.length : Int)) = true := decide_eq_true (by omega)
    have nm' : ms'.length ≤ 1000000 := by omega
    have hlt' : i < ms'.length := by omega
    clear hk hx hkx hc0 eA0 hlm
    go_upto_region 6 with (refine wpList_elem4 52 el16 _ _ _ _ _ rfl rfl rfl rfl rfl rfl rfl rfl rfl rfl rfl rfl b0 _ rfl (kL kx) rfl hrg (by simp [Value.oneCell']) (by decide) (by decide) (by decide) (by simp) (by simp) (.int .i64 (i : Nat)) rfl ?_; simp only [Act.put, List.setIfInBounds_toArray, List.set_cons_succ, List.set_cons_zero])
    refine name_wp ?_
    intro Z hZ
    have gk : Blk Z wr.heap.size 52 (kL kx).toArray := by rw [hZ]; exact Blk.new _ _ _
    have HZ : Hid (Below wr.heap.size wr Z) := by rw [hZ]; exact wa1 _ _
    obtain ⟨bk, ebk⟩ : ∃ b, wr.heap.size = b := ⟨_, rfl⟩
    have HEK := Lib.hid ebk
    rw [ebk] at gk ⊢
    have hJZ := Lib.hid (hJ.out.wk.then_ HZ.out)
    clear hZ hrg hix ebk
    have HRD : Hid (∀ W, Below Z.heap.size Z W → Calls Tryz.prog 64 #[.agg #[.int .i64 c.par, .slice m.h c.hold.length m.hc, .slice m.u c.un.length m.uc, .slice m.a c.ac.length m.ac, .slice m.k c.cl.length m.kc, .int .i64 c.days, .slice m.o c.off.length m.oc],
      .agg #[.int .i64 s.day, .slice (some ⟨q.h, 0, none⟩) s.hol.length q.hc, .slice (some ⟨q.u, 0, none⟩) s.used.length q.uc, .slice (some ⟨q.m, 0, none⟩) ms'.length q.mc], .int .i64 (i : Nat)] W fun e w' => e = .returned (.bool (rdy c ms' i)) ∧ Below W.heap.size W w') := fun W hb =>
     ready_any c m { s with marks := ms' } q.q i x kx W ((hJZ.out.then_ hb).cont) ((hJZ.out.then_ hb).stm) HX.out HKX.out
      (by rw [hkk]; rw [show ({ s with marks := ms' } : Sta).marks.length = c.cl.length from HLM.out]; exact ok_cond HOK.out (List.mem_of_getElem? HK.out)) (rdy c ms' i) (by rw [HR.out, hkk])
    have gz := hJZ.out.g
    obtain ⟨k0, k1, k2, k3, k4, k5, k6⟩ := coC (c := c) (m := m) gz rfl
    have k7 : Z.cell? ⟨b, 7, none⟩ = some (.int .i64 s.day) := gz.cell 7
    have k8 : Z.cell? ⟨b, 8, none⟩ = some (.slice (some ⟨q.h, 0, none⟩) s.hol.length q.hc) := gz.cell 8
    have k9 : Z.cell? ⟨b, 9, none⟩ = some (.slice (some ⟨q.u, 0, none⟩) s.used.length q.uc) := gz.cell 9
    have k10 : Z.cell? ⟨b, 10, none⟩ = some (.slice (some ⟨q.m, 0, none⟩) ms'.length q.mc) := gz.cell 10
    clear gz
    obtain ⟨R, hR⟩ : ∃ r, rdy c ms' i = r := ⟨_, rfl⟩
    rw [hR] at HRD
    have HRR := Lib.hid hR
    clear hR HR
    have rg0 := cell_regrown k0
    have rg1 := cell_regrown k1
    have rg2 := cell_regrown k2
    have rg3 := cell_regrown k3
    have rg4 := cell_regrown k4
    have rg5 := cell_regrown k5
    have rg6 := cell_regrown k6
    have rg7 := cell_regrown k7
    have rg8 := cell_regrown k8
    have rg9 := cell_regrown k9
    have rg10 := cell_regrown k10
    refine wp_region_qt [0, 1, 2, 3, 4, 5, 6, 7, 8, 9, 10] [] (by kernel_rfl) (by kernel_rfl) (by repeat (first | with_reducible refine panOk_then ?_ | with_reducible refine panOk_block ?_ | exact panOk_body)) ?_
    simp only [opsAt, List.getElem?_toArray, List.getElem?_cons_succ, List.getElem?_cons_zero, Option.toList_some, List.cons_append, List.nil_append]
    repeat (go_big_quiet_step ((go_at_call 64; with_reducible exact qt_call (fun W' hW' => HRD.out W' hW') _ _)))
    refine wpQuiet_nil ?_
    intro Y hw2
    have hbY := qt_world hw2
    clear hw2 rg0 rg1 rg2 rg3 rg4 rg5 rg6 rg7 rg8 rg9 rg10
    refine wpList_done ?_
    have HY : Hid (Below wr.heap.size wr Y) := below_then HZ.out hbY
    have gY := gk.then_ hbY
    have hJY := Lib.hid (hJZ.out.then_ hbY)
    clear gk hJZ HZ hbY k0 k1 k2 k3 k4 k5 k6 k7 k8 k9 k10 HRD
    cases R with
    | false =>
     have hN := Lib.hid (hJ.out.skip HY.out HRR.out)
     clear hJ hJY gY
     go_wp2
     go_roundw
     case rel => exact ⟨i + 1, again, ms', by omega, by simp, rfl, hN⟩
     case measure => simp [intOf]; omega
    | true =>
     have c0 : Y.cell? ⟨bk, 0, none⟩ = some (.int .i64 k.kind) := by rw [← hkk]; exact gY.cell 0
     have c1 : Y.cell? ⟨bk, 1, none⟩ = some (.int .i64 k.role) := by rw [← hkk]; exact gY.cell 1
     have c5 : Y.cell? ⟨bk, 5, none⟩ = some (.int .i64 k.aft) := by rw [← hkk]; exact gY.cell 5
     have k10 : Y.cell? ⟨b, 10, none⟩ = some (.slice (some ⟨q.m, 0, none⟩) ms'.length q.mc) := hJY.out.g.cell 10
     have hix1 := fun W => idx_own (t := 41) (size := 5) (g := q.m) (cap := q.mc) hlt' (by kernel_rfl) (fun W => by kernel_rfl) W
     cases t4 : (k.kind == 4) with
     | true =>
      have t4' : (k.kind != 4) = false := by simp [bne, t4]
      have hlv : Hid ((⟨1, k.aft, 0, -1, false⟩ : Mk) = live k s.hol) := by
       unfold Hid live; rw [if_pos (by simpa using t4)]
      go_upto_region 10 with (fail)
      have rg0 := cell_regrown k10
      have rg1 := cell_regrown c5
      refine wp_region_qt [0, 1, 2, 3, 4, 5, 6, 7, 8, 9] [10, 11] (by kernel_rfl) (by kernel_rfl) (by repeat (first | with_reducible refine panOk_then ?_ | with_reducible refine panOk_block ?_ | exact panOk_body)) ?_
      simp only [opsAt, List.getElem?_toArray, List.getElem?_cons_succ, List.getElem?_cons_zero, Option.toList_some, List.cons_append, List.nil_append]
      repeat (go_big_quiet_step (skip))
      refine wpQuiet_nil ?_
      intro V hw2
      have hbV := qt_world hw2
      clear hw2 rg0 rg1
      have hMV := Lib.hid (hJY.out.then_ hbV)
      have hth : V.there q.m (i * 5) ([.int .i64 1, .int .i64 k.aft, .int .i64 0, .int .i64 (-1), .bool false] : List Value).length := by have := hMV.out.om.there eM_len rfl HX.out (j := 0) (c := 5) (by omega); simpa using this
      have hVV : Hid (Below wr.heap.size wr V) := below_then HY.out hbV
      go_upto_region 11 with (refine wpList_store_part rfl 46 _ _ rfl rfl q.m (i * 5) [.int .i64 1, .int .i64 k.aft, .int .i64 0, .int .i64 (-1), .bool false] rfl rfl (by exact hth) (by kernel_rfl) (by simp [Value.oneCell']) ?_)
      refine name_wp ?_
      intro V2 hV2
      have hN := Lib.hid (hJ.out.set_ (y := ⟨1, k.aft, 0, -1, false⟩) hVV.out HK.out HX.out HRR.out hlv.out)
      rw [show V.setCells q.m (i * 5) _ = V2 from hV2.symm] at hN
      clear hV2 hth
      go_wp2
      go_roundw
      case rel => exact ⟨i + 1, true, ms'.set i ⟨1, k.aft, 0, -1, false⟩, by omega, by simp, rfl, hN⟩
      case measure => simp [intOf]; omega
     | false =>
      have t4' : (k.kind != 4) = true := by simp [bne, t4]
      have t4n : k.kind ≠ 4 := by simpa using t4
      have hrl := hkv.r t4n
      obtain ⟨r, hr⟩ : ∃ r : Nat, k.role = (r : Int) := ⟨k.role.toNat, by omega⟩
      have hrlt : r < s.hol.length := by have := HL.out; omega
      obtain ⟨hv, hhv⟩ : ∃ v, s.hol[r]? = some v := ⟨_, List.getElem?_eq_getElem hrlt⟩
      have hlv : Hid ((⟨1, k.aft, 0, hv, false⟩ : Mk) = live k s.hol) := by
       unfold Hid live roleOf; rw [if_neg t4n, hr, Int.toNat_natCast, List.getD_eq_getElem?_getD, hhv]; rfl
      have h0 : Y.cell? ⟨q.h, r, none⟩ = some (.int .i64 hv) := by
       have := (hJY.out.oh.getAt eI_len rfl hhv (j := 0) (by omega)).1
       simpa [eI] using this
      have hix2 := fun W => idx_own (t := 22) (size := 1) (g := q.h) (cap := q.hc) hrlt (by kernel_rfl) (fun W => by kernel_rfl) W
      simp only [Nat.mul_one] at hix2
      have k8 : Y.cell? ⟨b, 8, none⟩ = some (.slice (some ⟨q.h, 0, none⟩) s.hol.length q.hc) := hJY.out.g.cell 8
      rw [hr] at c1
      clear hr hhv t4n hrl hkv
      go_upto_region 9 with (fail)
      have rg0 := cell_regrown k8
      have rg1 := cell_regrown c1
      have rg2 := cell_regrown h0
      refine wp_region_qt [0, 1, 2, 3, 4, 5, 6, 7, 8] [9] (by kernel_rfl) (by kernel_rfl) (by repeat (first | with_reducible refine panOk_then ?_ | with_reducible refine panOk_block ?_ | exact panOk_body)) ?_
      simp only [opsAt, List.getElem?_toArray, List.getElem?_cons_succ, List.getElem?_cons_zero, Option.toList_some, List.cons_append, List.nil_append]
      repeat (go_big_quiet_step (skip))
      refine wpQuiet_nil ?_
      intro U hw2
      have hbU := qt_world hw2
      clear hw2 rg0 rg1 rg2
      have hUb : Hid (Below Y.heap.size Y U) := hbU
      have c5' : U.cell? ⟨bk, 5, none⟩ = some (.int .i64 k.aft) := by rw [← hkk]; exact (gY.then_ hbU).cell 5
      have k10' : U.cell? ⟨b, 10, none⟩ = some (.slice (some ⟨q.m, 0, none⟩) ms'.length q.mc) := (hJY.out.then_ hbU).g.cell 10
      clear hbU c5 k10 c0 c1 h0 k8
      go_upto_region 10 with (fail)
      have rg0 := cell_regrown k10'
      have rg1 := cell_regrown c5'
      refine wp_region_qt [0, 1, 2, 3, 4, 5, 6, 7, 8, 9] [10, 11] (by kernel_rfl) (by kernel_rfl) (by repeat (first | with_reducible refine panOk_then ?_ | with_reducible refine panOk_block ?_ | exact panOk_body)) ?_
      simp only [opsAt, List.getElem?_toArray, List.getElem?_cons_succ, List.getElem?_cons_zero, Option.toList_some, List.cons_append, List.nil_append]
      repeat (go_big_quiet_step (skip))
      refine wpQuiet_nil ?_
      intro V hw2
      have hbV := qt_world hw2
      clear hw2 rg0 rg1
      have hMV := Lib.hid (hJY.out.then_ (below_then hUb.out hbV))
      have hth : V.there q.m (i * 5) ([.int .i64 1, .int .i64 k.aft, .int .i64 0, .int .i64 hv, .bool false] : List Value).length := by have := hMV.out.om.there eM_len rfl HX.out (j := 0) (c := 5) (by omega); simpa using this
      have hVV : Hid (Below wr.heap.size wr V) := below_then HY.out (below_then hUb.out hbV)
      go_upto_region 11 with (refine wpList_store_part rfl 46 _ _ rfl rfl q.m (i * 5) [.int .i64 1, .int .i64 k.aft, .int .i64 0, .int .i64 hv, .bool false] rfl rfl (by exact hth) (by kernel_rfl) (by simp [Value.oneCell']) ?_)
      refine name_wp ?_
      intro V2 hV2
      have hN := Lib.hid (hJ.out.set_ (y := ⟨1, k.aft, 0, hv, false⟩) hVV.out HK.out HX.out HRR.out hlv.out)
      rw [show V.setCells q.m (i * 5) _ = V2 from hV2.symm] at hN
      clear hV2 hth
      go_wp2
      go_roundw
      case rel => exact ⟨i + 1, true, ms'.set i ⟨1, k.aft, 0, hv, false⟩, by omega, by simp, rfl, hN⟩
      case measure => simp [intOf]; omega
end Go.Proofs.YtginnonjdbpamaaGreatDoor
/- A range over an iterator of the program's own whose rounds depend on what lies in memory: the iterator's call is left to its own walk. -/
namespace Go.Proofs.YtginnonjdbpamaaGreatDoor
open Go.RowKit
theorem Upd.putObj {W : World} {l : Nat} (o : Obj) (hl : l < W.heap.size) : Upd W (W.putObj l o) l :=
 ⟨fun B hB => (Below.refl B W).grown (grownBy_putObj' W l o) (by omega) (fun k e => by cases e; exact hB), fun x hx => World.putObj_heap_other hx, by simp [World.putObj]⟩
def rgPost (l D : Nat) (W2 : World) (I : World → Prop) (X : Code → World → Prop) : Exit → Act → World → Prop
 | .normal, _, W3 => W3.heap[l]? = W2.heap[l]? ∧ W3.heap[D]? = W2.heap[D]? ∧ ∀ W4, Upd W3 W4 l → I W4
 | .ret, _, W3 => W3.heap[l]? = W2.heap[l]? ∧ W3.heap[D]? = W2.heap[D]? ∧ ∀ W4, Upd W3 W4 l → X .ret W4
 | .exit id, _, W3 => W3.heap[l]? = W2.heap[l]? ∧ W3.heap[D]? = W2.heap[D]? ∧ ∀ W4, Upd W3 W4 l → X (.exit id) W4
 | .goto t, _, W3 => W3.heap[l]? = W2.heap[l]? ∧ W3.heap[D]? = W2.heap[D]? ∧ ∀ W4, Upd W3 W4 l → X (.goto t) W4
 | .panic _, _, _ => False
 | .outgrown, _, _ => False
variable {F : Fence} {n : Nat} {P : Program}
theorem wpIn_rangeFunc_open {g : Operand} {ps : Array Tmp} {assign body : Code} {Q : Exit → Act → World → Prop} {a : Act} {w : World}
  (hro : F.round = none) (h1 : 1 ≤ n) {gf : Nat} {lb : Array Value} (hg : a.eval g = .func (.func gf) #[] lb) (hFg : F.fn gf) (eg : ∀ args w, (callFunc gf args).run P w = .ok (.enter gf args) w)
  (h : ∀ (l : Nat) (Rec : World → Prop) (RecX : Code → World → Prop), l = w.heap.size + 1 →
   (∀ W W', Rec W → Below (l + 1) W W' → Rec W') → (∀ c W W', RecX c W → Below (l + 1) W W' → RecX c W') → (∀ W, Rec W → l < W.heap.size) →
   (∀ (args : Array Value) (W : World) (a₁ : Act) (I : World → Prop) (X : Code → World → Prop), Rec W → args.size = ps.size →
    (∀ K : Act → World → Prop, K a₁ W → assign.wpIn (F.inRound l) (n - 1 - 1) P (Exit.then K (fun _ _ _ => False)) { tmps := (ps.zip args).foldl (fun t (p, v) => t.setIfInBounds p v) a.tmps, defers := [] } W) →
    (∀ W2, Upd W W2 l → body.wpIn (F.inRound l) (n - 1 - 1) P (rgPost l w.heap.size W2 I X) a₁ W2) →
    YieldAt F (n - 1 - 1) P l args W fun e W' => (e = .returned (.bool true) ∧ Rec W' ∧ I W') ∨ (e = .returned (.bool false) ∧ ∃ c, RecX c W' ∧ X c W')) →
   ∀ W1, Rec W1 → Below w.heap.size w W1 → W1.heap.size = w.heap.size + 2 →
    CallsIn F (n - 1) P gf (#[.func (.yield l) #[] #[]] ++ lb) W1 fun e W' => (∃ v, e = .returned v) ∧
     ((Rec W' ∧ ∀ W4, Upd W' W4 l → W4.heap[w.heap.size]? = some (.deferred (some [])) → Q .normal { a with defers := { target := .collected w.heap.size, args := #[] } :: a.defers } W4) ∨
      (∃ c, RecX c W' ∧ ∀ W4, Upd W' W4 l → W4.heap[w.heap.size]? = some (.deferred (some [])) → c.wpIn F n P Q { a with defers := { target := .collected w.heap.size, args := #[] } :: a.defers } W4))) :
  (Code.rangeFunc g ps assign body).wpIn F n P Q a w := by
 refine wpIn_rangeFunc ?_
 intro fn hfn
 rw [hro]
 obtain ⟨rec, hrec⟩ : ∃ rec : LoopState → Option Code → Loop, rec = fun st pe => { state := st, pending := pe, fn, tmps := a.tmps, params := ps, assign, body, defers := w.heap.size } := ⟨_, rfl⟩
 obtain ⟨W1, hW1⟩ : ∃ W1, (w.alloc (.deferred (some []))).alloc (.loop (rec .ready none)) = W1 := ⟨_, rfl⟩
 have hL1 : W1.heap[w.heap.size + 1]? = some (.loop (rec .ready none)) := by
  rw [← hW1]; have := World.alloc_heap_new (w.alloc (.deferred (some []))) (.loop (rec .ready none)); rwa [World.size_alloc] at this
 have hK1 : W1.heap[w.heap.size]? = some (.deferred (some [])) := by
  rw [← hW1]; exact (Below.heap_alloc _ _ _ (by simp)).trans (World.alloc_heap_new w _)
 have hb1 : Below w.heap.size w W1 := by
  rw [← hW1]; exact ((Below.refl _ w).alloc (Nat.le_refl _) _).alloc (by simp) _
 have hs1 : W1.heap.size = w.heap.size + 2 := by rw [← hW1]; simp
 refine ⟨w.heap.size + 1, [{ target := .collected w.heap.size, args := #[] }], W1, { target := .fn (.func gf) lb, args := #[.func (.yield (w.heap.size + 1)) #[] #[]] }, W1, gf,
  #[.func (.yield (w.heap.size + 1)) #[] #[]] ++ lb, W1, ?_, ?_, ?_, ?_, fun _ => h1, ?_⟩
 ·rw [← hW1, hrec]; exact run_enterLoop_outer _ _ _ _ _
 ·simp only [resolve, hg]
  simp [go_sem]
 ·intro f' hf'; simp [Target.leads] at hf'; subst hf'; exact hFg
 ·simp [invoke, go_sem, eg]
 ·refine (h (w.heap.size + 1)
   (fun W => W.heap[w.heap.size + 1]? = some (.loop (rec .ready none)) ∧ W.heap[w.heap.size]? = some (.deferred (some [])))
   (fun c W => W.heap[w.heap.size + 1]? = some (.loop (rec .done (some c))) ∧ W.heap[w.heap.size]? = some (.deferred (some []))) rfl
   (fun W W' hr hb => ⟨(hb.block _ (by omega)).trans hr.1, (hb.block _ (by omega)).trans hr.2⟩)
   (fun c W W' hr hb => ⟨(hb.block _ (by omega)).trans hr.1, (hb.block _ (by omega)).trans hr.2⟩)
   (fun W hr => (Array.getElem?_eq_some_iff.1 hr.1).1) ?_ W1 ⟨hL1, hK1⟩ hb1 hs1).mono ?_
  ·
   rintro args W a₁ I X ⟨hl, hk⟩ hps hassign hbody
   have hlt : w.heap.size + 1 < W.heap.size := (Array.getElem?_eq_some_iff.1 hl).1
   have hy := run_yield (P := P) (args := args) hl (by rw [hrec]; exact hps)
   rw [hrec] at hy
   refine ⟨fn, _, assign, body, hy, roundIn_of_wpIn hfn (hassign _ ⟨_, run_beginRound hl (by rw [hrec]), ?_⟩)⟩
   have hl2 : (W.putObj (w.heap.size + 1) (.loop { rec .ready none with state := .busy })).heap[w.heap.size + 1]? = some (.loop { rec .ready none with state := .busy }) := World.putObj_heap_same hlt
   have hk2 : (W.putObj (w.heap.size + 1) (.loop { rec .ready none with state := .busy })).heap[w.heap.size]? = some (.deferred (some [])) := (World.putObj_heap_other (by omega)).trans hk
   refine wpIn_mono (hbody _ (Upd.putObj _ hlt)) ?_
   have fin : ∀ (jump : Option Code) (W3 : World), W3.heap[w.heap.size + 1]? = some (.loop { rec .ready none with state := .busy }) → W3.heap[w.heap.size]? = some (.deferred (some [])) →
     (Instr.endRound (w.heap.size + 1) jump).run P W3 = .ok (.bool jump.isNone) (W3.putObj (w.heap.size + 1) (.loop (rec (if jump.isNone then .ready else .done) jump))) ∧
     (W3.putObj (w.heap.size + 1) (.loop (rec (if jump.isNone then .ready else .done) jump))).heap[w.heap.size + 1]? = some (.loop (rec (if jump.isNone then .ready else .done) jump)) ∧
     (W3.putObj (w.heap.size + 1) (.loop (rec (if jump.isNone then .ready else .done) jump))).heap[w.heap.size]? = some (.deferred (some [])) ∧
     Upd W3 (W3.putObj (w.heap.size + 1) (.loop (rec (if jump.isNone then .ready else .done) jump))) (w.heap.size + 1) := fun jump W3 hl3 hk3 => by
    have := run_endRound (P := P) jump hl3
    rw [hrec] at this ⊢
    exact ⟨this, World.putObj_heap_same (Array.getElem?_eq_some_iff.1 hl3).1, (World.putObj_heap_other (by omega)).trans hk3, Upd.putObj _ (Array.getElem?_eq_some_iff.1 hl3).1⟩
   rintro e a3 W3 hp
   cases e with
   | normal =>
    obtain ⟨e1, e2, hi3⟩ := hp
    obtain ⟨hr, hl4, hk4, hu⟩ := fin none W3 (e1.trans hl2) (e2.trans hk2)
    exact ⟨_, _, hr, .inl ⟨rfl, ⟨hl4, hk4⟩, hi3 _ hu⟩⟩
   | ret =>
    obtain ⟨e1, e2, hi3⟩ := hp
    obtain ⟨hr, hl4, hk4, hu⟩ := fin (some .ret) W3 (e1.trans hl2) (e2.trans hk2)
    exact ⟨_, _, hr, .inr ⟨rfl, .ret, ⟨hl4, hk4⟩, hi3 _ hu⟩⟩
   | exit id =>
    obtain ⟨e1, e2, hi3⟩ := hp
    obtain ⟨hr, hl4, hk4, hu⟩ := fin (some (.exit id)) W3 (e1.trans hl2) (e2.trans hk2)
    exact ⟨_, _, hr, .inr ⟨rfl, .exit id, ⟨hl4, hk4⟩, hi3 _ hu⟩⟩
   | goto t =>
    obtain ⟨e1, e2, hi3⟩ := hp
    obtain ⟨hr, hl4, hk4, hu⟩ := fin (some (.goto t)) W3 (e1.trans hl2) (e2.trans hk2)
    exact ⟨_, _, hr, .inr ⟨rfl, .goto t, ⟨hl4, hk4⟩, hi3 _ hu⟩⟩
   | panic ch => exact hp.elim
   | outgrown => exact hp.elim
  ·
   rintro e W2 ⟨⟨v, rfl⟩, (⟨⟨hl, hk⟩, hq⟩ | ⟨c, ⟨hl, hk⟩, hq⟩)⟩
   ·exact ⟨none, _, by have := run_endLoop (P := P) hl (by rw [hrec]; simp); rw [hrec] at this; exact this, hq _ (Upd.putObj _ (Array.getElem?_eq_some_iff.1 hl).1) ((World.putObj_heap_other (by omega)).trans hk)⟩
   ·exact ⟨some c, _, by have := run_endLoop (P := P) hl (by rw [hrec]; simp); rw [hrec] at this; exact this, hq _ (Upd.putObj _ (Array.getElem?_eq_some_iff.1 hl).1) ((World.putObj_heap_other (by omega)).trans hk)⟩
end Go.Proofs.YtginnonjdbpamaaGreatDoor
