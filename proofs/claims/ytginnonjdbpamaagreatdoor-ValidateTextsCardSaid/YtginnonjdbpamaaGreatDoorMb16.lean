/- Contracts of functions and plain laws, joined: Sg0. -/
import Derived.Test.YtginnonjdbpamaaGreatDoorMb15
/- The walk of system.doer. -/
namespace Go.Proofs.YtginnonjdbpamaaGreatDoor
open Go.RowKit
set_option maxRecDepth 100000 in
set_option maxHeartbeats 6400000 in
theorem doer_any (c : Con) (m : Cm) (s : Sta) (q : Qm) (n : Nat) (a : Atc) (w : World) (hC : Cont w c m) (hS : Stm w s q) (ha : c.ac[n]? = some a) (hr : a.role = -1 ∨ (0 ≤ a.role ∧ a.role < (s.hol.length : Int))) :
  Calls Tryz.prog 80 #[.agg (coA c m), .agg (stA s q), .int .i64 (n : Nat)] w fun e w' => e = .returned (.int .i64 (doerOf a s.hol)) ∧ Below w.heap.size w w' := by
 obtain ⟨R, hR⟩ : ∃ r, doerOf a s.hol = r := ⟨_, rfl⟩
 rw [hR]
 have HR := Lib.hid hR
 clear hR
 have hna : n < c.ac.length := (List.getElem?_eq_some_iff.1 ha).1
 have na := hC.na
 have nh := hS.nh
 obtain ⟨b0, o0, eA0, hb0, hc0⟩ := segAt hC.a ha
 have hix0 := fun W => idx_at (t := 24) (size := 7) (cap := m.ac) eA0 hna (by kernel_rfl) (fun W => by kernel_rfl) W
 have d1 : w.cell? ⟨b0, o0 + n * 7 + 1, none⟩ = some (.int .i64 a.role) := hc0 1 _ rfl
 have HS := Lib.hid hS
 clear hC hS ha hc0 eA0
 cases t1 : (a.role == -1) with
 | true =>
  have hf : Hid (R = -1) := by unfold Hid; rw [← HR.out]; unfold doerOf; rw [if_pos (by simpa using t1)]
  clear hr HS
  go_enter Tryz.func80, Tryz.ntmps80
  go_upto_region 1 with (fail)
  refine name_wp ?_
  intro X hX
  have ga : Blk X w.heap.size 27 (coA c m) := by rw [hX]; exact (blk_at (by simp)).alloc _
  have HB : Below w.heap.size w X := by rw [hX]; (repeat (first | exact Below.refl _ _ | refine below_alloc ?_ _))
  have x1 := (HB.cell (p := ⟨b0, o0 + n * 7 + 1, none⟩) hb0).trans d1
  clear hX d1
  have k3 : X.cell? ⟨w.heap.size, 3, none⟩ = some (.slice m.a c.ac.length m.ac) := ga.cell 3
  go_wp2
  go_ret
  exact ⟨ret_int hf.out.symm, HB⟩
 | false =>
  have h1 : a.role ≠ -1 := by simpa using t1
  obtain ⟨r, hrr⟩ : ∃ r : Nat, a.role = (r : Int) := ⟨a.role.toNat, by omega⟩
  have hrl : r < s.hol.length := by omega
  obtain ⟨hv, hhv⟩ : ∃ v, s.hol[r]? = some v := ⟨_, List.getElem?_eq_getElem hrl⟩
  have hf : Hid (R = hv) := by unfold Hid; rw [← HR.out]; unfold doerOf roleOf; rw [if_neg h1, hrr, Int.toNat_natCast, List.getD_eq_getElem?_getD, hhv]; rfl
  obtain ⟨b1, o1, eA1, hb1, hc1⟩ := segAt HS.out.h hhv
  have hix1 := fun W => idx_at (t := 22) (size := 1) (cap := q.hc) eA1 hrl (by kernel_rfl) (fun W => by kernel_rfl) W
  have d2 : w.cell? ⟨b1, o1 + r, none⟩ = some (.int .i64 hv) := by simpa using hc1 0 _ rfl
  simp only [Nat.mul_one] at hix1
  rw [hrr] at d1 t1
  clear h1 hr hrr hhv hc1 eA1 HS
  go_enter Tryz.func80, Tryz.ntmps80
  go_upto_region 1 with (fail)
  refine name_wp ?_
  intro X hX
  have ga : Blk X w.heap.size 27 (coA c m) := by rw [hX]; exact (blk_at (by simp)).alloc _
  have gs : Blk X (w.heap.size + 1) 43 (stA s q) := by rw [hX]; exact blk_at (by simp)
  have HB : Below w.heap.size w X := by rw [hX]; (repeat (first | exact Below.refl _ _ | refine below_alloc ?_ _))
  have x1 := (HB.cell (p := ⟨b0, o0 + n * 7 + 1, none⟩) hb0).trans d1
  have x2 := (HB.cell (p := ⟨b1, o1 + r, none⟩) hb1).trans d2
  clear hX d1 d2
  have k3 : X.cell? ⟨w.heap.size, 3, none⟩ = some (.slice m.a c.ac.length m.ac) := ga.cell 3
  have s1 : X.cell? ⟨w.heap.size + 1, 1, none⟩ = some (.slice q.h s.hol.length q.hc) := gs.cell 1
  go_upto_region 3 with (fail)
  have rg0 := cell_regrown x1
  have rg1 := cell_regrown x2
  have rg2 := cell_regrown k3
  have rg3 := cell_regrown s1
  refine wp_region_qt [0, 1, 2, 3, 4, 5, 6, 7, 8, 9] [10] (by kernel_rfl) (by kernel_rfl) (by repeat (first | with_reducible refine panOk_then ?_ | with_reducible refine panOk_block ?_ | exact panOk_body)) ?_
  simp only [opsAt, List.getElem?_toArray, List.getElem?_cons_succ, List.getElem?_cons_zero, Option.toList_some, List.cons_append, List.nil_append]
  repeat (go_big_quiet_step (skip))
  refine wpQuiet_nil ?_
  intro Y hw2
  have hbY := qt_world hw2
  clear hw2 rg0 rg1 rg2 rg3
  go_wp2
  go_ret
  exact ⟨ret_int hf.out.symm, below_then HB hbY⟩
end Go.Proofs.YtginnonjdbpamaaGreatDoor
