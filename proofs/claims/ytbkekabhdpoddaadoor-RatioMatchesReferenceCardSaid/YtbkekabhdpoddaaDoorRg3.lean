/- The reference's Div at valid ratios, under contracts. -/
import Derived.Test.YtbkekabhdpoddaaDoorRg2
namespace Go.Proofs.YtbkekabhdpoddaaDoor
open Go.RowKit

set_option maxRecDepth 100000 in
set_option maxHeartbeats 3200000 in
theorem rdiv_key (n1 d1 n2 d2 m1 k1 m2 k2 A B x y z : Int) (w : World) (HV1 : Hid (∀ W, Calls Tryd.prog 33 #[.agg #[.int .i64 n1, .int .i64 d1]] W fun e w' => e = .returned (.bool true) ∧ Below W.heap.size W w')) (HV2 : Hid (∀ W, Calls Tryd.prog 33 #[.agg #[.int .i64 n2, .int .i64 d2]] W fun e w' => e = .returned (.bool true) ∧ Below W.heap.size W w'))
    (S1 : Hid (∀ W, Calls Tryd.prog 49 #[.int .i64 n1] W fun e w' => e = .returned (.int .u64 m1) ∧ Below W.heap.size W w')) (S2 : Hid (∀ W, Calls Tryd.prog 49 #[.int .i64 d2] W fun e w' => e = .returned (.int .u64 k2) ∧ Below W.heap.size W w')) (S3 : Hid (∀ W, Calls Tryd.prog 49 #[.int .i64 d1] W fun e w' => e = .returned (.int .u64 k1) ∧ Below W.heap.size W w')) (S4 : Hid (∀ W, Calls Tryd.prog 49 #[.int .i64 n2] W fun e w' => e = .returned (.int .u64 m2) ∧ Below W.heap.size W w'))
    (bm : 0 ≤ m1 ∧ m1 ≤ 1000000000000) (bk : 0 ≤ k2 ∧ k2 ≤ 1000000) (bm2 : 0 ≤ m2 ∧ m2 ≤ 1000000000000) (bk2 : 0 ≤ k1 ∧ k1 ≤ 1000000) (hA : m1 * k2 = A) (hB : k1 * m2 = B) (bA : 0 ≤ A ∧ A ≤ 1000000000000000000) (bB : 0 ≤ B ∧ B ≤ 1000000000000000000)
    (HO : Hid (∀ W, Calls Tryd.prog 48 #[.bool (decide (n1 < 0) != decide (n2 < 0)), .int .u64 A, .int .u64 B] W fun e w' => e = .returned (.tuple #[.agg #[.int .i64 x, .int .i64 y], .int .i64 z]) ∧ Below W.heap.size W w')) :
    Calls Tryd.prog 32 #[.agg #[.int .i64 n1, .int .i64 d1], .agg #[.int .i64 n2, .int .i64 d2]] w fun e w' => e = .returned (.tuple #[.agg #[.int .i64 x, .int .i64 y], .int .i64 z]) ∧ Below w.heap.size w w' := by
  go_enter Tryd.func32, Tryd.ntmps32
  go_upto_region 1 with (fail)
  refine name_wp ?_
  intro X0 hX
  have ga : Blk X0 (w.heap.size) 25 #[.int .i64 n1, .int .i64 d1] := by rw [hX]; exact ((blk_at (by simp)).alloc _).alloc _
  have gb : Blk X0 (w.heap.size + 1) 25 #[.int .i64 n2, .int .i64 d2] := by rw [hX]; exact (blk_at (by simp)).alloc _
  have gR : Blk X0 (w.heap.size + 2) 25 #[.int .i64 0, .int .i64 0] := by rw [hX]; exact blk_at (by simp)
  have HB : Below w.heap.size w X0 := by rw [hX]; (repeat (first | with_reducible assumption | with_reducible exact Below.refl _ _ | with_reducible refine below_drewN ?_ _ | with_reducible refine Below.drew ?_ | with_reducible refine below_alloc ?_ _ | with_reducible refine Below.setCell ?_ (by first | omega | (simp; done) | (simp; omega)) _ | with_reducible refine below_then ?_ (by with_reducible assumption) | (refine below_then (a := World.drew _) ?_ (by with_reducible assumption))))
  clear hX
  obtain ⟨bR, eR⟩ : ∃ b, w.heap.size + 2 = b := ⟨_, rfl⟩
  have lR : w.heap.size ≤ bR := by omega
  have aR : w.heap.size ≠ bR ∧ w.heap.size + 1 ≠ bR := by omega
  rw [eR] at gR ⊢
  obtain ⟨bb, eb⟩ : ∃ b, w.heap.size + 1 = b := ⟨_, rfl⟩
  rw [eb] at gb aR ⊢
  clear eR eb
  obtain ⟨ba, eb⟩ : ∃ b, w.heap.size = b := ⟨_, rfl⟩
  rw [eb] at ga ⊢
  clear eb aR
  have ca0 : X0.cell? ⟨ba, 0, none⟩ = some (.int .i64 n1) := ga.cell 0
  have ca1 : X0.cell? ⟨ba, 1, none⟩ = some (.int .i64 d1) := ga.cell 1
  have cb0 : X0.cell? ⟨bb, 0, none⟩ = some (.int .i64 n2) := gb.cell 0
  have cb1 : X0.cell? ⟨bb, 1, none⟩ = some (.int .i64 d2) := gb.cell 1
  go_upto_region 3 with (first | (go_at_call 33; (with_reducible refine (HV1.out _).mono ?_); rintro e w1 ⟨rfl, hbw1⟩; have ka0 : w1.cell? ⟨bb, 0, none⟩ = some (.int .i64 n2) := (gb.then_ hbw1).cell 0; have ka1 : w1.cell? ⟨bb, 1, none⟩ = some (.int .i64 d2) := (gb.then_ hbw1).cell 1) | (go_at_call 33; (with_reducible refine (HV2.out _).mono ?_); rintro e w2 ⟨rfl, hbw2⟩))
  refine name_wp ?_
  intro X1 hX
  have na : Blk X1 ba 25 #[.int .i64 n1, .int .i64 d1] := by rw [hX]; exact ((ga.then_ hbw1).then_ hbw2)
  have nb : Blk X1 bb 25 #[.int .i64 n2, .int .i64 d2] := by rw [hX]; exact ((gb.then_ hbw1).then_ hbw2)
  have nR : Blk X1 bR 25 #[.int .i64 0, .int .i64 0] := by rw [hX]; exact ((gR.then_ hbw1).then_ hbw2)
  have NB : Below w.heap.size w X1 := by rw [hX]; exact (below_then (below_then HB hbw1) hbw2)
  clear hX ga gb gR HB ca0 ca1 cb0 cb1
  have ga := na
  have gb := nb
  have gR := nR
  have HB := NB
  clear na nb nR NB
  have ca0 : X1.cell? ⟨ba, 0, none⟩ = some (.int .i64 n1) := ga.cell 0
  have ca1 : X1.cell? ⟨ba, 1, none⟩ = some (.int .i64 d1) := ga.cell 1
  have cb0 : X1.cell? ⟨bb, 0, none⟩ = some (.int .i64 n2) := gb.cell 0
  have cb1 : X1.cell? ⟨bb, 1, none⟩ = some (.int .i64 d2) := gb.cell 1

  obtain ⟨s1, hs1⟩ : ∃ s, decide (n1 < 0) = s := ⟨_, rfl⟩
  obtain ⟨s2, hs2⟩ : ∃ s, decide (n2 < 0) = s := ⟨_, rfl⟩
  rw [hs1, hs2] at HO
  have rg0 := cell_regrown ca0
  have rg1 := cell_regrown ca1
  have rg2 := cell_regrown cb0
  have rg3 := cell_regrown cb1
  refine wp_region_qt [0, 1, 2, 3, 4, 5, 6, 7, 8, 9, 10, 11, 12, 13, 14, 15, 16, 17, 18, 19, 20, 21] [22, 23, 24, 25] (by kernel_rfl) (by kernel_rfl) (by repeat (first | with_reducible refine panOk_then ?_ | with_reducible refine panOk_block ?_ | exact panOk_body)) ?_
  simp only [opsAt, List.getElem?_toArray, List.getElem?_cons_succ, List.getElem?_cons_zero, Option.toList_some, List.cons_append, List.nil_append]
  repeat (go_big_quiet_step ((first | (go_at_call 49; with_reducible exact qt_call (fun W' _ => S1.out W') _ _) | (go_at_call 49; with_reducible exact qt_call (fun W' _ => S2.out W') _ _) | (go_at_call 49; with_reducible exact qt_call (fun W' _ => S3.out W') _ _) | (go_at_call 49; with_reducible exact qt_call (fun W' _ => S4.out W') _ _) | (go_at_call 48; exact qt_call (fun W' _ => HO.out W') _ _))))
  refine wpQuiet_nil ?_
  intro X2 hw2
  have hbX2 := qt_world hw2
  clear hw2 rg0 rg1 rg2 rg3
  have r0 : X2.cell? ⟨bR, 0, none⟩ = some (.int .i64 0) := (gR.then_ hbX2).cell 0
  have r1 : X2.cell? ⟨bR, 1, none⟩ = some (.int .i64 0) := (gR.then_ hbX2).cell 1
  have z0 : X2.frozen? ⟨bR, 0, none⟩ = false := (gR.then_ hbX2).frozen 0
  have z1 : X2.frozen? ⟨bR, 1, none⟩ = false := (gR.then_ hbX2).frozen 1
  have lz := (gR.then_ hbX2).lt
  have hz := Below.refl X2.heap.size X2

  go_wp2
  refine bodyPost_ret (ret_rat rfl rfl (gR.then_ hbX2).setT0.setT1) rfl ⟨rfl, ?_⟩
  exact ((below_then HB hbX2).setCell (p := ⟨bR, 0, none⟩) lR _).setCell (p := ⟨bR, 1, none⟩) lR _
end Go.Proofs.YtbkekabhdpoddaaDoor
