/- The reference's Mul at valid ratios, under contracts. -/
import Derived.Test.YtbkekabhdpoddaaDoorRg2
namespace Go.Proofs.YtbkekabhdpoddaaDoor
open Go.RowKit

set_option maxRecDepth 100000 in
set_option maxHeartbeats 3200000 in
theorem rmul_key (n1 d1 n2 d2 m1 k1 m2 k2 g h p q c e f A B x y z : Int) (w : World) (HV1 : Hid (∀ W, Calls Tryd.prog 33 #[.agg #[.int .i64 n1, .int .i64 d1]] W fun e w' => e = .returned (.bool true) ∧ Below W.heap.size W w')) (HV2 : Hid (∀ W, Calls Tryd.prog 33 #[.agg #[.int .i64 n2, .int .i64 d2]] W fun e w' => e = .returned (.bool true) ∧ Below W.heap.size W w'))
    (S1 : Hid (∀ W, Calls Tryd.prog 49 #[.int .i64 n1] W fun e w' => e = .returned (.int .u64 m1) ∧ Below W.heap.size W w')) (S2 : Hid (∀ W, Calls Tryd.prog 49 #[.int .i64 d2] W fun e w' => e = .returned (.int .u64 k2) ∧ Below W.heap.size W w')) (S3 : Hid (∀ W, Calls Tryd.prog 49 #[.int .i64 d1] W fun e w' => e = .returned (.int .u64 k1) ∧ Below W.heap.size W w')) (S4 : Hid (∀ W, Calls Tryd.prog 49 #[.int .i64 n2] W fun e w' => e = .returned (.int .u64 m2) ∧ Below W.heap.size W w')) (G1 : Hid (∀ W, Calls Tryd.prog 14 #[.int .u64 m1, .int .u64 k2] W fun e w' => e = .returned (.int .u64 g) ∧ Below W.heap.size W w')) (G2 : Hid (∀ W, Calls Tryd.prog 14 #[.int .u64 m2, .int .u64 k1] W fun e w' => e = .returned (.int .u64 h) ∧ Below W.heap.size W w'))
    (bm : 0 ≤ m1 ∧ m1 ≤ 1000000000000) (bk : 1 ≤ k2 ∧ k2 ≤ 1000000) (bm2 : 0 ≤ m2 ∧ m2 ≤ 1000000000000) (bk2 : 1 ≤ k1 ∧ k1 ≤ 1000000) (bg : 1 ≤ g ∧ g ≤ 1000000) (bh : 1 ≤ h ∧ h ≤ 1000000)
    (hp : m1 / g = p) (hp' : m1.tdiv g = p) (hq : m2 / h = q) (hq' : m2.tdiv h = q) (bp : 0 ≤ p ∧ p ≤ 1000000000000) (bq : 0 ≤ q ∧ q ≤ 1000000000000) (hc : 1000000000000 / p = c) (hc' : (1000000000000 : Int).tdiv p = c) (bc : 0 ≤ c ∧ c ≤ 1000000000000) (he : k1 / h = e) (he' : k1.tdiv h = e) (hf : k2 / g = f) (hf' : k2.tdiv g = f) (be : 1 ≤ e ∧ e ≤ 1000000) (bf : 1 ≤ f ∧ f ≤ 1000000) (hA : p * q = A) (hB : e * f = B) (bB : 1 ≤ B ∧ B ≤ 1000000000000)
    (hw : ((p = 0 ∨ (0 < p ∧ ¬ c < q)) ∧ (0 ≤ A ∧ A ≤ 1000000000000) ∧ Hid (∀ W, Calls Tryd.prog 48 #[.bool (decide (n1 < 0) != decide (n2 < 0)), .int .u64 A, .int .u64 B] W fun e w' => e = .returned (.tuple #[.agg #[.int .i64 x, .int .i64 y], .int .i64 z]) ∧ Below W.heap.size W w')) ∨ (0 < p ∧ c < q ∧ x = 0 ∧ y = 0 ∧ z = 2)) :
    Calls Tryd.prog 30 #[.agg #[.int .i64 n1, .int .i64 d1], .agg #[.int .i64 n2, .int .i64 d2]] w fun e w' => e = .returned (.tuple #[.agg #[.int .i64 x, .int .i64 y], .int .i64 z]) ∧ Below w.heap.size w w' := by
  go_enter Tryd.func30, Tryd.ntmps30
  go_upto_region 1 with (fail)
  refine name_wp ?_
  intro X0 hX
  have ga : Blk X0 (w.heap.size) 25 #[.int .i64 n1, .int .i64 d1] := by rw [hX]; exact ((blk_at (by simp)).alloc _).alloc _
  have gb : Blk X0 (w.heap.size + 1) 25 #[.int .i64 n2, .int .i64 d2] := by rw [hX]; exact (blk_at (by simp)).alloc _
  have gR : Blk X0 (w.heap.size + 2) 25 #[.int .i64 0, .int .i64 0] := by rw [hX]; exact blk_at (by simp)
  have HB : Below w.heap.size w X0 := by rw [hX]; (repeat (first | with_reducible assumption | with_reducible exact Below.refl _ _ | with_reducible refine below_drewN ?_ _ | with_reducible refine Below.drew ?_ | with_reducible refine below_alloc ?_ _ | with_reducible refine Below.setCell ?_ (by first | omega | (simp; done) | (simp; omega)) _ | with_reducible refine below_then ?_ (by with_reducible assumption) | (refine below_then (a := World.drew _) ?_ (by with_reducible assumption))))
  clear hX
  obtain ⟨bR, eR⟩ : ∃ b, w.heap.size + 2 = b := ⟨_, rfl⟩
  have lR : w.heap.size ≤ bR := by omega
  have aR : w.heap.size ≠ bR ∧ w.heap.size + 1 ≠ bR := by omega
  rw [eR] at gR ⊢
  obtain ⟨bb, eb⟩ : ∃ b, w.heap.size + 1 = b := ⟨_, rfl⟩
  rw [eb] at gb aR ⊢
  clear eR eb
  obtain ⟨ba, eb⟩ : ∃ b, w.heap.size = b := ⟨_, rfl⟩
  rw [eb] at ga ⊢
  clear eb aR
  have ca0 : X0.cell? ⟨ba, 0, none⟩ = some (.int .i64 n1) := ga.cell 0
  have ca1 : X0.cell? ⟨ba, 1, none⟩ = some (.int .i64 d1) := ga.cell 1
  have cb0 : X0.cell? ⟨bb, 0, none⟩ = some (.int .i64 n2) := gb.cell 0
  have cb1 : X0.cell? ⟨bb, 1, none⟩ = some (.int .i64 d2) := gb.cell 1
  go_upto_region 3 with (first | (go_at_call 33; (with_reducible refine (HV1.out _).mono ?_); rintro e w1 ⟨rfl, hbw1⟩; have ka0 : w1.cell? ⟨bb, 0, none⟩ = some (.int .i64 n2) := (gb.then_ hbw1).cell 0; have ka1 : w1.cell? ⟨bb, 1, none⟩ = some (.int .i64 d2) := (gb.then_ hbw1).cell 1) | (go_at_call 33; (with_reducible refine (HV2.out _).mono ?_); rintro e w2 ⟨rfl, hbw2⟩))
  refine name_wp ?_
  intro X1 hX
  have na : Blk X1 ba 25 #[.int .i64 n1, .int .i64 d1] := by rw [hX]; exact ((ga.then_ hbw1).then_ hbw2)
  have nb : Blk X1 bb 25 #[.int .i64 n2, .int .i64 d2] := by rw [hX]; exact ((gb.then_ hbw1).then_ hbw2)
  have nR : Blk X1 bR 25 #[.int .i64 0, .int .i64 0] := by rw [hX]; exact ((gR.then_ hbw1).then_ hbw2)
  have NB : Below w.heap.size w X1 := by rw [hX]; exact (below_then (below_then HB hbw1) hbw2)
  clear hX ga gb gR HB ca0 ca1 cb0 cb1
  have ga := na
  have gb := nb
  have gR := nR
  have HB := NB
  clear na nb nR NB
  have ca0 : X1.cell? ⟨ba, 0, none⟩ = some (.int .i64 n1) := ga.cell 0
  have ca1 : X1.cell? ⟨ba, 1, none⟩ = some (.int .i64 d1) := ga.cell 1
  have cb0 : X1.cell? ⟨bb, 0, none⟩ = some (.int .i64 n2) := gb.cell 0
  have cb1 : X1.cell? ⟨bb, 1, none⟩ = some (.int .i64 d2) := gb.cell 1

  obtain ⟨s1, hs1⟩ : ∃ s, decide (n1 < 0) = s := ⟨_, rfl⟩
  obtain ⟨s2, hs2⟩ : ∃ s, decide (n2 < 0) = s := ⟨_, rfl⟩
  rw [hs1, hs2] at hw
  have tg : (g == 0) = false := by simp; omega
  have th : (h == 0) = false := by simp; omega
  have rg0 := cell_regrown ca0
  have rg1 := cell_regrown ca1
  have rg2 := cell_regrown cb0
  have rg3 := cell_regrown cb1
  refine wp_region_qt [0, 1, 2, 3, 4, 5, 6] [7] (by kernel_rfl) (by kernel_rfl) (by repeat (first | with_reducible refine panOk_then ?_ | with_reducible refine panOk_block ?_ | exact panOk_body)) ?_
  simp only [opsAt, List.getElem?_toArray, List.getElem?_cons_succ, List.getElem?_cons_zero, Option.toList_some, List.cons_append, List.nil_append]
  repeat (go_big_quiet_step ((first | (go_at_call 49; with_reducible exact qt_call (fun W' _ => S1.out W') _ _) | (go_at_call 49; with_reducible exact qt_call (fun W' _ => S2.out W') _ _) | (go_at_call 14; with_reducible exact qt_call (fun W' _ => G1.out W') _ _))))
  refine wpQuiet_nil ?_
  intro X2 hw2
  have hbX2 := qt_world hw2
  clear hw2 rg0 rg1 rg2 rg3
  have na := ga.then_ hbX2
  have nb := gb.then_ hbX2
  have nR := gR.then_ hbX2
  have NB := below_then HB hbX2
  clear ga gb gR HB hbX2 ca0 ca1 cb0 cb1
  have ga := na
  have gb := nb
  have gR := nR
  have HB := NB
  clear na nb nR NB
  have ca0 : X2.cell? ⟨ba, 0, none⟩ = some (.int .i64 n1) := ga.cell 0
  have ca1 : X2.cell? ⟨ba, 1, none⟩ = some (.int .i64 d1) := ga.cell 1
  have cb0 : X2.cell? ⟨bb, 0, none⟩ = some (.int .i64 n2) := gb.cell 0
  have cb1 : X2.cell? ⟨bb, 1, none⟩ = some (.int .i64 d2) := gb.cell 1
  go_upto_region 4 with (fail)
  have rg0 := cell_regrown ca0
  have rg1 := cell_regrown ca1
  have rg2 := cell_regrown cb0
  have rg3 := cell_regrown cb1
  refine wp_region_qt [0, 1, 2, 3, 4, 5, 6] [7] (by kernel_rfl) (by kernel_rfl) (by repeat (first | with_reducible refine panOk_then ?_ | with_reducible refine panOk_block ?_ | exact panOk_body)) ?_
  simp only [opsAt, List.getElem?_toArray, List.getElem?_cons_succ, List.getElem?_cons_zero, Option.toList_some, List.cons_append, List.nil_append]
  repeat (go_big_quiet_step ((first | (go_at_call 49; with_reducible exact qt_call (fun W' _ => S3.out W') _ _) | (go_at_call 49; with_reducible exact qt_call (fun W' _ => S4.out W') _ _) | (go_at_call 14; with_reducible exact qt_call (fun W' _ => G2.out W') _ _))))
  refine wpQuiet_nil ?_
  intro X3 hw2
  have hbX3 := qt_world hw2
  clear hw2 rg0 rg1 rg2 rg3
  have na := ga.then_ hbX3
  have nb := gb.then_ hbX3
  have nR := gR.then_ hbX3
  have NB := below_then HB hbX3
  clear ga gb gR HB hbX3 ca0 ca1 cb0 cb1
  have ga := na
  have gb := nb
  have gR := nR
  have HB := NB
  clear na nb nR NB
  have ca0 : X3.cell? ⟨ba, 0, none⟩ = some (.int .i64 n1) := ga.cell 0
  have ca1 : X3.cell? ⟨ba, 1, none⟩ = some (.int .i64 d1) := ga.cell 1
  have cb0 : X3.cell? ⟨bb, 0, none⟩ = some (.int .i64 n2) := gb.cell 0
  have cb1 : X3.cell? ⟨bb, 1, none⟩ = some (.int .i64 d2) := gb.cell 1

  go_upto_region 6 with (first | (go_at_call 49; (with_reducible refine (S1.out _).mono ?_); rintro e W4 ⟨rfl, hbW4⟩))
  have na := ga.then_ hbW4
  have nb := gb.then_ hbW4
  have nR := gR.then_ hbW4
  have NB := below_then HB hbW4
  clear ga gb gR HB hbW4 ca0 ca1 cb0 cb1
  have ga := na
  have gb := nb
  have gR := nR
  have HB := NB
  clear na nb nR NB
  have ca0 : W4.cell? ⟨ba, 0, none⟩ = some (.int .i64 n1) := ga.cell 0
  have ca1 : W4.cell? ⟨ba, 1, none⟩ = some (.int .i64 d1) := ga.cell 1
  have cb0 : W4.cell? ⟨bb, 0, none⟩ = some (.int .i64 n2) := gb.cell 0
  have cb1 : W4.cell? ⟨bb, 1, none⟩ = some (.int .i64 d2) := gb.cell 1
  go_upto_region 7 with (first | (go_at_call 49; (with_reducible refine (S4.out _).mono ?_); rintro e W5 ⟨rfl, hbW5⟩))
  have na := ga.then_ hbW5
  have nb := gb.then_ hbW5
  have nR := gR.then_ hbW5
  have NB := below_then HB hbW5
  clear ga gb gR HB hbW5 ca0 ca1 cb0 cb1
  have ga := na
  have gb := nb
  have gR := nR
  have HB := NB
  clear na nb nR NB
  have ca0 : W5.cell? ⟨ba, 0, none⟩ = some (.int .i64 n1) := ga.cell 0
  have ca1 : W5.cell? ⟨ba, 1, none⟩ = some (.int .i64 d1) := ga.cell 1
  have cb0 : W5.cell? ⟨bb, 0, none⟩ = some (.int .i64 n2) := gb.cell 0
  have cb1 : W5.cell? ⟨bb, 1, none⟩ = some (.int .i64 d2) := gb.cell 1
  clear hp hp' hq hq' G1 G2
  rcases hw with ⟨h0 | ⟨h0, h1⟩, bA, HO⟩ | ⟨h0, h1, rfl, rfl, rfl⟩
  · have t1 := decide_eq_false (show ¬ 0 < p by omega)
    clear hc hc' h0
    go_upto_region 9 with (fail)
    have rg0 := cell_regrown ca0
    have rg1 := cell_regrown ca1
    have rg2 := cell_regrown cb0
    have rg3 := cell_regrown cb1
    refine wp_region_qt [0, 1, 2, 3, 4, 5, 6, 7, 8, 9, 10, 11, 12, 13, 14, 15, 16, 17, 18, 19, 20, 21] [22, 23, 24, 25] (by kernel_rfl) (by kernel_rfl) (by repeat (first | with_reducible refine panOk_then ?_ | with_reducible refine panOk_block ?_ | exact panOk_body)) ?_
    simp only [opsAt, List.getElem?_toArray, List.getElem?_cons_succ, List.getElem?_cons_zero, Option.toList_some, List.cons_append, List.nil_append]
    repeat (go_big_quiet_step ((first | (go_at_call 49; with_reducible exact qt_call (fun W' _ => S3.out W') _ _) | (go_at_call 49; with_reducible exact qt_call (fun W' _ => S2.out W') _ _) | (go_at_call 48; exact qt_call (fun W' _ => HO.out W') _ _))))
    refine wpQuiet_nil ?_
    intro X6 hw2
    have hbX6 := qt_world hw2
    clear hw2 rg0 rg1 rg2 rg3
    have r0 : X6.cell? ⟨bR, 0, none⟩ = some (.int .i64 0) := (gR.then_ hbX6).cell 0
    have r1 : X6.cell? ⟨bR, 1, none⟩ = some (.int .i64 0) := (gR.then_ hbX6).cell 1
    have z0 : X6.frozen? ⟨bR, 0, none⟩ = false := (gR.then_ hbX6).frozen 0
    have z1 : X6.frozen? ⟨bR, 1, none⟩ = false := (gR.then_ hbX6).frozen 1
    have lz := (gR.then_ hbX6).lt
    have hz := Below.refl X6.heap.size X6
  
    go_wp2
    refine bodyPost_ret (ret_rat rfl rfl (gR.then_ hbX6).setT0.setT1) rfl ⟨rfl, ?_⟩
    exact ((below_then HB hbX6).setCell (p := ⟨bR, 0, none⟩) lR _).setCell (p := ⟨bR, 1, none⟩) lR _
  · have t1 := decide_eq_true h0
    have t2 := decide_eq_false (show ¬ c < q by omega)
    have t3 : (p == 0) = false := by simp; omega
    clear h1
    go_upto_region 9 with (fail)
    clear hc hc'
    have rg0 := cell_regrown ca0
    have rg1 := cell_regrown ca1
    have rg2 := cell_regrown cb0
    have rg3 := cell_regrown cb1
    refine wp_region_qt [0, 1, 2, 3, 4, 5, 6, 7, 8, 9, 10, 11, 12, 13, 14, 15, 16, 17, 18, 19, 20, 21] [22, 23, 24, 25] (by kernel_rfl) (by kernel_rfl) (by repeat (first | with_reducible refine panOk_then ?_ | with_reducible refine panOk_block ?_ | exact panOk_body)) ?_
    simp only [opsAt, List.getElem?_toArray, List.getElem?_cons_succ, List.getElem?_cons_zero, Option.toList_some, List.cons_append, List.nil_append]
    repeat (go_big_quiet_step ((first | (go_at_call 49; with_reducible exact qt_call (fun W' _ => S3.out W') _ _) | (go_at_call 49; with_reducible exact qt_call (fun W' _ => S2.out W') _ _) | (go_at_call 48; exact qt_call (fun W' _ => HO.out W') _ _))))
    refine wpQuiet_nil ?_
    intro X6 hw2
    have hbX6 := qt_world hw2
    clear hw2 rg0 rg1 rg2 rg3
    have r0 : X6.cell? ⟨bR, 0, none⟩ = some (.int .i64 0) := (gR.then_ hbX6).cell 0
    have r1 : X6.cell? ⟨bR, 1, none⟩ = some (.int .i64 0) := (gR.then_ hbX6).cell 1
    have z0 : X6.frozen? ⟨bR, 0, none⟩ = false := (gR.then_ hbX6).frozen 0
    have z1 : X6.frozen? ⟨bR, 1, none⟩ = false := (gR.then_ hbX6).frozen 1
    have lz := (gR.then_ hbX6).lt
    have hz := Below.refl X6.heap.size X6
  
    go_wp2
    refine bodyPost_ret (ret_rat rfl rfl (gR.then_ hbX6).setT0.setT1) rfl ⟨rfl, ?_⟩
    exact ((below_then HB hbX6).setCell (p := ⟨bR, 0, none⟩) lR _).setCell (p := ⟨bR, 1, none⟩) lR _
  · have t1 := decide_eq_true h0
    have t2 := decide_eq_true h1
    have t3 : (p == 0) = false := by simp; omega
    clear h1
    have r0 : W5.cell? ⟨bR, 0, none⟩ = some (.int .i64 0) := gR.cell 0
    have r1 : W5.cell? ⟨bR, 1, none⟩ = some (.int .i64 0) := gR.cell 1
    have z0 : W5.frozen? ⟨bR, 0, none⟩ = false := gR.frozen 0
    have z1 : W5.frozen? ⟨bR, 1, none⟩ = false := gR.frozen 1
    have lz := gR.lt
    go_wp2
    refine bodyPost_ret (by simp [results, Tryd.results30, go_sem, *]; rfl) rfl ⟨?_, ?_⟩
    · rfl
    · exact (HB.setCell (p := ⟨bR, 0, none⟩) lR _).setCell (p := ⟨bR, 1, none⟩) lR _
end Go.Proofs.YtbkekabhdpoddaaDoor
