/- The walk of the head of ratio's laws: fixed examples with known results. -/
import Derived.Test.YtbkekabhdpoddaaDoorRb9
namespace Go.Proofs.YtbkekabhdpoddaaDoor
open Go.RowKit

theorem of_lit (a b : Int) (w : World) : Calls Tryd.prog 20 #[.int .i64 a, .int .i64 b] w fun e w' => e = .returned (.agg #[.int .i64 a, .int .i64 b]) ∧ Below w.heap.size w w' := by
  go_enter Tryd.func20, Tryd.ntmps20
  go_wp2
  refine bodyPost_ret (by simp [results, Tryd.results20, go_sem, *]; rfl) rfl ⟨?_, ?_⟩
  · rfl
  · (repeat (first | exact Below.refl _ _ | refine below_drewN ?_ _ | refine Below.drew ?_ | refine below_alloc ?_ _ | refine Below.setCell ?_ (by first | omega | (simp; done) | (simp; omega)) _ | refine below_then ?_ (by assumption)))
theorem prs42 : prs [52, 47, 50] = none := by decide +kernel
theorem txt32 : txtO (-3) 2 = [45, 51, 47, 50] := by
  have h : vld (-3) 2 = true := by decide
  unfold txtO
  rw [if_pos h]
  simp [Lib.itoa, Lib.decDigits]
set_option maxRecDepth 100000 in
set_option maxHeartbeats 6400000 in
theorem head_any (w : World) (hL : Lw w) : Calls Tryd.prog 11 #[] w fun e w' => e = .returned (.bool true) ∧ Below w.heap.size w w' := by
  obtain ⟨v1, v2, v3, v4, v5, v6, v7, v8, v9⟩ := lits
  obtain ⟨m1, m2, m3⟩ := lit_make
  obtain ⟨p1, p2, p3, p4, p5⟩ := lit_ops
  have HM1 : Hid (∀ W, Calls Tryd.prog 13 #[.int .i64 6, .int .i64 (-4)] W fun e w' => e = resA (-3) 2 0 ∧ Below W.heap.size W w') := fun W => by
    have := make_any 6 (-4) W (by omega) (by omega) (by omega) (by omega) (by omega)
    rwa [m1.1, m1.2.1, m1.2.2] at this
  have HM2 : Hid (∀ W, Calls Tryd.prog 13 #[.int .i64 0, .int .i64 (-7)] W fun e w' => e = resA 0 1 0 ∧ Below W.heap.size W w') := fun W => by
    have := make_any 0 (-7) W (by omega) (by omega) (by omega) (by omega) (by omega)
    rwa [m2.1, m2.2.1, m2.2.2] at this
  have HM3 : Hid (∀ W, Calls Tryd.prog 13 #[.int .i64 1, .int .i64 0] W fun e w' => e = resA 0 0 1 ∧ Below W.heap.size W w') := fun W => make0_any 1 W
  have HM4 : Hid (∀ W, Calls Tryd.prog 13 #[.int .i64 1, .int .i64 1000001] W fun e w' => e = resA 0 0 2 ∧ Below W.heap.size W w') := fun W => by
    have := make_any 1 1000001 W (by omega) (by omega) (by omega) (by omega) (by omega)
    rwa [m3.1, m3.2.1, m3.2.2] at this
  have HO := Lib.hid (fun a b W => of_lit a b W)
  have HC5 := Lib.hid (fun W => add_lit W v1 v2 p1)
  have HC6 := Lib.hid (fun W => mul_lit W v3 v4 p2)
  have HC7 := Lib.hid (fun W => div0_lit W v5)
  have HC8 := Lib.hid (fun W => round_lit (p := 4) W v6 (by omega) (by omega) p3)
  have HC9 : Hid (∀ W, Below w.heap.size w W → Calls Tryd.prog 23 #[.string ⟨#[52, 47, 50]⟩] W fun e w' => e = resA 0 0 5 ∧ Below W.heap.size W w') := fun W hb => by
    have := parse_any ⟨#[52, 47, 50]⟩ W (hL.below hb) (by decide)
    rw [show (⟨#[52, 47, 50]⟩ : ByteArray).toList = [52, 47, 50] from (ByteArray.toList_eq _).trans rfl, prs42] at this
    exact this
  have HLW := Lib.hid hL
  have HF := Lib.hid (fun W => floor_lit W v7 p4)
  have HCM := Lib.hid (fun W => cmp_lit W v2 v5 p5)
  have HT : Hid (∀ W, Below w.heap.size w W → Calls Tryd.prog 22 #[.agg #[.int .i64 (-3), .int .i64 2]] W fun e w' => e = .returned (.string ⟨#[45, 51, 47, 50]⟩) ∧ Below W.heap.size W w') := fun W hb => by
    have := ftext_any (-3) 2 W (hL.below hb) (by omega) (by omega) (by omega) (by omega)
    rw [txt32] at this
    exact this
  have HVY : Hid (∀ W, Calls Tryd.prog 15 #[.agg #[.int .i64 (-3), .int .i64 2]] W fun e w' => e = .returned (.bool true) ∧ Below W.heap.size W w') := fun W => by
    have := valid_any (-3) 2 W (by omega) (by omega) (by omega) (by omega)
    rwa [v8] at this
  have HVN : Hid (∀ W, Calls Tryd.prog 15 #[.agg #[.int .i64 2, .int .i64 4]] W fun e w' => e = .returned (.bool false) ∧ Below W.heap.size W w') := fun W => by
    have := valid_any 2 4 W (by omega) (by omega) (by omega) (by omega)
    rwa [v9] at this
  have HB0 := Lib.hid (Below.refl w.heap.size w)
  clear v1 v2 v3 v4 v5 v6 v7 v8 v9 m1 m2 m3 p1 p2 p3 p4 p5 hL
  go_enter Tryd.func11, Tryd.ntmps11
  go_upto_region 2 with (first | (go_at_call 13; (with_reducible refine (HM1.out _).mono ?_); rintro e t ⟨rfl, ht⟩))
  refine name_wp ?_
  intro W1 hW
  have HB1 : Hid (Below w.heap.size w W1) := by rw [hW]; exact below_alloc (below_then HB0.out ht) _
  have g0 : Blk W1 t.heap.size 25 #[.int .i64 (-3), .int .i64 2] := by rw [hW]; exact Blk.new _ _ _
  obtain ⟨b1, eb⟩ : ∃ b, t.heap.size = b := ⟨_, rfl⟩
  rw [eb] at g0 ⊢
  have G1 := Lib.hid g0
  clear g0 hW eb ht 
  go_upto_region 3 with (first | (go_at_call 13; (with_reducible refine (HM2.out _).mono ?_); rintro e t ⟨rfl, ht⟩))
  refine name_wp ?_
  intro W2 hW
  have HB2 : Hid (Below w.heap.size w W2) := by rw [hW]; exact below_alloc (below_then HB1.out ht) _
  have N1 : Hid (Blk W2 b1 25 #[.int .i64 (-3), .int .i64 2]) := by rw [hW]; exact (G1.out.then_ ht).alloc _
  clear G1
  have G1 := N1
  clear N1
  have g0 : Blk W2 t.heap.size 25 #[.int .i64 (0), .int .i64 1] := by rw [hW]; exact Blk.new _ _ _
  obtain ⟨b2, eb⟩ : ∃ b, t.heap.size = b := ⟨_, rfl⟩
  rw [eb] at g0 ⊢
  have G2 := Lib.hid g0
  clear g0 hW eb ht 
  go_upto_region 4 with (first | (go_at_call 13; (with_reducible refine (HM3.out _).mono ?_); rintro e t ⟨rfl, ht⟩))
  refine name_wp ?_
  intro W3 hW
  have HB3 : Hid (Below w.heap.size w W3) := by rw [hW]; exact below_alloc (below_then HB2.out ht) _
  have N1 : Hid (Blk W3 b1 25 #[.int .i64 (-3), .int .i64 2]) := by rw [hW]; exact (G1.out.then_ ht).alloc _
  have N2 : Hid (Blk W3 b2 25 #[.int .i64 (0), .int .i64 1]) := by rw [hW]; exact (G2.out.then_ ht).alloc _
  clear G1
  have G1 := N1
  clear N1
  clear G2
  have G2 := N2
  clear N2
  have g0 : Blk W3 t.heap.size 25 #[.int .i64 (0), .int .i64 0] := by rw [hW]; exact Blk.new _ _ _
  obtain ⟨b3, eb⟩ : ∃ b, t.heap.size = b := ⟨_, rfl⟩
  rw [eb] at g0 ⊢
  have G3 := Lib.hid g0
  clear g0 hW eb ht 
  go_upto_region 5 with (first | (go_at_call 13; (with_reducible refine (HM4.out _).mono ?_); rintro e t ⟨rfl, ht⟩))
  refine name_wp ?_
  intro W4 hW
  have HB4 : Hid (Below w.heap.size w W4) := by rw [hW]; exact below_alloc (below_then HB3.out ht) _
  have N1 : Hid (Blk W4 b1 25 #[.int .i64 (-3), .int .i64 2]) := by rw [hW]; exact (G1.out.then_ ht).alloc _
  have N2 : Hid (Blk W4 b2 25 #[.int .i64 (0), .int .i64 1]) := by rw [hW]; exact (G2.out.then_ ht).alloc _
  have N3 : Hid (Blk W4 b3 25 #[.int .i64 (0), .int .i64 0]) := by rw [hW]; exact (G3.out.then_ ht).alloc _
  clear G1
  have G1 := N1
  clear N1
  clear G2
  have G2 := N2
  clear N2
  clear G3
  have G3 := N3
  clear N3
  have g0 : Blk W4 t.heap.size 25 #[.int .i64 (0), .int .i64 0] := by rw [hW]; exact Blk.new _ _ _
  obtain ⟨b4, eb⟩ : ∃ b, t.heap.size = b := ⟨_, rfl⟩
  rw [eb] at g0 ⊢
  have G4 := Lib.hid g0
  clear g0 hW eb ht 
  go_upto_region 6 with (first | (go_at_call 20; (with_reducible refine (HO.out 1 6 _).mono ?_); rintro e u0 ⟨rfl, hu0⟩) | (go_at_call 20; (with_reducible refine (HO.out 1 3 _).mono ?_); rintro e u1 ⟨rfl, hu1⟩) | (go_at_call 17; (with_reducible refine (HC5.out _).mono ?_); rintro e t ⟨rfl, ht⟩))
  refine name_wp ?_
  intro W5 hW
  have HB5 : Hid (Below w.heap.size w W5) := by rw [hW]; exact below_alloc (below_then (below_then (below_then HB4.out hu0) hu1) ht) _
  have N1 : Hid (Blk W5 b1 25 #[.int .i64 (-3), .int .i64 2]) := by rw [hW]; exact (((G1.out.then_ hu0).then_ hu1).then_ ht).alloc _
  have N2 : Hid (Blk W5 b2 25 #[.int .i64 (0), .int .i64 1]) := by rw [hW]; exact (((G2.out.then_ hu0).then_ hu1).then_ ht).alloc _
  have N3 : Hid (Blk W5 b3 25 #[.int .i64 (0), .int .i64 0]) := by rw [hW]; exact (((G3.out.then_ hu0).then_ hu1).then_ ht).alloc _
  have N4 : Hid (Blk W5 b4 25 #[.int .i64 (0), .int .i64 0]) := by rw [hW]; exact (((G4.out.then_ hu0).then_ hu1).then_ ht).alloc _
  clear G1
  have G1 := N1
  clear N1
  clear G2
  have G2 := N2
  clear N2
  clear G3
  have G3 := N3
  clear N3
  clear G4
  have G4 := N4
  clear N4
  have g0 : Blk W5 t.heap.size 25 #[.int .i64 (1), .int .i64 2] := by rw [hW]; exact Blk.new _ _ _
  obtain ⟨b5, eb⟩ : ∃ b, t.heap.size = b := ⟨_, rfl⟩
  rw [eb] at g0 ⊢
  have G5 := Lib.hid g0
  clear g0 hW eb ht hu0 hu1
  go_upto_region 7 with (first | (go_at_call 20; (with_reducible refine (HO.out 2 3 _).mono ?_); rintro e u0 ⟨rfl, hu0⟩) | (go_at_call 20; (with_reducible refine (HO.out 9 4 _).mono ?_); rintro e u1 ⟨rfl, hu1⟩) | (go_at_call 18; (with_reducible refine (HC6.out _).mono ?_); rintro e t ⟨rfl, ht⟩))
  refine name_wp ?_
  intro W6 hW
  have HB6 : Hid (Below w.heap.size w W6) := by rw [hW]; exact below_alloc (below_then (below_then (below_then HB5.out hu0) hu1) ht) _
  have N1 : Hid (Blk W6 b1 25 #[.int .i64 (-3), .int .i64 2]) := by rw [hW]; exact (((G1.out.then_ hu0).then_ hu1).then_ ht).alloc _
  have N2 : Hid (Blk W6 b2 25 #[.int .i64 (0), .int .i64 1]) := by rw [hW]; exact (((G2.out.then_ hu0).then_ hu1).then_ ht).alloc _
  have N3 : Hid (Blk W6 b3 25 #[.int .i64 (0), .int .i64 0]) := by rw [hW]; exact (((G3.out.then_ hu0).then_ hu1).then_ ht).alloc _
  have N4 : Hid (Blk W6 b4 25 #[.int .i64 (0), .int .i64 0]) := by rw [hW]; exact (((G4.out.then_ hu0).then_ hu1).then_ ht).alloc _
  have N5 : Hid (Blk W6 b5 25 #[.int .i64 (1), .int .i64 2]) := by rw [hW]; exact (((G5.out.then_ hu0).then_ hu1).then_ ht).alloc _
  clear G1
  have G1 := N1
  clear N1
  clear G2
  have G2 := N2
  clear N2
  clear G3
  have G3 := N3
  clear N3
  clear G4
  have G4 := N4
  clear N4
  clear G5
  have G5 := N5
  clear N5
  have g0 : Blk W6 t.heap.size 25 #[.int .i64 (3), .int .i64 2] := by rw [hW]; exact Blk.new _ _ _
  obtain ⟨b6, eb⟩ : ∃ b, t.heap.size = b := ⟨_, rfl⟩
  rw [eb] at g0 ⊢
  have G6 := Lib.hid g0
  clear g0 hW eb ht hu0 hu1
  go_upto_region 8 with (first | (go_at_call 20; (with_reducible refine (HO.out 1 2 _).mono ?_); rintro e u0 ⟨rfl, hu0⟩) | (go_at_call 20; (with_reducible refine (HO.out 0 1 _).mono ?_); rintro e u1 ⟨rfl, hu1⟩) | (go_at_call 31; (with_reducible refine (HC7.out _).mono ?_); rintro e t ⟨rfl, ht⟩))
  refine name_wp ?_
  intro W7 hW
  have HB7 : Hid (Below w.heap.size w W7) := by rw [hW]; exact below_alloc (below_then (below_then (below_then HB6.out hu0) hu1) ht) _
  have N1 : Hid (Blk W7 b1 25 #[.int .i64 (-3), .int .i64 2]) := by rw [hW]; exact (((G1.out.then_ hu0).then_ hu1).then_ ht).alloc _
  have N2 : Hid (Blk W7 b2 25 #[.int .i64 (0), .int .i64 1]) := by rw [hW]; exact (((G2.out.then_ hu0).then_ hu1).then_ ht).alloc _
  have N3 : Hid (Blk W7 b3 25 #[.int .i64 (0), .int .i64 0]) := by rw [hW]; exact (((G3.out.then_ hu0).then_ hu1).then_ ht).alloc _
  have N4 : Hid (Blk W7 b4 25 #[.int .i64 (0), .int .i64 0]) := by rw [hW]; exact (((G4.out.then_ hu0).then_ hu1).then_ ht).alloc _
  have N5 : Hid (Blk W7 b5 25 #[.int .i64 (1), .int .i64 2]) := by rw [hW]; exact (((G5.out.then_ hu0).then_ hu1).then_ ht).alloc _
  have N6 : Hid (Blk W7 b6 25 #[.int .i64 (3), .int .i64 2]) := by rw [hW]; exact (((G6.out.then_ hu0).then_ hu1).then_ ht).alloc _
  clear G1
  have G1 := N1
  clear N1
  clear G2
  have G2 := N2
  clear N2
  clear G3
  have G3 := N3
  clear N3
  clear G4
  have G4 := N4
  clear N4
  clear G5
  have G5 := N5
  clear N5
  clear G6
  have G6 := N6
  clear N6
  have g0 : Blk W7 t.heap.size 25 #[.int .i64 (0), .int .i64 0] := by rw [hW]; exact Blk.new _ _ _
  obtain ⟨b7, eb⟩ : ∃ b, t.heap.size = b := ⟨_, rfl⟩
  rw [eb] at g0 ⊢
  have G7 := Lib.hid g0
  clear g0 hW eb ht hu0 hu1
  go_upto_region 9 with (first | (go_at_call 20; (with_reducible refine (HO.out 3 8 _).mono ?_); rintro e u0 ⟨rfl, hu0⟩) | (go_at_call 21; (with_reducible refine (HC8.out _).mono ?_); rintro e t ⟨rfl, ht⟩))
  refine name_wp ?_
  intro W8 hW
  have HB8 : Hid (Below w.heap.size w W8) := by rw [hW]; exact below_alloc (below_then (below_then HB7.out hu0) ht) _
  have N1 : Hid (Blk W8 b1 25 #[.int .i64 (-3), .int .i64 2]) := by rw [hW]; exact ((G1.out.then_ hu0).then_ ht).alloc _
  have N2 : Hid (Blk W8 b2 25 #[.int .i64 (0), .int .i64 1]) := by rw [hW]; exact ((G2.out.then_ hu0).then_ ht).alloc _
  have N3 : Hid (Blk W8 b3 25 #[.int .i64 (0), .int .i64 0]) := by rw [hW]; exact ((G3.out.then_ hu0).then_ ht).alloc _
  have N4 : Hid (Blk W8 b4 25 #[.int .i64 (0), .int .i64 0]) := by rw [hW]; exact ((G4.out.then_ hu0).then_ ht).alloc _
  have N5 : Hid (Blk W8 b5 25 #[.int .i64 (1), .int .i64 2]) := by rw [hW]; exact ((G5.out.then_ hu0).then_ ht).alloc _
  have N6 : Hid (Blk W8 b6 25 #[.int .i64 (3), .int .i64 2]) := by rw [hW]; exact ((G6.out.then_ hu0).then_ ht).alloc _
  have N7 : Hid (Blk W8 b7 25 #[.int .i64 (0), .int .i64 0]) := by rw [hW]; exact ((G7.out.then_ hu0).then_ ht).alloc _
  clear G1
  have G1 := N1
  clear N1
  clear G2
  have G2 := N2
  clear N2
  clear G3
  have G3 := N3
  clear N3
  clear G4
  have G4 := N4
  clear N4
  clear G5
  have G5 := N5
  clear N5
  clear G6
  have G6 := N6
  clear N6
  clear G7
  have G7 := N7
  clear N7
  have g0 : Blk W8 t.heap.size 25 #[.int .i64 (1), .int .i64 2] := by rw [hW]; exact Blk.new _ _ _
  obtain ⟨b8, eb⟩ : ∃ b, t.heap.size = b := ⟨_, rfl⟩
  rw [eb] at g0 ⊢
  have G8 := Lib.hid g0
  clear g0 hW eb ht hu0
  have HBP := Lib.hid HB8.out
  go_upto_region 10 with (first | (go_at_call 23; (with_reducible refine (HC9.out _ HBP.out).mono ?_); rintro e t ⟨rfl, ht⟩))
  refine name_wp ?_
  intro W9 hW
  have HB9 : Hid (Below w.heap.size w W9) := by rw [hW]; exact below_alloc (below_then HB8.out ht) _
  have N1 : Hid (Blk W9 b1 25 #[.int .i64 (-3), .int .i64 2]) := by rw [hW]; exact (G1.out.then_ ht).alloc _
  have N2 : Hid (Blk W9 b2 25 #[.int .i64 (0), .int .i64 1]) := by rw [hW]; exact (G2.out.then_ ht).alloc _
  have N3 : Hid (Blk W9 b3 25 #[.int .i64 (0), .int .i64 0]) := by rw [hW]; exact (G3.out.then_ ht).alloc _
  have N4 : Hid (Blk W9 b4 25 #[.int .i64 (0), .int .i64 0]) := by rw [hW]; exact (G4.out.then_ ht).alloc _
  have N5 : Hid (Blk W9 b5 25 #[.int .i64 (1), .int .i64 2]) := by rw [hW]; exact (G5.out.then_ ht).alloc _
  have N6 : Hid (Blk W9 b6 25 #[.int .i64 (3), .int .i64 2]) := by rw [hW]; exact (G6.out.then_ ht).alloc _
  have N7 : Hid (Blk W9 b7 25 #[.int .i64 (0), .int .i64 0]) := by rw [hW]; exact (G7.out.then_ ht).alloc _
  have N8 : Hid (Blk W9 b8 25 #[.int .i64 (1), .int .i64 2]) := by rw [hW]; exact (G8.out.then_ ht).alloc _
  clear G1
  have G1 := N1
  clear N1
  clear G2
  have G2 := N2
  clear N2
  clear G3
  have G3 := N3
  clear N3
  clear G4
  have G4 := N4
  clear N4
  clear G5
  have G5 := N5
  clear N5
  clear G6
  have G6 := N6
  clear N6
  clear G7
  have G7 := N7
  clear N7
  clear G8
  have G8 := N8
  clear N8
  have g0 : Blk W9 t.heap.size 25 #[.int .i64 (0), .int .i64 0] := by rw [hW]; exact Blk.new _ _ _
  obtain ⟨b9, eb⟩ : ∃ b, t.heap.size = b := ⟨_, rfl⟩
  rw [eb] at g0 ⊢
  have G9 := Lib.hid g0
  clear g0 hW eb ht 
  have x1 : W9.cell? ⟨b1, 0, none⟩ = some (.int .i64 (-3)) := G1.out.cell 0
  have y1 : W9.cell? ⟨b1, 1, none⟩ = some (.int .i64 2) := G1.out.cell 1
  have l1 := G1.out.lt
  have x2 : W9.cell? ⟨b2, 0, none⟩ = some (.int .i64 (0)) := G2.out.cell 0
  have y2 : W9.cell? ⟨b2, 1, none⟩ = some (.int .i64 1) := G2.out.cell 1
  have l2 := G2.out.lt
  have rg0 := cell_regrown x1
  have rg1 := cell_regrown y1
  have rg2 := cell_regrown x2
  have rg3 := cell_regrown y2
  refine wp_region_qt [0, 1, 2, 3, 4, 5, 6, 7, 8, 9, 10, 11, 12, 13, 14, 15, 16, 17, 18, 19, 20, 21, 22, 23, 24] [] (by kernel_rfl) (by kernel_rfl) (by repeat (first | with_reducible refine panOk_then ?_ | with_reducible refine panOk_block ?_ | exact panOk_body)) ?_
  simp only [opsAt, List.getElem?_toArray, List.getElem?_cons_succ, List.getElem?_cons_zero, Option.toList_some, List.cons_append, List.nil_append]
  repeat (go_big_quiet_step ((go_at_call 20; with_reducible exact qt_call (fun W' _ => HO.out _ _ W') _ _)))
  refine wpQuiet_nil ?_
  intro V1 hw2
  have hbV1 := qt_world hw2
  clear hw2 rg0 rg1 rg2 rg3
  have HV1 : Hid (Below w.heap.size w V1) := below_then HB9.out hbV1
  have N5 := Lib.hid (G5.out.then_ hbV1)
  clear G5
  have G5 := N5
  clear N5
  have N6 := Lib.hid (G6.out.then_ hbV1)
  clear G6
  have G6 := N6
  clear N6
  have N8 := Lib.hid (G8.out.then_ hbV1)
  clear G8
  have G8 := N8
  clear N8
  clear hbV1 x1 y1 x2 y2 l1 l2
  go_upto_region 11 with (fail)
  have x5 : V1.cell? ⟨b5, 0, none⟩ = some (.int .i64 (1)) := G5.out.cell 0
  have y5 : V1.cell? ⟨b5, 1, none⟩ = some (.int .i64 2) := G5.out.cell 1
  have l5 := G5.out.lt
  have x6 : V1.cell? ⟨b6, 0, none⟩ = some (.int .i64 (3)) := G6.out.cell 0
  have y6 : V1.cell? ⟨b6, 1, none⟩ = some (.int .i64 2) := G6.out.cell 1
  have l6 := G6.out.lt
  have x8 : V1.cell? ⟨b8, 0, none⟩ = some (.int .i64 (1)) := G8.out.cell 0
  have y8 : V1.cell? ⟨b8, 1, none⟩ = some (.int .i64 2) := G8.out.cell 1
  have l8 := G8.out.lt
  have rg0 := cell_regrown x5
  have rg1 := cell_regrown y5
  have rg2 := cell_regrown x6
  have rg3 := cell_regrown y6
  have rg4 := cell_regrown x8
  have rg5 := cell_regrown y8
  refine wp_region_qt [0, 1, 2, 3, 4, 5, 6, 7, 8, 9, 10, 11, 12, 13, 14, 15, 16, 17, 18, 19, 20, 21, 22, 23, 24, 25, 26, 27, 28, 29] [] (by kernel_rfl) (by kernel_rfl) (by repeat (first | with_reducible refine panOk_then ?_ | with_reducible refine panOk_block ?_ | exact panOk_body)) ?_
  simp only [opsAt, List.getElem?_toArray, List.getElem?_cons_succ, List.getElem?_cons_zero, Option.toList_some, List.cons_append, List.nil_append]
  repeat (go_big_quiet_step ((go_at_call 20; with_reducible exact qt_call (fun W' _ => HO.out _ _ W') _ _)))
  refine wpQuiet_nil ?_
  intro V2 hw2
  have hbV2 := qt_world hw2
  clear hw2 rg0 rg1 rg2 rg3 rg4 rg5
  have HV2 : Hid (Below w.heap.size w V2) := below_then HV1.out hbV2
  clear hbV2 x5 y5 x6 y6 x8 y8 l5 l6 l8
  have hv2 := HV2.out
  go_wp2_with (first | (go_at_call 20; (with_reducible refine (HO.out _ _ _).mono ?_); rintro e u ⟨rfl, hu⟩) | (go_at_call 19; (with_reducible refine (HF.out _).mono ?_); rintro e u ⟨rfl, hu⟩) | (go_at_call 22; (with_reducible refine (HT.out _ (by (repeat (first | with_reducible assumption | with_reducible exact Below.refl _ _ | with_reducible refine below_drewN ?_ _ | with_reducible refine Below.drew ?_ | with_reducible refine below_alloc ?_ _ | with_reducible refine Below.setCell ?_ (by first | omega | (simp; done) | (simp; omega)) _ | with_reducible refine below_then ?_ (by with_reducible assumption) | (refine below_then (a := World.drew _) ?_ (by with_reducible assumption)))))).mono ?_); rintro e u ⟨rfl, hu⟩) | (go_at_call 15; (with_reducible refine (HVY.out _).mono ?_); rintro e u ⟨rfl, hu⟩) | (go_at_call 15; (with_reducible refine (HVN.out _).mono ?_); rintro e u ⟨rfl, hu⟩) | (go_at_call 16; (with_reducible refine (HCM.out _).mono ?_); rintro e u ⟨rfl, hu⟩))
  go_ret
  exact ⟨rfl, by (repeat (first | with_reducible assumption | with_reducible exact Below.refl _ _ | with_reducible refine below_drewN ?_ _ | with_reducible refine Below.drew ?_ | with_reducible refine below_alloc ?_ _ | with_reducible refine Below.setCell ?_ (by first | omega | (simp; done) | (simp; omega)) _ | with_reducible refine below_then ?_ (by with_reducible assumption) | (refine below_then (a := World.drew _) ?_ (by with_reducible assumption))))⟩
end Go.Proofs.YtbkekabhdpoddaaDoor
