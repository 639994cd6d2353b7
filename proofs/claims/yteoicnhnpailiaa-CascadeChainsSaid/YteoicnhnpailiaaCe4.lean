/- The walk of the law's head: fixed examples with known results. -/
import Derived.Test.YteoicnhnpailiaaCe3
namespace Go.Proofs.Yteoicnhnpailiaa
open Go.RowKit Go.Sort Go.Maps

structure Hd (w0 W : World) (bP : Nat) (b : Sx) (p : Pf) : Prop where
  E : ExB W b p
  P : Blk W bP 27 #[.int .i64 3, .slice (some ⟨b.a, 0, none⟩) 3 3, .slice (some ⟨b.u, 0, none⟩) 1 1, .slice (some ⟨b.l, 0, none⟩) 1 1, .slice (some ⟨b.g, 0, none⟩) 1 1, .slice (some ⟨b.t, 0, none⟩) 1 1]
  B : Below w0.heap.size w0 W
theorem Hd.then_ {w0 W W' : World} {bP : Nat} {b : Sx} {p : Pf} (h : Hd w0 W bP b p) (hb : Below W.heap.size W W') : Hd w0 W' bP b p := ⟨h.E.then_ hb, h.P.then_ hb, below_then h.B hb⟩
theorem Hd.alloc {w0 W : World} {bP : Nat} {b : Sx} {p : Pf} (h : Hd w0 W bP b p) (o : Obj) : Hd w0 (W.alloc o) bP b p := h.then_ (wa1 _ _)
abbrev st3 (W : World) (g : Nat) (v0 v1 v2 : Value) : World := ((W.setCell ⟨g, 0, none⟩ v0).setCell ⟨g, 1, none⟩ v1).setCell ⟨g, 2, none⟩ v2
theorem Blk.far3 {W : World} {b g : Nat} {t : TypeId} {cs : Array Value} (h : Blk W g t cs) (hg : g ≠ b) (v0 v1 v2 : Value) : Blk (st3 W b v0 v1 v2) g t cs := ((h.far hg v0).far hg v1).far hg v2
theorem Blk.st3 {W : World} {b : Nat} {t : TypeId} {u0 u1 u2 : Value} (h : Blk W b t #[u0, u1, u2]) (v0 v1 v2 : Value) : Blk (st3 W b v0 v1 v2) b t #[v0, v1, v2] := by
  have h' := ((h.set_ 0 v0).set_ 1 v1).set_ 2 v2
  simp only [List.setIfInBounds_toArray, List.set_cons_zero, List.set_cons_succ] at h'
  exact h'
theorem Own.st3 {α : Type} {w : World} {B : Nat} {T : TypeId} {size : Nat} {enc : α → List Value} {v : Value} {xs : List α} {g : Nat} {t : TypeId} {cs : Array Value} (h : Own w B T size enc v xs) (hb : Blk w g t cs) (ht : T ≠ t) (v0 v1 v2 : Value) : Own (st3 w g v0 v1 v2) B T size enc v xs :=
  ((h.setOther (p := ⟨g, 0, none⟩) hb ht v0).setOther (p := ⟨g, 1, none⟩) (hb.set_ 0 v0) ht v1).setOther (p := ⟨g, 2, none⟩) ((hb.set_ 0 v0).set_ 1 v1) ht v2
theorem Hd.setG {w0 W : World} {bP : Nat} {b : Sx} (h : Hd w0 W bP b exE) (hg : w0.heap.size ≤ b.g) : Hd w0 (Proofs.Yteoicnhnpailiaa.st3 W b.g (.int .i64 1) (.int .i64 0) (.int .i64 2)) bP b exF :=
  ⟨⟨h.E.a.far3 (h.E.a.ne_ty h.E.g (by decide)) _ _ _, h.E.u.far3 (h.E.u.ne_ty h.E.g (by decide)) _ _ _, h.E.l.far3 (h.E.l.ne_ty h.E.g (by decide)) _ _ _, Blk.st3 (u0 := .int .i64 1) (u1 := .int .i64 2) (u2 := .int .i64 0) h.E.g _ _ _, h.E.t.far3 (h.E.t.ne_ty h.E.g (by decide)) _ _ _⟩,
    h.P.far3 (h.P.ne_ty h.E.g (by decide)) _ _ _, ((h.B.setCell (p := ⟨b.g, 0, none⟩) hg _).setCell (p := ⟨b.g, 1, none⟩) hg _).setCell (p := ⟨b.g, 2, none⟩) hg _⟩
theorem Hd.setA {w0 W : World} {bP : Nat} {b : Sx} (h : Hd w0 W bP b exF) (hg : w0.heap.size ≤ b.a) : Hd w0 (W.setCell ⟨b.a, 2, none⟩ (.int .i64 (-1))) bP b exG :=
  ⟨⟨h.E.a.set_ 2 _, h.E.u.far (p := ⟨b.a, 2, none⟩) (h.E.u.ne_ty h.E.a (by decide)) _, h.E.l.far (p := ⟨b.a, 2, none⟩) (h.E.l.ne_ty h.E.a (by decide)) _, h.E.g.far (p := ⟨b.a, 2, none⟩) (h.E.g.ne_ty h.E.a (by decide)) _, h.E.t.far (p := ⟨b.a, 2, none⟩) (h.E.t.ne_ty h.E.a (by decide)) _⟩,
    h.P.far (p := ⟨b.a, 2, none⟩) (h.P.ne_ty h.E.a (by decide)) _, h.B.setCell (p := ⟨b.a, 2, none⟩) hg _⟩
theorem owed_ex {p : Pf} (hv : VP p) {i : Int} {d : List Bool} {r : Ending} (h : OwE (ow p (pad d) i) = r) (hi : 0 ≤ i ∧ i < p.n) (hd : (d.length : Int) = p.n) (b : Sx) (W : World) (g : Nat) (hE : ExB W b p) (hg : Blk W g 4 (d.map Value.bool).toArray) :
    Calls Try.prog 17 #[.agg (pfA p (sxM b)), .int .i64 i, .slice (some ⟨g, 0, none⟩) d.length d.length] W fun e w' => e = r ∧ Below W.heap.size W w' := by
  have := Owed_any p (sxM b) i d (some ⟨g, 0, none⟩) d.length W hv hE.pm hi hd (seg_of_blk (enc := encB) (size := 1) encB_len d hg (by rw [flatB]))
  rwa [h] at this
set_option maxRecDepth 100000 in
set_option maxHeartbeats 3200000 in
theorem head_any (w : World) : Calls Try.prog 11 #[] w fun e w' => e = .returned (.bool true) ∧ Below w.heap.size w w' := by
  go_enter Try.func11, Try.ntmps11
  have HZ := Lib.hid (Below.refl w.heap.size w)
  go_upto_region 2 with (go_at_call 28; with_reducible refine (example_any _).mono ?_; rintro e w1 ⟨⟨b, rfl, hE, na, ng⟩, hk⟩)
  refine name_wp ?_
  intro X hX
  have H := Lib.hid (show Hd w X w1.heap.size b exE from ⟨by rw [hX]; exact hE.then_ (wa1 _ _), by rw [hX]; exact Blk.new _ _ _, by rw [hX]; exact below_alloc (below_then HZ.out hk) _⟩)
  obtain ⟨bP, eP⟩ : ∃ g, w1.heap.size = g := ⟨_, rfl⟩
  rw [eP] at H ⊢
  have HOA : Hid (∀ (W : World) (g : Nat), Hd w W bP b exE → Blk W g 4 #[.bool false, .bool false, .bool false] → Calls Try.prog 17 #[.agg #[.int .i64 3, .slice (some ⟨b.a, 0, none⟩) 3 3, .slice (some ⟨b.u, 0, none⟩) 1 1, .slice (some ⟨b.l, 0, none⟩) 1 1, .slice (some ⟨b.g, 0, none⟩) 1 1, .slice (some ⟨b.t, 0, none⟩) 1 1], .int .i64 0, .slice (some ⟨g, 0, none⟩) 3 3] W fun e w' => e = .returned (.tuple #[.agg #[.int .i64 6, .int .i64 1], .int .i64 0]) ∧ Below W.heap.size W w') := fun W g hW hg => owed_ex exE_v (d := [false, false, false]) exE_a (by decide) (by decide) b W g hW.E hg
  have HOB : Hid (∀ (W : World) (g : Nat), Hd w W bP b exE → Blk W g 4 #[.bool true, .bool false, .bool false] → Calls Try.prog 17 #[.agg #[.int .i64 3, .slice (some ⟨b.a, 0, none⟩) 3 3, .slice (some ⟨b.u, 0, none⟩) 1 1, .slice (some ⟨b.l, 0, none⟩) 1 1, .slice (some ⟨b.g, 0, none⟩) 1 1, .slice (some ⟨b.t, 0, none⟩) 1 1], .int .i64 1, .slice (some ⟨g, 0, none⟩) 3 3] W fun e w' => e = .returned (.tuple #[.agg #[.int .i64 7, .int .i64 1], .int .i64 0]) ∧ Below W.heap.size W w') := fun W g hW hg => owed_ex exE_v (d := [true, false, false]) exE_b (by decide) (by decide) b W g hW.E hg
  have HOC : Hid (∀ (W : World) (g : Nat), Hd w W bP b exF → Blk W g 4 #[.bool true, .bool true, .bool false] → Calls Try.prog 17 #[.agg #[.int .i64 3, .slice (some ⟨b.a, 0, none⟩) 3 3, .slice (some ⟨b.u, 0, none⟩) 1 1, .slice (some ⟨b.l, 0, none⟩) 1 1, .slice (some ⟨b.g, 0, none⟩) 1 1, .slice (some ⟨b.t, 0, none⟩) 1 1], .int .i64 0, .slice (some ⟨g, 0, none⟩) 3 3] W fun e w' => e = .returned (.tuple #[.agg #[.int .i64 13, .int .i64 1], .int .i64 0]) ∧ Below W.heap.size W w') := fun W g hW hg => owed_ex exF_v (d := [true, true, false]) exF_c (by decide) (by decide) b W g hW.E hg
  have HDE : Hid (∀ W : World, Hd w W bP b exE → Calls Try.prog 13 #[.agg #[.int .i64 3, .slice (some ⟨b.a, 0, none⟩) 3 3, .slice (some ⟨b.u, 0, none⟩) 1 1, .slice (some ⟨b.l, 0, none⟩) 1 1, .slice (some ⟨b.g, 0, none⟩) 1 1, .slice (some ⟨b.t, 0, none⟩) 1 1]] W fun e w' => (∃ v, e = .returned (.tuple #[v, .int .i64 0]) ∧ GotB W.heap.size w' [true, true, false] v) ∧ Below W.heap.size W w') := fun W hW => defs_ex (sxM b) W hW.E.pm
  have HW1 : Hid (∀ W : World, Hd w W bP b exE → Calls Try.prog 21 #[.agg #[.int .i64 3, .slice (some ⟨b.a, 0, none⟩) 3 3, .slice (some ⟨b.u, 0, none⟩) 1 1, .slice (some ⟨b.l, 0, none⟩) 1 1, .slice (some ⟨b.g, 0, none⟩) 1 1, .slice (some ⟨b.t, 0, none⟩) 1 1], .int .i64 1] W fun e w' => (∃ v, e = .returned (.tuple #[v, .int .i64 0]) ∧ Own w' W.heap.size 3 1 encN v [0, 1]) ∧ Below W.heap.size W w') := fun W hW => why1_ex (sxM b) W hW.E.pm
  have HW2 : Hid (∀ W : World, Hd w W bP b exE → Calls Try.prog 21 #[.agg #[.int .i64 3, .slice (some ⟨b.a, 0, none⟩) 3 3, .slice (some ⟨b.u, 0, none⟩) 1 1, .slice (some ⟨b.l, 0, none⟩) 1 1, .slice (some ⟨b.g, 0, none⟩) 1 1, .slice (some ⟨b.t, 0, none⟩) 1 1], .int .i64 2] W fun e w' => e = .returned (.tuple #[.slice none 0 0, .int .i64 14]) ∧ Below W.heap.size W w') := fun W hW => why2_ex (sxM b) W hW.E.pm
  have HDG : Hid (∀ W : World, Hd w W bP b exG → Calls Try.prog 13 #[.agg #[.int .i64 3, .slice (some ⟨b.a, 0, none⟩) 3 3, .slice (some ⟨b.u, 0, none⟩) 1 1, .slice (some ⟨b.l, 0, none⟩) 1 1, .slice (some ⟨b.g, 0, none⟩) 1 1, .slice (some ⟨b.t, 0, none⟩) 1 1]] W fun e w' => e = .returned (.tuple #[.slice none 0 0, .int .i64 1]) ∧ Below W.heap.size W w') := fun W hW => defs_bad exG (sxM b) W exG_f hW.E.pm exG_v
  have HNG := Lib.hid (And.intro na ng)
  obtain ⟨k0, k1, k2, k3, k4, k5, _, _, _, _, _, _⟩ := free6 H.out.P; have lP := H.out.P.lt
  clear hX hE na ng eP hk HZ
  have hmk : ∀ w : World, (Instr.makeSlice 30 (.int .i64 3) (.int .i64 3)).run Try.prog w = .ok (.slice (some ⟨w.heap.size, 0, none⟩) 3 3) (w.alloc (.cells #[.bool false, .bool false, .bool false] 4)) := by intro w; kernel_rfl
  -- a := Owed(p, 0, none)
  go_upto_region 4 with (go_at_call 17; (with_reducible refine (HOA.out _ _ (H.out.alloc _) (Blk.new _ _ _)).mono ?_); rintro e w2 ⟨rfl, hk⟩)
  refine name_wp ?_
  intro X2 hX2
  have H2 := Lib.hid (show Hd w X2 bP b exE from by rw [hX2]; exact ((H.out.alloc _).then_ hk).alloc _)
  have ga : Blk X2 w2.heap.size 44 #[.int .i64 6, .int .i64 1] := by rw [hX2]; exact Blk.new _ _ _
  have nA : bP ≠ w2.heap.size ∧ b.a ≠ w2.heap.size := by
    have h1 := hk.size; have h2 := H.out.E.a.lt; simp at h1; exact ⟨by omega, by omega⟩
  obtain ⟨bA, eA⟩ : ∃ g, w2.heap.size = g := ⟨_, rfl⟩
  rw [eA] at nA
  have NA := Lib.hid nA
  clear nA
  rw [eA] at ga ⊢
  have GA := Lib.hid ga
  clear k0 k1 k2 k3 k4 k5 lP
  obtain ⟨k0, k1, k2, k3, k4, k5, _, _, _, _, _, _⟩ := free6 H2.out.P; have lP := H2.out.P.lt
  clear hX2 hk ga eA H HOA
  -- b := Owed(p, 1, ..)
  go_upto_region 5 with (go_at_call 17; (with_reducible refine (HOB.out _ _ (H2.out.alloc _) (Blk.new _ _ _)).mono ?_); rintro e w3 ⟨rfl, hk⟩)
  refine name_wp ?_
  intro X3 hX3
  have H3 := Lib.hid (show Hd w X3 bP b exE from by rw [hX3]; exact ((H2.out.alloc _).then_ hk).alloc _)
  have gb : Blk X3 w3.heap.size 44 #[.int .i64 7, .int .i64 1] := by rw [hX3]; exact Blk.new _ _ _
  have ga := Lib.hid (show Blk X3 bA 44 #[.int .i64 6, .int .i64 1] by rw [hX3]; exact ((GA.out.alloc _).then_ hk).alloc _)
  have nB : bP ≠ w3.heap.size ∧ b.a ≠ w3.heap.size := by
    have h1 := hk.size; have h2 := H2.out.E.a.lt; simp at h1; exact ⟨by omega, by omega⟩
  obtain ⟨bB, eB⟩ : ∃ g, w3.heap.size = g := ⟨_, rfl⟩
  rw [eB] at nB
  have NB := Lib.hid nB
  clear nB
  rw [eB] at gb ⊢
  have gb := Lib.hid gb
  clear k0 k1 k2 k3 k4 k5 lP
  obtain ⟨k0, k1, k2, k3, k4, k5, _, _, _, _, _, _⟩ := free6 H3.out.P; have lP := H3.out.P.lt
  clear hX3 hk eB H2 HOB GA
  -- d := Defaults(p); w := Why(p, 1); Why(p, 2)
  go_upto_region 6 with (go_at_call 13; (with_reducible refine (HDE.out _ H3.out).mono ?_); rintro e w4 ⟨⟨vd, rfl, hd⟩, hk⟩)
  have H4 := Lib.hid (H3.out.then_ hk)
  replace ga := Lib.hid (ga.out.then_ hk)
  replace gb := Lib.hid (gb.out.then_ hk)
  clear k0 k1 k2 k3 k4 k5 lP
  obtain ⟨k0, k1, k2, k3, k4, k5, _, _, _, _, _, _⟩ := free6 H4.out.P; have lP := H4.out.P.lt
  obtain ⟨Ad, cd, rfl, _, _⟩ := Own.seg hd encB_len
  have OD := Lib.hid (show Own w4 0 4 1 encB (.slice Ad 3 cd) [true, true, false] from Own.more hd (Nat.zero_le _))
  clear hk hd H3 HDE
  go_upto_region 7 with (go_at_call 21; (with_reducible refine (HW1.out _ H4.out).mono ?_); rintro e w5 ⟨⟨vw, rfl, hd⟩, hk⟩)
  have H5 := Lib.hid (H4.out.then_ hk)
  replace ga := Lib.hid (ga.out.then_ hk)
  replace gb := Lib.hid (gb.out.then_ hk)
  replace OD := Lib.hid (Own.below OD.out hk)
  clear k0 k1 k2 k3 k4 k5 lP
  obtain ⟨k0, k1, k2, k3, k4, k5, _, _, _, _, _, _⟩ := free6 H5.out.P; have lP := H5.out.P.lt
  obtain ⟨Aw, cw, rfl, _, _⟩ := hd.seg (size := 1) (enc := encN) encN_len
  have OW := Lib.hid (show Own w5 0 3 1 encN (.slice Aw 2 cw) [0, 1] from Own.more hd (Nat.zero_le _))
  clear hk hd H4 HW1
  go_upto_region 8 with (go_at_call 21; (with_reducible refine (HW2.out _ H5.out).mono ?_); rintro e w6 ⟨rfl, hk⟩)
  have H6 := Lib.hid (H5.out.then_ hk)
  replace ga := Lib.hid (ga.out.then_ hk)
  replace gb := Lib.hid (gb.out.then_ hk)
  replace OD := Lib.hid (Own.below OD.out hk)
  replace OW := Lib.hid (Own.below OW.out hk)
  clear k0 k1 k2 k3 k4 k5 lP
  obtain ⟨k0, k1, k2, k3, k4, k5, _, _, _, _, _, _⟩ := free6 H6.out.P; have lP := H6.out.P.lt
  clear hk H5 HW2
  -- p.Guarantees[0] = ..
  obtain ⟨g0, g1, g2⟩ : w6.cell? ⟨b.g, 0, none⟩ = some (.int .i64 1) ∧ w6.cell? ⟨b.g, 1, none⟩ = some (.int .i64 2) ∧ w6.cell? ⟨b.g, 2, none⟩ = some (.int .i64 0) := ⟨H6.out.E.g.cell 0, H6.out.E.g.cell 1, H6.out.E.g.cell 2⟩
  obtain ⟨f0, f1, f2⟩ : w6.frozen? ⟨b.g, 0, none⟩ = false ∧ w6.frozen? ⟨b.g, 1, none⟩ = false ∧ w6.frozen? ⟨b.g, 2, none⟩ = false := ⟨H6.out.E.g.frozen 0, H6.out.E.g.frozen 1, H6.out.E.g.frozen 2⟩
  have lg := H6.out.E.g.lt
  go_upto_region 9 with (fail)
  refine name_wp ?_
  intro X7 hX7
  have H7 := Lib.hid (show Hd w X7 bP b exF from by rw [hX7]; exact H6.out.setG HNG.out.2)
  replace ga := Lib.hid (show Blk X7 bA 44 #[.int .i64 6, .int .i64 1] from by rw [hX7]; exact ga.out.far3 (ga.out.ne_ty H6.out.E.g (by decide)) _ _ _)
  replace gb := Lib.hid (show Blk X7 bB 44 #[.int .i64 7, .int .i64 1] from by rw [hX7]; exact gb.out.far3 (gb.out.ne_ty H6.out.E.g (by decide)) _ _ _)
  replace OD := Lib.hid (show Own X7 0 4 1 encB (.slice Ad 3 cd) [true, true, false] from by rw [hX7]; exact Own.st3 OD.out H6.out.E.g (by decide) _ _ _)
  replace OW := Lib.hid (show Own X7 0 3 1 encN (.slice Aw 2 cw) [0, 1] from by rw [hX7]; exact Own.st3 OW.out H6.out.E.g (by decide) _ _ _)
  clear k0 k1 k2 k3 k4 k5 lP
  clear hX7 g0 g1 g2 f0 f1 f2 lg H6
  obtain ⟨k0, k1, k2, k3, k4, k5, _, _, _, _, _, _⟩ := free6 H7.out.P; have lP := H7.out.P.lt
  -- c := Owed(p, 0, [true, true, false])
  go_upto_region 10 with (go_at_call 17; (with_reducible refine (HOC.out _ _ (H7.out.alloc _) (Blk.new _ _ _)).mono ?_); rintro e w8 ⟨rfl, hk⟩)
  refine name_wp ?_
  intro X8 hX8
  have H8 := Lib.hid (show Hd w X8 bP b exF from by rw [hX8]; exact ((H7.out.alloc _).then_ hk).alloc _)
  have gc : Blk X8 w8.heap.size 44 #[.int .i64 13, .int .i64 1] := by rw [hX8]; exact Blk.new _ _ _
  replace ga := Lib.hid (show Blk X8 bA 44 #[.int .i64 6, .int .i64 1] by rw [hX8]; exact ((ga.out.alloc _).then_ hk).alloc _)
  replace gb := Lib.hid (show Blk X8 bB 44 #[.int .i64 7, .int .i64 1] by rw [hX8]; exact ((gb.out.alloc _).then_ hk).alloc _)
  replace OD := Lib.hid (show Own X8 0 4 1 encB (.slice Ad 3 cd) [true, true, false] by rw [hX8]; exact Own.alloc (Own.below (Own.alloc OD.out _) hk) _)
  replace OW := Lib.hid (show Own X8 0 3 1 encN (.slice Aw 2 cw) [0, 1] by rw [hX8]; exact Own.alloc (Own.below (Own.alloc OW.out _) hk) _)
  have nC : bP ≠ w8.heap.size ∧ b.a ≠ w8.heap.size := by
    have h1 := hk.size; have h2 := H7.out.E.a.lt; simp at h1; exact ⟨by omega, by omega⟩
  obtain ⟨bC, eC⟩ : ∃ g, w8.heap.size = g := ⟨_, rfl⟩
  rw [eC] at nC gc ⊢
  have NC := Lib.hid nC
  have gc := Lib.hid gc
  clear k0 k1 k2 k3 k4 k5 lP
  clear hX8 hk eC nC H7 HOC
  obtain ⟨k0, k1, k2, k3, k4, k5, _, _, _, _, _, _⟩ := free6 H8.out.P; have lP := H8.out.P.lt
  -- p.Assets[1].Num = -1
  have ca2 : X8.cell? ⟨b.a, 2, none⟩ = some (.int .i64 5) := H8.out.E.a.cell 2
  have fa2 : X8.frozen? ⟨b.a, 2, none⟩ = false := H8.out.E.a.frozen 2
  have la := H8.out.E.a.lt
  go_upto_region 11 with (fail)
  refine name_wp ?_
  intro X9 hX9
  have H9 := Lib.hid (show Hd w X9 bP b exG from by rw [hX9]; exact H8.out.setA HNG.out.1)
  replace ga := Lib.hid (show Blk X9 bA 44 #[.int .i64 6, .int .i64 1] from by rw [hX9]; exact ga.out.far (p := ⟨b.a, 2, none⟩) NA.out.2.symm _)
  replace gb := Lib.hid (show Blk X9 bB 44 #[.int .i64 7, .int .i64 1] from by rw [hX9]; exact gb.out.far (p := ⟨b.a, 2, none⟩) NB.out.2.symm _)
  replace gc := Lib.hid (show Blk X9 bC 44 #[.int .i64 13, .int .i64 1] from by rw [hX9]; exact gc.out.far (p := ⟨b.a, 2, none⟩) NC.out.2.symm _)
  replace OD := Lib.hid (show Own X9 0 4 1 encB (.slice Ad 3 cd) [true, true, false] from by rw [hX9]; exact Own.setOther (p := ⟨b.a, 2, none⟩) OD.out H8.out.E.a (by decide) _)
  replace OW := Lib.hid (show Own X9 0 3 1 encN (.slice Aw 2 cw) [0, 1] from by rw [hX9]; exact Own.setOther (p := ⟨b.a, 2, none⟩) OW.out H8.out.E.a (by decide) _)
  clear k0 k1 k2 k3 k4 k5 lP
  clear hX9 ca2 fa2 la H8
  obtain ⟨k0, k1, k2, k3, k4, k5, _, _, _, _, _, _⟩ := free6 H9.out.P; have lP := H9.out.P.lt
  -- Defaults(p) once more
  go_upto_region 12 with (go_at_call 13; (with_reducible refine (HDG.out _ H9.out).mono ?_); rintro e wA ⟨rfl, hk⟩)
  have HA := Lib.hid (H9.out.then_ hk)
  replace ga := Lib.hid (ga.out.then_ hk)
  replace gb := Lib.hid (gb.out.then_ hk)
  replace gc := Lib.hid (gc.out.then_ hk)
  replace OD := Lib.hid (Own.below OD.out hk)
  replace OW := Lib.hid (Own.below OW.out hk)
  clear k0 k1 k2 k3 k4 k5 lP
  clear hk H9 HDG NA NB NC HNG
  obtain ⟨A', c', e', _, sd⟩ := Own.seg OD.out encB_len
  cases e'
  obtain ⟨A', c', e', _, sw⟩ := Own.seg OW.out encN_len
  cases e'
  have SD := Lib.hid sd
  have SW := Lib.hid sw
  clear sd sw OD OW
  have HBO : Hid (∀ (W : World) (g : Nat), Below wA.heap.size wA W → Blk W g 4 #[.bool true, .bool true, .bool false] → Calls Try.prog 16 #[.slice Ad 3 cd, .slice (some ⟨g, 0, none⟩) 3 3] W fun e w' => e = .returned (.bool true) ∧ Below W.heap.size W w') := fun W g hW hg =>
    bools_any [true, true, false] [true, true, false] Ad (some ⟨g, 0, none⟩) cd 3 W (by decide) (by decide) ((SD.out.below hW).more hW.size) (seg_of_blk (enc := encB) (size := 1) encB_len [true, true, false] hg rfl)
  have HIN : Hid (∀ (W : World) (g : Nat), Below wA.heap.size wA W → Blk W g 3 #[.int .i64 0, .int .i64 1] → Calls Try.prog 29 #[.slice Aw 2 cw, .slice (some ⟨g, 0, none⟩) 2 2] W fun e w' => e = .returned (.bool true) ∧ Below W.heap.size W w') := fun W g hW hg =>
    ints_eq Aw (some ⟨g, 0, none⟩) cw 2 [0, 1] W (by decide) ((SW.out.below hW).more hW.size) (seg_of_blk (enc := encN) (size := 1) encN_len [0, 1] hg rfl)
  have HVN : Hid (∀ W : World, Hd w W bP b exG → Calls Try.prog 14 #[.agg #[.int .i64 3, .slice (some ⟨b.a, 0, none⟩) 3 3, .slice (some ⟨b.u, 0, none⟩) 1 1, .slice (some ⟨b.l, 0, none⟩) 1 1, .slice (some ⟨b.g, 0, none⟩) 1 1, .slice (some ⟨b.t, 0, none⟩) 1 1]] W fun e w' => e = .returned (.bool false) ∧ Below W.heap.size W w') := fun W hW => (cvalid_any exG (sxM b) W exG_f hW.E.pm).mono fun e w' h => ⟨by rw [h.1, exG_v], h.2⟩
  have HVY : Hid (∀ (W : World) (b : Sx), ExB W b exE → Calls Try.prog 14 #[.agg #[.int .i64 3, .slice (some ⟨b.a, 0, none⟩) 3 3, .slice (some ⟨b.u, 0, none⟩) 1 1, .slice (some ⟨b.l, 0, none⟩) 1 1, .slice (some ⟨b.g, 0, none⟩) 1 1, .slice (some ⟨b.t, 0, none⟩) 1 1]] W fun e w' => e = .returned (.bool true) ∧ Below W.heap.size W w') := fun W b hW => cvalid_yes (p := exE) (sxM b) W exE_v hW.pm
  clear SD SW
  obtain ⟨a0, a1⟩ : wA.cell? ⟨bA, 0, none⟩ = some (.int .i64 6) ∧ wA.cell? ⟨bA, 1, none⟩ = some (.int .i64 1) := ⟨ga.out.cell 0, ga.out.cell 1⟩
  obtain ⟨b0, b1⟩ : wA.cell? ⟨bB, 0, none⟩ = some (.int .i64 7) ∧ wA.cell? ⟨bB, 1, none⟩ = some (.int .i64 1) := ⟨gb.out.cell 0, gb.out.cell 1⟩
  have hz := Lib.hid (Below.refl wA.heap.size wA)
  have rg0 := cell_regrown a0
  have rg1 := cell_regrown a1
  have rg2 := cell_regrown b0
  have rg3 := cell_regrown b1
  refine wp_region_qt [0, 1, 2, 3, 4, 5, 6, 7, 8, 9, 10, 11, 12, 13, 14, 15, 16] [17, 18, 19, 20, 21, 22, 23, 24, 25, 26, 27, 28, 29, 30, 31, 32, 33, 34] (by kernel_rfl) (by kernel_rfl) (by repeat (first | with_reducible refine panOk_then ?_ | with_reducible refine panOk_block ?_ | exact panOk_body)) ?_
  simp only [opsAt, List.getElem?_toArray, List.getElem?_cons_succ, List.getElem?_cons_zero, Option.toList_some, List.cons_append, List.nil_append]
  repeat (go_big_quiet_step ((go_at_call 20; exact qt_call (fun W' _ => of_any _ W') _ _)))
  refine wpQuiet_nil ?_
  intro XC hw2
  have hbXC := qt_world hw2
  clear hw2 rg0 rg1 rg2 rg3
  clear hz a0 a1 b0 b1
  have HXC := Lib.hid hbXC
  go_upto_region 13 with (first | (go_at_call 16; with_reducible refine (HBO.out _ _ (below_then HXC.out (wa1 _ _)) (Blk.new _ _ _)).mono ?_; rintro e v1 ⟨rfl, h1⟩; have hz := Lib.hid (below_then HXC.out (below_then (wa1 _ _) h1)); clear h1) | (go_at_call 29; with_reducible refine (HIN.out _ _ (below_then hz.out (wa1 _ _)) (Blk.new _ _ _)).mono ?_; rintro e v2 ⟨rfl, h1⟩; replace hz := Lib.hid (below_then hz.out (below_then (wa1 _ _) h1)); clear h1))
  have H12 := Lib.hid (HA.out.then_ hz.out)
  have gc1 := gc.out.then_ hz.out
  obtain ⟨c0, c1⟩ : v2.cell? ⟨bC, 0, none⟩ = some (.int .i64 13) ∧ v2.cell? ⟨bC, 1, none⟩ = some (.int .i64 1) := ⟨gc1.cell 0, gc1.cell 1⟩
  clear HXC hbXC hz gc1 ga gb gc HA HBO HIN
  have rg0 := cell_regrown c0
  have rg1 := cell_regrown c1
  refine wp_region_qt [0, 1, 2, 3, 4, 5, 6, 7, 8, 9, 10, 11, 12, 13, 14, 15, 16, 17, 18] [19, 20, 21, 22, 23, 24, 25, 26, 27] (by kernel_rfl) (by kernel_rfl) (by repeat (first | with_reducible refine panOk_then ?_ | with_reducible refine panOk_block ?_ | exact panOk_body)) ?_
  simp only [opsAt, List.getElem?_toArray, List.getElem?_cons_succ, List.getElem?_cons_zero, Option.toList_some, List.cons_append, List.nil_append]
  repeat (go_big_quiet_step ((go_at_call 20; exact qt_call (fun W' _ => of_any _ W') _ _)))
  refine wpQuiet_nil ?_
  intro XD hw2
  have hbXD := qt_world hw2
  clear hw2 rg0 rg1
  have H13 := Lib.hid (H12.out.then_ hbXD)
  clear c0 c1 H12 hbXD
  go_wp2_with (first | (go_at_call 28; with_reducible refine (example_any _).mono ?_; rintro e v3 ⟨⟨b', rfl, hE, _, _⟩, h1⟩; have H14 := Lib.hid (H13.out.then_ h1); clear h1) | (go_at_call 14; with_reducible refine (HVY.out _ b' hE).mono ?_; rintro e v4 ⟨rfl, h1⟩; have H15 := Lib.hid (H14.out.then_ h1); clear h1; have lP := H15.out.P.lt; obtain ⟨k0, k1, k2, k3, k4, k5, _, _, _, _, _, _⟩ := free6 H15.out.P) | (go_at_call 14; with_reducible refine (HVN.out _ H15.out).mono ?_; rintro e v5 ⟨rfl, h1⟩))
  go_ret
  exact ⟨rfl, below_then H15.out.B h1⟩
end Go.Proofs.Yteoicnhnpailiaa
