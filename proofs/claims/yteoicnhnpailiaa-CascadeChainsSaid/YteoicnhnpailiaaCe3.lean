/- The walk of the law's example. -/
import Derived.Test.YteoicnhnpailiaaCe2
namespace Go.Proofs.Yteoicnhnpailiaa
open Go.RowKit Go.Sort Go.Maps

/-- where the example's lists lie -/
structure Sx where
  a : Nat
  u : Nat
  l : Nat
  g : Nat
  t : Nat
abbrev sxM (b : Sx) : Ms := ⟨some ⟨b.a, 0, none⟩, 3, some ⟨b.u, 0, none⟩, 1, some ⟨b.l, 0, none⟩, 1, some ⟨b.g, 0, none⟩, 1, some ⟨b.t, 0, none⟩, 1⟩
structure ExB (w : World) (b : Sx) (p : Pf) : Prop where
  a : Blk w b.a 44 (p.as.flatMap encA).toArray
  u : Blk w b.u 55 (p.du.flatMap encD).toArray
  l : Blk w b.l 55 (p.la.flatMap encD).toArray
  g : Blk w b.g 63 (p.gu.flatMap encG).toArray
  t : Blk w b.t 74 (p.tr.flatMap encT).toArray
theorem ExB.then_ {w w' : World} {b : Sx} {p : Pf} (h : ExB w b p) (hb : Below w.heap.size w w') : ExB w' b p := ⟨h.a.then_ hb, h.u.then_ hb, h.l.then_ hb, h.g.then_ hb, h.t.then_ hb⟩
theorem ExB.pm {w : World} {b : Sx} {p : Pf} (h : ExB w b p) : Pm w p (sxM b) :=
  ⟨seg_of_blk (enc := encA) (size := 2) (fun _ => rfl) p.as h.a rfl, seg_of_blk (enc := encD) (size := 4) (fun _ => rfl) p.du h.u rfl, seg_of_blk (enc := encD) (size := 4) (fun _ => rfl) p.la h.l rfl, seg_of_blk (enc := encG) (size := 3) (fun _ => rfl) p.gu h.g rfl, seg_of_blk (enc := encT) (size := 2) (fun _ => rfl) p.tr h.t rfl⟩
theorem free6 {X : World} {g : Nat} {t : TypeId} {v0 v1 v2 v3 v4 v5 : Value} (h : Blk X g t #[v0, v1, v2, v3, v4, v5]) : X.cell? ⟨g, 0, none⟩ = some v0 ∧ X.cell? ⟨g, 1, none⟩ = some v1 ∧ X.cell? ⟨g, 2, none⟩ = some v2 ∧ X.cell? ⟨g, 3, none⟩ = some v3 ∧ X.cell? ⟨g, 4, none⟩ = some v4 ∧ X.cell? ⟨g, 5, none⟩ = some v5 ∧ X.frozen? ⟨g, 0, none⟩ = false ∧ X.frozen? ⟨g, 1, none⟩ = false ∧ X.frozen? ⟨g, 2, none⟩ = false ∧ X.frozen? ⟨g, 3, none⟩ = false ∧ X.frozen? ⟨g, 4, none⟩ = false ∧ X.frozen? ⟨g, 5, none⟩ = false :=
  ⟨h.cell 0, h.cell 1, h.cell 2, h.cell 3, h.cell 4, h.cell 5, h.frozen 0, h.frozen 1, h.frozen 2, h.frozen 3, h.frozen 4, h.frozen 5⟩
abbrev st6 (W : World) (b : Nat) (v0 v1 v2 v3 v4 v5 : Value) : World := (((((W.setCell ⟨b, 0, none⟩ v0).setCell ⟨b, 1, none⟩ v1).setCell ⟨b, 2, none⟩ v2).setCell ⟨b, 3, none⟩ v3).setCell ⟨b, 4, none⟩ v4).setCell ⟨b, 5, none⟩ v5
theorem Blk.far6 {W : World} {b g : Nat} {t : TypeId} {cs : Array Value} (h : Blk W g t cs) (hg : g ≠ b) (v0 v1 v2 v3 v4 v5 : Value) : Blk (st6 W b v0 v1 v2 v3 v4 v5) g t cs := (((((h.far hg v0).far hg v1).far hg v2).far hg v3).far hg v4).far hg v5
theorem Blk.st6 {W : World} {b : Nat} {t : TypeId} {u0 u1 u2 u3 u4 u5 : Value} (h : Blk W b t #[u0, u1, u2, u3, u4, u5]) (v0 v1 v2 v3 v4 v5 : Value) : Blk (st6 W b v0 v1 v2 v3 v4 v5) b t #[v0, v1, v2, v3, v4, v5] := by
  have h' := (((((h.set_ 0 v0).set_ 1 v1).set_ 2 v2).set_ 3 v3).set_ 4 v4).set_ 5 v5
  simp only [List.setIfInBounds_toArray, List.set_cons_zero, List.set_cons_succ] at h'
  exact h'
theorem Blk.ne_ty {W : World} {g g' : Nat} {t t' : TypeId} {cs cs' : Array Value} (h : Blk W g t cs) (h' : Blk W g' t' cs') (ht : t ≠ t') : g ≠ g' := by
  rintro rfl
  have := h.symm.trans h'
  injection this with h1
  injection h1 with _ h3
  exact ht h3
theorem below_st6 {B : Nat} {w W : World} {b : Nat} (h : Below B w W) (hb : B ≤ b) (v0 v1 v2 v3 v4 v5 : Value) : Below B w (st6 W b v0 v1 v2 v3 v4 v5) := (((((h.setCell hb v0).setCell hb v1).setCell hb v2).setCell hb v3).setCell hb v4).setCell hb v5
theorem ret_pf {fn : Func} {a : Act} {w : World} {r g : Nat} {ty : TypeId} {v0 v1 v2 v3 v4 v5 : Value} (hres : fn.results = #[.cell r 27]) (hp : a.tmps.getD r undef = .pointer (some ⟨g, 0, none⟩)) (hk : Blk w g ty #[v0, v1, v2, v3, v4, v5]) :
    (results fn a.tmps).run Try.prog w = .ok (.agg #[v0, v1, v2, v3, v4, v5]) w := by
  have e0 := hk.cell 0
  have e1 := hk.cell 1
  have e2 := hk.cell 2
  have e3 := hk.cell 3
  have e4 := hk.cell 4
  have e5 := hk.cell 5
  simp at e0 e1 e2 e3 e4 e5
  rw [Array.getD_eq_getD_getElem?] at hp
  simp [results, hres, hp, go_sem, e0, e1, e2, e3, e4, e5]
set_option maxRecDepth 100000 in
set_option maxHeartbeats 1600000 in
theorem example_any (w : World) :
    Calls Try.prog 28 #[] w fun e w' => (∃ b : Sx, e = .returned (.agg #[.int .i64 3, .slice (some ⟨b.a, 0, none⟩) 3 3, .slice (some ⟨b.u, 0, none⟩) 1 1, .slice (some ⟨b.l, 0, none⟩) 1 1, .slice (some ⟨b.g, 0, none⟩) 1 1, .slice (some ⟨b.t, 0, none⟩) 1 1]) ∧ ExB w' b exE ∧ w.heap.size ≤ b.a ∧ w.heap.size ≤ b.g) ∧ Below w.heap.size w w' := by
  go_enter Try.func28, Try.ntmps28
  go_upto_region 1 with (fail)
  refine name_wp ?_
  intro X hX
  have gR : Blk X w.heap.size 27 #[.int .i64 0, .slice none 0 0, .slice none 0 0, .slice none 0 0, .slice none 0 0, .slice none 0 0] := by rw [hX]; exact Blk.new _ _ _
  have hbX : Below w.heap.size w X := by rw [hX]; exact wa1 _ _
  have HX := Lib.hid hbX
  have GR := Lib.hid gR
  clear hX gR hbX
  have hz := Lib.hid (Below.refl X.heap.size X)
  go_wp2_with (first | (go_at_call_of 20 (Value.int IntKind.i64 5); with_reducible refine (of_any _ _).mono ?_; rintro e v1 ⟨rfl, h1⟩; replace hz := Lib.hid (below_then hz.out h1); clear h1) | (go_at_call_of 20 (Value.int IntKind.i64 1); with_reducible refine (of_any _ _).mono ?_; rintro e v2 ⟨rfl, h1⟩; replace hz := Lib.hid (below_then hz.out h1); clear h1) | (go_at_call_of 20 (Value.int IntKind.i64 6); with_reducible refine (of_any _ _).mono ?_; rintro e v3 ⟨rfl, h1⟩; have HV2 := Lib.hid (below_then HX.out hz.out).size; have ga := Lib.hid ((Blk.new v2 44 _).then_ h1); replace hz := Lib.hid (below_then hz.out (below_then (wa1 _ _) h1)); clear h1) | (go_at_call_of 20 (Value.int IntKind.i64 7); with_reducible refine (of_any _ _).mono ?_; rintro e v4 ⟨rfl, h1⟩; have gu := Lib.hid ((Blk.new v3 55 _).then_ h1); replace ga := Lib.hid ((ga.out.alloc _).then_ h1); replace hz := Lib.hid (below_then hz.out (below_then (wa1 _ _) h1)); clear h1; have gr := GR.out.then_ hz.out; have lr := gr.lt; have lr1 : w.heap.size < v4.heap.size + 1 := (by omega); have lr2 : w.heap.size < v4.heap.size + 1 + 1 := (by omega); have lr3 : w.heap.size < v4.heap.size + 1 + 1 + 1 := (by omega); obtain ⟨c0, c1, c2, c3, c4, c5, f0, f1, f2, f3, f4, f5⟩ := free6 gr; clear gr))
  refine name_post ?_
  intro W hW
  have gr := GR.out.then_ hz.out
  have lx : w.heap.size ≤ X.heap.size := HX.out.size
  obtain ⟨M, hM⟩ : ∃ M, M = st6 v4 w.heap.size (.int .i64 3) (.slice (some ⟨v2.heap.size, 0, none⟩) 3 3) (.slice (some ⟨v3.heap.size, 0, none⟩) 1 1) (.slice (some ⟨v4.heap.size, 0, none⟩) 1 1) (.slice (some ⟨v4.heap.size + 1, 0, none⟩) 1 1) (.slice (some ⟨v4.heap.size + 1 + 1, 0, none⟩) 1 1) := ⟨_, rfl⟩
  have hW' : W = ((M.alloc (.cells #[.int .i64 1, .int .i64 2, .int .i64 7, .int .i64 1] 55)).alloc (.cells #[.int .i64 1, .int .i64 2, .int .i64 0] 63)).alloc (.cells #[.int .i64 0, .int .i64 1] 74) := by rw [hW, hM]
  have hs : M.heap.size = v4.heap.size := by rw [hM]; simp
  have n2 : v2.heap.size ≠ w.heap.size := fun e => ga.out.ne_ty gr (by decide) e
  have n3 : v3.heap.size ≠ w.heap.size := fun e => gu.out.ne_ty gr (by decide) e
  have mA : Blk M v2.heap.size 44 #[.int .i64 5, .int .i64 1, .int .i64 5, .int .i64 1, .int .i64 1, .int .i64 1] := by rw [hM]; exact ga.out.far6 n2 _ _ _ _ _ _
  have mU : Blk M v3.heap.size 55 #[.int .i64 0, .int .i64 1, .int .i64 6, .int .i64 1] := by rw [hM]; exact gu.out.far6 n3 _ _ _ _ _ _
  have mR : Blk M w.heap.size 27 #[.int .i64 3, .slice (some ⟨v2.heap.size, 0, none⟩) 3 3, .slice (some ⟨v3.heap.size, 0, none⟩) 1 1, .slice (some ⟨v4.heap.size, 0, none⟩) 1 1, .slice (some ⟨v4.heap.size + 1, 0, none⟩) 1 1, .slice (some ⟨v4.heap.size + 1 + 1, 0, none⟩) 1 1] := by rw [hM]; exact gr.st6 _ _ _ _ _ _
  have hbM : Below w.heap.size w M := by rw [hM]; exact below_st6 (below_then HX.out hz.out) (Nat.le_refl _) _ _ _ _ _ _
  have lz : X.heap.size ≤ v4.heap.size := hz.out.size
  clear hM hW
  have hE : ExB W ⟨v2.heap.size, v3.heap.size, v4.heap.size, v4.heap.size + 1, v4.heap.size + 1 + 1⟩ exE := by
    rw [hW', ← hs]
    refine ⟨((mA.alloc _).alloc _).alloc _, ((mU.alloc _).alloc _).alloc _, ((Blk.new _ _ _).alloc _).alloc _, (blk_new1 M _ _ _).alloc _, ?_⟩
    have := Blk.new ((M.alloc (.cells #[.int .i64 1, .int .i64 2, .int .i64 7, .int .i64 1] 55)).alloc (.cells #[.int .i64 1, .int .i64 2, .int .i64 0] 63)) 74 #[.int .i64 0, .int .i64 1]
    rw [size_alloc, size_alloc] at this
    exact this
  have hR := ((mR.alloc (.cells #[.int .i64 1, .int .i64 2, .int .i64 7, .int .i64 1] 55)).alloc (.cells #[.int .i64 1, .int .i64 2, .int .i64 0] 63)).alloc (.cells #[.int .i64 0, .int .i64 1] 74)
  rw [← hW'] at hR
  have hb : Below w.heap.size w W := by rw [hW']; exact below_alloc (below_alloc (below_alloc hbM _) _) _
  refine bodyPost_ret (ret_pf rfl rfl hR) rfl ⟨⟨_, rfl, hE, ?_, ?_⟩, hb⟩
  · have := HV2.out; show w.heap.size ≤ v2.heap.size; omega
  · show w.heap.size ≤ v4.heap.size + 1; omega
end Go.Proofs.Yteoicnhnpailiaa
