/- What lies in memory while the reference's Decode xCt a text; the list of its marks. -/
import Derived.Test.YtginnonjdbpamaaGreatDoorYCr4
import Derived.Test.YtginnonjdbpamaaGreatDoorMc27
import Derived.Test.YtginnonjdbpamaaGreatDoorMc1
namespace Go.Proofs.YtginnonjdbpamaaGreatDoor
open Go.RowKit Go.Sort
theorem xFm : ∀ (l : List (List UInt8)) (x : List UInt8), xBt (l ++ [x]) = (xBt l).bind fun ms => (xDe x).map fun m => ms ++ [m]
 | [], x => by
  simp only [qzF, xBt, Option.bind_some]
  cases xDe x <;> rfl
 | t :: l, x => by
  rw [qzE, xBt, xBt, xFm l x]
  cases xDe t with
  | none => rfl
  | some m =>
   cases xBt l with
   | none => rfl
   | some ms => cases xDe x <;> rfl
theorem xDd : ∀ (l r : List (List UInt8)), xBt l = none → xBt (l ++ r) = none
 | [], r, h => by cases h
 | t :: l, r, h => by
  rw [xBt] at h
  rw [qzE, xBt]
  cases ht : xDe t with
  | none => rfl
  | some m =>
   rw [ht] at h
   simp only [Option.bind_some] at h ⊢
   rw [xDd l r (by cases hl : xBt l with | none => rfl | some x => rw [hl] at h; cases h)]
   rfl
theorem xGa : ∀ {l : List (List UInt8)} {ms : List Mk}, xBt l = some ms → ms.length = l.length
 | [], _, h => by cases h; rfl
 | t :: l, ms, h => by
  rw [xBt] at h
  obtain ⟨m, _, h⟩ := Option.bind_eq_some_iff.1 h
  obtain ⟨ms', h2, rfl⟩ := Option.map_eq_some_iff.1 h
  rw [List.length_cons, List.length_cons, xGa h2]
structure De (w W : World) (N bs bz : Nat) (vp vq : Value) (ps qs : List (List UInt8)) (d : Int) (vh vu vm : Value) (hol : List Int) (us : List Bool) (ms : List Mk) : Prop where
 s : Blk W bs 43 #[.int .i64 d, vh, vu, vm]
 z : Blk W bz 43 #[.int .i64 0, .slice none 0 0, .slice none 0 0, .slice none 0 0]
 p : Own W w.heap.size 9 1 eT vp ps
 q : Own W w.heap.size 9 1 eT vq qs
 oh : Own W N 3 1 eI vh hol
 ou : Own W N 4 1 eB vu us
 om : Own W N 46 5 eM vm ms
 b : Below w.heap.size w W
 l : w.heap.size ≤ N ∧ N ≤ W.heap.size ∧ bs < N ∧ bz < N ∧ bs ≠ bz ∧ w.heap.size ≤ bs ∧ w.heap.size ≤ bz
section
variable {w W W' : World} {N bs bz : Nat} {vp vq vh vu vm v' : Value} {ps qs : List (List UInt8)} {d : Int} {hol : List Int} {us : List Bool} {ms : List Mk}
theorem De.then_ (h : De w W N bs bz vp vq ps qs d vh vu vm hol us ms) (hb : Below W.heap.size W W') : De w W' N bs bz vp vq ps qs d vh vu vm hol us ms :=
 ⟨h.s.then_ hb, h.z.then_ hb, h.p.below hb, h.q.below hb, h.oh.below hb, h.ou.below hb, h.om.below hb, xAa h.b hb, by have := h.l; have := hb.size; omega⟩
theorem De.again (h : De w W N bs bz vp vq ps qs d vh vu vm hol us ms) {vr : Value} {rs : List (List UInt8)} (hr : Own W w.heap.size 9 1 eT vr rs) : De w W N bs bz vp vr ps rs d vh vu vm hol us ms :=
 ⟨h.s, h.z, h.p, hr, h.oh, h.ou, h.om, h.b, h.l⟩
theorem De.grow {α : Type} {T : TypeId} {size : Nat} {enc : α → List Value} {v : Value} {xs : List α} (h : De w W N bs bz vp vq ps qs d vh vu vm hol us ms) (hO : Own W N T size enc v xs) (hT : T = 3 ∨ T = 4 ∨ T = 46) (hg : W.grownBy W' v.ownBlock) (hb : Below N W W') :
  Blk W' bs 43 #[.int .i64 d, vh, vu, vm] ∧ Blk W' bz 43 #[.int .i64 0, .slice none 0 0, .slice none 0 0, .slice none 0 0] ∧ Own W' w.heap.size 9 1 eT vp ps ∧ Own W' w.heap.size 9 1 eT vq qs ∧ Below w.heap.size w W' := by
 have l := h.l
 have k := Kept.grown hg
 have e : 9 ≠ T := by rcases hT with rfl | rfl | rfl <;> decide
 exact ⟨h.s.grownT hO (by rcases hT with rfl | rfl | rfl <;> decide) hg, h.z.below hb l.2.2.2.1, h.p.keepNe k (fun x hx => Own.own_ne h.p hO e hx), h.q.keepNe k (fun x hx => Own.own_ne h.q hO e hx), h.b.trans (hb.mono l.1)⟩
theorem De.putH (h : De w W N bs bz vp vq ps qs d vh vu vm hol us ms) {y : Int} (hO : Own W' N 3 1 eI v' (hol ++ [y])) (hg : W.grownBy W' vh.ownBlock) (hb : Below N W W') : De w (W'.setCell ⟨bs, 1, none⟩ v') N bs bz vp vq ps qs d v' vu vm (hol ++ [y]) us ms := by
 obtain ⟨s4, z4, p4, q4, b4⟩ := h.grow h.oh (.inl rfl) hg hb
 have k := Kept.grown hg
 have lN := h.l
 have u := (Upd.refl W' bs).setCell 1 v'
 have k0 := h.ou.keepNe k (fun x hx => Own.own_ne h.ou h.oh (by decide) hx)
 have k1 := h.om.keepNe k (fun x hx => Own.own_ne h.om h.oh (by decide) hx)
 refine ⟨?_, z4.upd u lN.2.2.2.2.1.symm, p4.upd u (fun x hx e => Own.blk_ne_row s4 p4 (by decide) hx e.symm), q4.upd u (fun x hx e => Own.blk_ne_row s4 q4 (by decide) hx e.symm), (hO.upd u (fun x hx e => Own.blk_ne_row s4 hO (by decide) hx e.symm)), (k0.upd u (fun x hx e => Own.blk_ne_row s4 k0 (by decide) hx e.symm)), (k1.upd u (fun x hx e => Own.blk_ne_row s4 k1 (by decide) hx e.symm)), b4.trans (u.b _ lN.2.2.2.2.2.1), ?_⟩
 ·have h5 := s4.set_ 1 v'
  simpa using h5
 ·have := hb.size
  rw [u.s]
  omega
theorem De.putU (h : De w W N bs bz vp vq ps qs d vh vu vm hol us ms) {y : Bool} (hO : Own W' N 4 1 eB v' (us ++ [y])) (hg : W.grownBy W' vu.ownBlock) (hb : Below N W W') : De w (W'.setCell ⟨bs, 2, none⟩ v') N bs bz vp vq ps qs d vh v' vm hol (us ++ [y]) ms := by
 obtain ⟨s4, z4, p4, q4, b4⟩ := h.grow h.ou (.inr (.inl rfl)) hg hb
 have k := Kept.grown hg
 have lN := h.l
 have u := (Upd.refl W' bs).setCell 2 v'
 have k0 := h.oh.keepNe k (fun x hx => Own.own_ne h.oh h.ou (by decide) hx)
 have k1 := h.om.keepNe k (fun x hx => Own.own_ne h.om h.ou (by decide) hx)
 refine ⟨?_, z4.upd u lN.2.2.2.2.1.symm, p4.upd u (fun x hx e => Own.blk_ne_row s4 p4 (by decide) hx e.symm), q4.upd u (fun x hx e => Own.blk_ne_row s4 q4 (by decide) hx e.symm), (k0.upd u (fun x hx e => Own.blk_ne_row s4 k0 (by decide) hx e.symm)), (hO.upd u (fun x hx e => Own.blk_ne_row s4 hO (by decide) hx e.symm)), (k1.upd u (fun x hx e => Own.blk_ne_row s4 k1 (by decide) hx e.symm)), b4.trans (u.b _ lN.2.2.2.2.2.1), ?_⟩
 ·have h5 := s4.set_ 2 v'
  simpa using h5
 ·have := hb.size
  rw [u.s]
  omega
theorem De.putM (h : De w W N bs bz vp vq ps qs d vh vu vm hol us ms) {y : Mk} (hO : Own W' N 46 5 eM v' (ms ++ [y])) (hg : W.grownBy W' vm.ownBlock) (hb : Below N W W') : De w (W'.setCell ⟨bs, 3, none⟩ v') N bs bz vp vq ps qs d vh vu v' hol us (ms ++ [y]) := by
 obtain ⟨s4, z4, p4, q4, b4⟩ := h.grow h.om (.inr (.inr rfl)) hg hb
 have k := Kept.grown hg
 have lN := h.l
 have u := (Upd.refl W' bs).setCell 3 v'
 have k0 := h.oh.keepNe k (fun x hx => Own.own_ne h.oh h.om (by decide) hx)
 have k1 := h.ou.keepNe k (fun x hx => Own.own_ne h.ou h.om (by decide) hx)
 refine ⟨?_, z4.upd u lN.2.2.2.2.1.symm, p4.upd u (fun x hx e => Own.blk_ne_row s4 p4 (by decide) hx e.symm), q4.upd u (fun x hx e => Own.blk_ne_row s4 q4 (by decide) hx e.symm), (k0.upd u (fun x hx e => Own.blk_ne_row s4 k0 (by decide) hx e.symm)), (k1.upd u (fun x hx e => Own.blk_ne_row s4 k1 (by decide) hx e.symm)), (hO.upd u (fun x hx e => Own.blk_ne_row s4 hO (by decide) hx e.symm)), b4.trans (u.b _ lN.2.2.2.2.2.1), ?_⟩
 ·have h5 := s4.set_ 3 v'
  simpa using h5
 ·have := hb.size
  rw [u.s]
  omega
end
theorem Own.lower {α : Type} {w : World} {B B' : Nat} {T : TypeId} {size : Nat} {enc : α → List Value} {v : Value} {xs : List α} (h : Own w B T size enc v xs) (hB : B' ≤ B) : Own w B' T size enc v xs := by
 refine ⟨h.1, ?_⟩
 rcases h.2 with h2 | ⟨g, cap, cur, hv, hg, r⟩
 ·exact .inl h2
 ·exact .inr ⟨g, cap, cur, hv, Nat.le_trans hB hg, r⟩
theorem xF0 {W : World} {B g n c : Nat} {ps : List (List UInt8)} {x : List UInt8} {i : Nat} (h : Own W B 9 1 eT (.slice (some ⟨g, 0, none⟩) n c) ps) (hn : ps.length = n) (hx : ps[i]? = some x) : W.cell? ⟨g, i, none⟩ = some (.string (tBy x)) := by
 have := (h.getAt xEp hn (k := i) (j := 0) hx (by decide)).1
 simpa [eT] using this
theorem xEg (g n c i : Nat) (hi : i < n) : ∀ W : World, (Instr.indexAt 100 (.slice (some ⟨g, 0, none⟩) n c) (.int .i64 (i : Nat))).run Tryz.prog W = .ok (.pointer (some ⟨g, i, none⟩)) W := fun W => by
 have h := xAy (t := 100) (size := 1) (g := g) (n := n) (cap := c) (i := i) hi (by kernel_rfl) (fun W => by kernel_rfl) W
 simpa using h
theorem xGu {W V : World} {t : TypeId} {cs : Array Value} (h : V = W.alloc (.cells cs t)) : Blk V W.heap.size t cs ∧ Below W.heap.size W V := by
 subst h
 exact ⟨Blk.new _ _ _, wa1 _ _⟩
theorem cellB {w w' : World} (hb : Below w.heap.size w w') {a : Addr} {v : Value} (hc : w.cell? a = some v) : w'.cell? a = some v := (hb.cell (World.block_lt_of_cell? w a hc)).trans hc
theorem nameK {K : Act → World → Prop} {a : Act} {w : World} (h : ∀ V, V = w → K a V) : K a w := h _ rfl
theorem spl_pos (b : UInt8) (t : List UInt8) : 0 < (spl b t).length := List.length_pos_iff.2 (spl_ne b t)
end Go.Proofs.YtginnonjdbpamaaGreatDoor
