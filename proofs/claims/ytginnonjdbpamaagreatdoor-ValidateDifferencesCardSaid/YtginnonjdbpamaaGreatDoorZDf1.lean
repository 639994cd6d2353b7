/- A state of its own in memory, changed field by field. -/
import Derived.Test.YtginnonjdbpamaaGreatDoorMb36
import Derived.Test.YtginnonjdbpamaaGreatDoorZCps
import Derived.Test.YtginnonjdbpamaaGreatDoorMb1
namespace Go.Proofs.YtginnonjdbpamaaGreatDoor
open Go.RowKit
theorem Own.mono_ {α : Type} {w : World} {B B' : Nat} {T : TypeId} {size : Nat} {enc : α → List Value} {v : Value} {xs : List α} (h : Own w B T size enc v xs) (hB : B' ≤ B) : Own w B' T size enc v xs := by
 refine ⟨h.1, ?_⟩
 rcases h.2 with h2 | ⟨g, cap, cur, hv, hg, r⟩
 ·exact .inl h2
 ·exact .inr ⟨g, cap, cur, hv, Nat.le_trans hB hg, r⟩
theorem Own.ge {α : Type} {w : World} {B g n cap : Nat} {T : TypeId} {size : Nat} {enc : α → List Value} {xs : List α} (h : Own w B T size enc (.slice (some ⟨g, 0, none⟩) n cap) xs) : B ≤ g := by
 rcases h.2 with ⟨e, _⟩ | ⟨g', cap', cur, e, hg, _⟩
 ·cases e
 ·cases e; exact hg
structure XS (w4 W : World) (bx : Nat) (x : Sta) (q : Qm) : Prop where
 g : Blk W bx 43 (stA x q)
 oh : Own W w4.heap.size 3 1 eI (.slice q.h x.hol.length q.hc) x.hol
 ou : Own W w4.heap.size 4 1 eB (.slice q.u x.used.length q.uc) x.used
 om : Own W w4.heap.size 46 5 eM (.slice q.m x.marks.length q.mc) x.marks
 b : Below w4.heap.size w4 W
 l : w4.heap.size ≤ bx
theorem XS.then_ {w4 W W' : World} {bx : Nat} {x : Sta} {q : Qm} (h : XS w4 W bx x q) (hb : Below W.heap.size W W') : XS w4 W' bx x q :=
 ⟨h.g.then_ hb, h.oh.below hb, h.ou.below hb, h.om.below hb, below_then h.b hb, h.l⟩
theorem XS.day {w4 W : World} {bx : Nat} {x : Sta} {q : Qm} (h : XS w4 W bx x q) (d : Int) : XS w4 (W.setCell ⟨bx, 0, none⟩ (.int .i64 d)) bx { x with day := d } q :=
 ⟨h.g.set_ 0 (.int .i64 d), h.oh.setOther (p := ⟨bx, 0, none⟩) h.g (by decide) _, h.ou.setOther (p := ⟨bx, 0, none⟩) h.g (by decide) _, h.om.setOther (p := ⟨bx, 0, none⟩) h.g (by decide) _, h.b.setCell (p := ⟨bx, 0, none⟩) h.l _, h.l⟩
theorem XS.hol {w4 W : World} {bx gh : Nat} {x : Sta} {q : Qm} (h : XS w4 W bx x q) (hq : q.h = some ⟨gh, 0, none⟩) {i : Nat} {y : Int} (hy : x.hol[i]? = some y) (z : Int) : XS w4 (W.setCell ⟨gh, i, none⟩ (.int .i64 z)) bx { x with hol := x.hol.set i z } q := by
 have ho := h.oh
 rw [hq] at ho
 obtain ⟨cs, hb⟩ := ho.tyB
 have h1 := ho.setAt eI_len rfl (k := i) (j := 0) (x := y) (y := z) (u := .int .i64 z) hy (by decide) rfl
 rw [Nat.mul_one, Nat.add_zero] at h1
 refine ⟨?_, ?_, h.ou.setOther (p := ⟨gh, i, none⟩) hb (by decide) _, h.om.setOther (p := ⟨gh, i, none⟩) hb (by decide) _, h.b.setCell (p := ⟨gh, i, none⟩) ho.ge _, h.l⟩
 ·have h2 := h.g.far (p := ⟨gh, i, none⟩) (h.g.ne_of hb (by decide)) (.int .i64 z)
  simpa [stA, List.length_set] using h2
 ·simpa [hq, List.length_set] using h1
theorem XS.use {w4 W : World} {bx gu : Nat} {x : Sta} {q : Qm} (h : XS w4 W bx x q) (hq : q.u = some ⟨gu, 0, none⟩) {i : Nat} {y : Bool} (hy : x.used[i]? = some y) (z : Bool) : XS w4 (W.setCell ⟨gu, i, none⟩ (.bool z)) bx { x with used := x.used.set i z } q := by
 have ho := h.ou
 rw [hq] at ho
 obtain ⟨cs, hb⟩ := ho.tyB
 have h1 := ho.setAt eB_len rfl (k := i) (j := 0) (x := y) (y := z) (u := .bool z) hy (by decide) rfl
 rw [Nat.mul_one, Nat.add_zero] at h1
 refine ⟨?_, h.oh.setOther (p := ⟨gu, i, none⟩) hb (by decide) _, ?_, h.om.setOther (p := ⟨gu, i, none⟩) hb (by decide) _, h.b.setCell (p := ⟨gu, i, none⟩) ho.ge _, h.l⟩
 ·have h2 := h.g.far (p := ⟨gu, i, none⟩) (h.g.ne_of hb (by decide)) (.bool z)
  simpa [stA, List.length_set] using h2
 ·simpa [hq, List.length_set] using h1
theorem XS.mark {w4 W : World} {bx gm : Nat} {x : Sta} {q : Qm} (h : XS w4 W bx x q) (hq : q.m = some ⟨gm, 0, none⟩) {i j : Nat} {y z : Mk} {u : Value} (hy : x.marks[i]? = some y) (hj : j < 5) (hz : eM z = (eM y).set j u) : XS w4 (W.setCell ⟨gm, i * 5 + j, none⟩ u) bx { x with marks := x.marks.set i z } q := by
 have ho := h.om
 rw [hq] at ho
 obtain ⟨cs, hb⟩ := ho.tyB
 have h1 := ho.setAt eM_len rfl (k := i) (j := j) (x := y) (y := z) (u := u) hy hj hz
 refine ⟨?_, h.oh.setOther (p := ⟨gm, i * 5 + j, none⟩) hb (by decide) _, h.ou.setOther (p := ⟨gm, i * 5 + j, none⟩) hb (by decide) _, ?_, h.b.setCell (p := ⟨gm, i * 5 + j, none⟩) ho.ge _, h.l⟩
 ·have h2 := h.g.far (p := ⟨gm, i * 5 + j, none⟩) (h.g.ne_of hb (by decide)) u
  simpa [stA, List.length_set] using h2
 ·simpa [hq, List.length_set] using h1
theorem wrap_ne (v : Int) : wrap64 (v + 1) ≠ v := by
 unfold wrap64
 omega
end Go.Proofs.YtginnonjdbpamaaGreatDoor
