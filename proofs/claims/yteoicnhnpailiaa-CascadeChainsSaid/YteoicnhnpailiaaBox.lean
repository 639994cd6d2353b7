/- Two cells stored into a variable of the call's own: what becomes of everything else. -/
import Derived.Test.YteoicnhnpailiaaOwn2
namespace Go.Proofs.Yteoicnhnpailiaa
open Go.RowKit

/-- the two cells of block la stored -/
abbrev box2 (w : World) (la : Nat) (x y : Value) : World := (w.setCell ⟨la, 0, none⟩ x).setCell ⟨la, 1, none⟩ y
section
variable {α : Type} {w : World} {B : Nat} {T : TypeId} {size : Nat} {enc : α → List Value} {v : Value} {xs : List α} {la b g n cap : Nat} {t : TypeId} {cs : Array Value} {x y x0 y0 : Value}
theorem Own.box (h : Own w B T size enc v xs) (hk : Blk w la t #[x0, y0]) (hT : T ≠ t) : Own (box2 w la x y) B T size enc v xs :=
  (h.setOther (p := ⟨la, 0, none⟩) hk hT _).setOther (p := ⟨la, 1, none⟩) (hk.set_ 0 _) hT _
theorem Own.boxNe (h : Own w B T size enc (.slice (some ⟨g, 0, none⟩) n cap) xs) (hg : g ≠ la) : Own (box2 w la x y) B T size enc (.slice (some ⟨g, 0, none⟩) n cap) xs :=
  (h.setNe (p := ⟨la, 0, none⟩) (by intro k hk; cases hk; exact hg) _).setNe (p := ⟨la, 1, none⟩) (by intro k hk; cases hk; exact hg) _
theorem Own.boxFar (h : Own w B T size enc v xs) (hg : la < B) : Own (box2 w la x y) B T size enc v xs :=
  (h.setBelow (p := ⟨la, 0, none⟩) hg _).setBelow (p := ⟨la, 1, none⟩) hg _
theorem Blk.box (h : Blk w b t cs) (hb : b ≠ la) : Blk (box2 w la x y) b t cs := (h.far (p := ⟨la, 0, none⟩) hb _).far (p := ⟨la, 1, none⟩) hb _
theorem Blk.boxed (h : Blk w la t #[x0, y0]) : Blk (box2 w la x y) la t #[x, y] := h.setT0.setT1
theorem below_box {a : World} (h : Below w.heap.size w a) (hl : w.heap.size ≤ la) : Below w.heap.size w (box2 a la x y) := (h.setCell (p := ⟨la, 0, none⟩) hl _).setCell (p := ⟨la, 1, none⟩) hl _
theorem box_size : (box2 w la x y).heap.size = w.heap.size := by simp
end
end Go.Proofs.Yteoicnhnpailiaa
