/- A slice of the call's own that holds a list of elements; one more element appended. -/
import Derived.Test.YtcfjehohemdanaaDoorMem
import Derived.OwnWalk
import Derived.Deep.AppendLies
namespace Go.Proofs.YtcfjehohemdanaaDoor
open Go.RowKit

/-- The slice value v, made from block B on, holds the list xs of elements of type T, of 'size' cells each (enc: an element's cells). -/
def Own {α : Type} (w : World) (B : Nat) (T : TypeId) (size : Nat) (enc : α → List Value) (v : Value) (xs : List α) : Prop := w.ownsRow B T size v xs.length (xs.flatMap enc)

theorem getElem?_flatMap {α : Type} {enc : α → List Value} {size : Nat} (he : ∀ x, (enc x).length = size) : ∀ (xs : List α) (k j : Nat) (x : α), xs[k]? = some x → j < size → (xs.flatMap enc)[k * size + j]? = (enc x)[j]?
  | [], k, j, x, h, _ => by simp at h
  | y :: ys, 0, j, x, h, hj => by
    simp only [List.getElem?_cons_zero, Option.some.injEq] at h
    subst h
    rw [List.flatMap_cons, Nat.zero_mul, Nat.zero_add, List.getElem?_append_left (by rw [he]; exact hj)]
  | y :: ys, k + 1, j, x, h, hj => by
    rw [List.getElem?_cons_succ] at h
    rw [List.flatMap_cons, List.getElem?_append_right (by rw [he, Nat.add_mul]; omega), he, show (k + 1) * size + j - size = k * size + j by rw [Nat.add_mul]; omega]
    exact getElem?_flatMap he ys k j x h hj

section
variable {α : Type} {w w' : World} {B : Nat} {T : TypeId} {size : Nat} {enc : α → List Value} {v : Value} {xs : List α}
theorem Own.nil (w : World) (B : Nat) (T : TypeId) (size : Nat) (enc : α → List Value) : Own w B T size enc (.slice none 0 0) [] := World.ownsRow_nil w B T size
theorem grown_of_below (h : Below w.heap.size w w') (row : Option Nat) : w.grownBy w' row := ⟨h.os, h.tape, h.output, h.size, fun i hi _ => h.block i hi⟩
theorem Own.below (h : Own w B T size enc v xs) (hb : Below w.heap.size w w') : Own w' B T size enc v xs := h.kept (grown_of_below hb none) (by cases hv : v.ownBlock <;> simp)
theorem Own.alloc (h : Own w B T size enc v xs) (o : Obj) : Own (w.alloc o) B T size enc v xs := World.ownsRow.alloc h o
theorem Own.drewN (h : Own w B T size enc v xs) (n : Nat) : Own (w.drewN n) B T size enc v xs := h
theorem Own.setBelow (h : Own w B T size enc v xs) {p : Addr} (hp : p.block < B) (u : Value) : Own (w.setCell p u) B T size enc v xs := ownsRow_setCell_below h hp u
theorem Own.more (h : Own w B T size enc v xs) {B' : Nat} (hB : B' ≤ B) : Own w B' T size enc v xs := by
  refine ⟨h.1, ?_⟩
  rcases h.2 with h2 | ⟨g, cap, cur, hv, hg, r⟩
  · exact .inl h2
  · exact .inr ⟨g, cap, cur, hv, by omega, r⟩
/-- a store into a block of another element type -/
theorem Own.setOther (h : Own w B T size enc v xs) {p : Addr} {t : TypeId} {cs : Array Value} (hb : Blk w p.block t cs) (ht : T ≠ t) (u : Value) : Own (w.setCell p u) B T size enc v xs := by
  refine ⟨h.1, ?_⟩
  rcases h.2 with h2 | ⟨g, cap, cur, hv, hg, hh, r⟩
  · exact .inl h2
  · have hne : g ≠ p.block := by
      intro e
      unfold Blk at hb
      rw [← e, hh] at hb
      injection hb with hb
      injection hb with _ h4
      exact ht h4
    exact .inr ⟨g, cap, cur, hv, hg, by rw [Below.heap_setCell _ _ _ _ hne]; exact hh, r⟩
theorem Own.seg (h : Own w B T size enc v xs) (he : ∀ x, (enc x).length = size) : ∃ A c, v = .slice A xs.length c ∧ xs.length ≤ c ∧ Seg w w.heap.size size enc A xs := by
  rcases h.2 with ⟨rfl, h0⟩ | ⟨g, cap, cur, rfl, hb, hg, hc, _, _, ht⟩
  · obtain rfl : xs = [] := List.eq_nil_of_length_eq_zero h0
    exact ⟨none, 0, rfl, Nat.le_refl _, Seg.nil _ _ _ _ _⟩
  · refine ⟨some ⟨g, 0, none⟩, cap, rfl, hc, fun k x hx => ⟨g, 0, rfl, (Array.getElem?_eq_some_iff.1 hg).1, fun j u hu => ?_⟩⟩
    have hj : j < size := by rw [← he x]; exact (List.getElem?_eq_some_iff.1 hu).1
    have hk : k < xs.length := (List.getElem?_eq_some_iff.1 hx).1
    have h1 : k * size + j < xs.length * size := by
      have : (k + 1) * size ≤ xs.length * size := Nat.mul_le_mul_right _ hk
      rw [Nat.add_mul] at this; omega
    have h2 := h.cellAt (g := g) (cap := cap) (k * size + j) h1
    simp only [Nat.zero_add]
    rw [h2, getElem?_flatMap he xs k j x hx hj]; exact hu
end

/-- one more element appended: what is new lies in a block of its own -/
theorem wpList_app {P : Program} {α : Type} (w : World) {ops : Array Oper} {rest : List Oper} {o : Oper} {a : Act} {Q : Exit → Act → World → Prop} (hgd : o.guard = none) (s x : Operand) (t : TypeId)
    (ho : o.op = .call { callee := .builtin .append, args := #[s, x], argTypes := #[t, t] })
    (B : Nat) (e : TypeId) (i : TypeInfo) (z : Value) (size bytes : Nat) (ht : P.underlying t = some (.slice e)) (hi : P.info? e = some i) (hz : i.zero = some z)
    (hsize : i.size = size) (hby : i.bytes = bytes) (hzs : z.cells.size = size) (hsz : 0 < size) (hb1 : bytes ≤ 100000)
    (enc : α → List Value) (he : ∀ y, (enc y).length = size) (h1 : ∀ y, ∀ u ∈ enc y, u.oneCell' = true)
    (v : Value) (xs : List α) (hs : a.eval s = v) (hown : Own w B e size enc v xs) (hl : xs.length ≤ 1000000)
    (g c : Nat) (y : α) (hx : a.eval x = .slice (some ⟨g, 0, none⟩) 1 c) (hblk : Blk w g e (enc y).toArray) (hbase : B ≤ w.heap.size)
    (h : ∀ v' w', Own w' B e size enc v' (xs ++ [y]) → Below B w w' → w.grownBy w' v.ownBlock → wpList P ops Q rest (a.put o.dst v') w') : wpList P ops Q (o :: rest) a w := by
  refine wpList_append_own w hgd s x t ho B e i z size bytes ht hi hz hsize hby hzs hsz v xs.length (xs.flatMap enc) hs hown ⟨g, 0, none⟩ 1 c (enc y) hx (by rw [he]; simp) ?_ (h1 y) (by unfold maxLen; omega) ?_ hbase ?_
  · intro j u hu
    have hadd : (⟨g, 0, none⟩ : Addr).add j = ⟨g, j, none⟩ := by unfold Addr.add; split <;> simp_all
    rw [hadd, hblk.cell j]; simpa using hu
  · have : (xs.length + 1) * bytes ≤ 1000001 * 100000 := Nat.mul_le_mul (by omega) hb1
    omega
  · intro v' w' h2 h3 _
    refine h v' w' ?_ ((Below.refl B w).grown h3 hbase fun k hk => (World.ownsRow.lt hown k hk).1) h3
    unfold Own
    rw [List.length_append, List.flatMap_append]
    simpa using h2

/-- behind an append: a block that is newer than what was owned before it reads as it did -/
theorem grown_cell {α : Type} {w0 w w' : World} {B : Nat} {T : TypeId} {size : Nat} {enc : α → List Value} {v : Value} {xs : List α} (hO : Own w0 B T size enc v xs) (hg : w.grownBy w' v.ownBlock) {b : Nat} (o : Nat) (h1 : w0.heap.size ≤ b) (h2 : b < w.heap.size) :
    w'.cell? ⟨b, o, none⟩ = w.cell? ⟨b, o, none⟩ :=
  World.cell?_of_block (hg.block b h2 fun e => by have := (World.ownsRow.lt hO b e.symm).2; omega)
theorem blk_new1 (w : World) (o : Obj) (T : TypeId) (cs : Array Value) : Blk ((w.alloc o).alloc (.cells cs T)) (w.heap.size + 1) T cs := by simpa using Blk.new (w.alloc o) T cs
theorem bcellB {B : Nat} {W w1 : World} (hb : Below B W w1) : (∀ b o, b < B → w1.cell? ⟨b, o, none⟩ = W.cell? ⟨b, o, none⟩) ∧ (∀ b o, b < B → w1.frozen? ⟨b, o, none⟩ = W.frozen? ⟨b, o, none⟩) :=
  ⟨fun b o h => hb.cell (p := ⟨b, o, none⟩) h, fun b o h => hb.frozen (p := ⟨b, o, none⟩) h⟩
end Go.Proofs.YtcfjehohemdanaaDoor
