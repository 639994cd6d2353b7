/- Append of a whole list to a slice of the call's own, whatever the source's address; a part of a list as a slice. -/
import Derived.Test.YtginnonjdbpamaaGreatDoorMb10
import Derived.Test.YtginnonjdbpamaaGreatDoorMb5
import Derived.Test.YtginnonjdbpamaaGreatDoorMb1
namespace Go.Proofs.YtginnonjdbpamaaGreatDoor
open Go.RowKit
theorem run_append_none_cap {P : Program} {w : World} (base : Nat) (t ty e : TypeId) (i : TypeInfo) (size c : Nat) (ht : P.underlying t = some (.slice e)) (hi : P.info? e = some i)
  (v : Value) (n : Nat) (xs : List Value) (hown : w.ownsRow base e size v n xs) :
  (Builtin.append_ #[t, t] ty #[v, .slice none 0 c]).run P w = .ok v w := by
 rcases hown.2 with ⟨rfl, rfl⟩ | ⟨g, cap, cur, rfl, _, _, hnc, _⟩
 ·simp [Builtin.append_, run_underlying ht, sizeOf, typeInfo, hi, Builtin.lenOf, Builtin.firstCells]
 ·simp [Builtin.append_, run_underlying ht, sizeOf, typeInfo, hi, Builtin.lenOf, Builtin.firstCells, hnc, storeCells]
theorem wp_app_seg {P : Program} {α : Type} (w : World) {o : Oper} {a : Act} {K : Act → World → Prop} {Q : Exit → Act → World → Prop} (s x : Operand) (t : TypeId)
  (ho : o.op = .call { callee := .builtin .append, args := #[s, x], argTypes := #[t, t] })
  (B : Nat) (e : TypeId) (i : TypeInfo) (z : Value) (size bytes : Nat) (ht : P.underlying t = some (.slice e)) (hi : P.info? e = some i) (hz : i.zero = some z)
  (hsize : i.size = size) (hby : i.bytes = bytes) (hzs : z.cells.size = size) (hsz : 0 < size) (hb1 : bytes ≤ 100000)
  (enc : α → List Value) (he : ∀ y, (enc y).length = size) (h1 : ∀ y, ∀ u ∈ enc y, u.oneCell' = true)
  (v : Value) (xs : List α) (hs : a.eval s = v) (hown : Own w B e size enc v xs)
  (A : Option Addr) (l : List α) (c n : Nat) (hx : a.eval x = .slice A n c) (hn : n = l.length) (hl : xs.length + l.length ≤ 1000000) (C : Nat) (hsrc : Seg w C size enc A l) (hbase : B ≤ w.heap.size)
  (h : ∀ v' w', Own w' B e size enc v' (xs ++ l) → Below B w w' → w.grownBy w' v.ownBlock → K (a.put o.dst v') w') : o.wp P a w K Q := by
 subst hn
 cases A with
 | none =>
  have hl0 : l = [] := by
   cases l with
   | nil => rfl
   | cons y l => obtain ⟨b, off, e0, _⟩ := hsrc 0 y rfl; cases e0
  subst hl0
  have hrun := run_append_none_cap (P := P) (w := w) B t o.type e i size c ht hi v xs.length (xs.flatMap enc) hown
  have h2 := h v w (by simpa using hown) (Below.refl _ _) (grown_of_below (Below.refl _ _) _)
  unfold Oper.wp
  simp [execOp, ho, resolve, invoke, builtin, hs, hx, hrun, Result.andThen]
  exact h2
 | some A =>
  refine wp_append_own w s x t ho B e i z size bytes ht hi hz hsize hby hzs hsz v xs.length (xs.flatMap enc) hs hown A l.length c (l.flatMap enc) hx (flat_len he l) (src_cells he hsz hsrc) ?_ (by unfold maxLen; omega) ?_ hbase ?_
  ·intro u hu
   obtain ⟨y, _, hy⟩ := List.mem_flatMap.1 hu
   exact h1 y u hy
  ·have : (xs.length + l.length) * bytes ≤ 1000000 * 100000 := Nat.mul_le_mul hl hb1
   omega
  ·intro v' w' h2 h3 h4
   refine h v' w' ?_ ((Below.refl B w).grown h3 hbase fun k hk => (World.ownsRow.lt hown k hk).1) h3
   unfold Own
   rw [List.length_append, List.flatMap_append]
   exact h2
theorem wpList_app_seg {P : Program} {α : Type} (w : World) {ops : Array Oper} {rest : List Oper} {o : Oper} {a : Act} {Q : Exit → Act → World → Prop} (hgd : o.guard = none) (s x : Operand) (t : TypeId)
  (ho : o.op = .call { callee := .builtin .append, args := #[s, x], argTypes := #[t, t] })
  (B : Nat) (e : TypeId) (i : TypeInfo) (z : Value) (size bytes : Nat) (ht : P.underlying t = some (.slice e)) (hi : P.info? e = some i) (hz : i.zero = some z)
  (hsize : i.size = size) (hby : i.bytes = bytes) (hzs : z.cells.size = size) (hsz : 0 < size) (hb1 : bytes ≤ 100000)
  (enc : α → List Value) (he : ∀ y, (enc y).length = size) (h1 : ∀ y, ∀ u ∈ enc y, u.oneCell' = true)
  (v : Value) (xs : List α) (hs : a.eval s = v) (hown : Own w B e size enc v xs)
  (A : Option Addr) (l : List α) (c n : Nat) (hx : a.eval x = .slice A n c) (hn : n = l.length) (hl : xs.length + l.length ≤ 1000000) (C : Nat) (hsrc : Seg w C size enc A l) (hbase : B ≤ w.heap.size)
  (h : ∀ v' w', Own w' B e size enc v' (xs ++ l) → Below B w w' → w.grownBy w' v.ownBlock → wpList P ops Q rest (a.put o.dst v') w') : wpList P ops Q (o :: rest) a w :=
 wpList_plain hgd fun _ hK => wp_app_seg w s x t ho B e i z size bytes ht hi hz hsize hby hzs hsz hb1 enc he h1 v xs hs hown A l c n hx hn hl C hsrc hbase fun v' w' h2 h3 h4 => hK _ _ (h v' w' h2 h3 h4)
def subA (A : Option Addr) (cap l size : Nat) : Option Addr := if cap = l then A else A.map (·.add (l * size))
end Go.Proofs.YtginnonjdbpamaaGreatDoor
