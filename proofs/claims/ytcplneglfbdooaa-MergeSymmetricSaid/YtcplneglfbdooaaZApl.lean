/- Append of a whole list to a slice of the call's own, at one operation; what stays beside it. -/
import Derived.Test.YtcplneglfbdooaaMb7
namespace Go.Proofs.Ytcplneglfbdooaa
open Go.RowKit

theorem wp_app_list {P : Program} {α : Type} (w : World) {o : Oper} {a : Act} {K : Act → World → Prop} {Q : Exit → Act → World → Prop} (s x : Operand) (t : TypeId)
    (ho : o.op = .call { callee := .builtin .append, args := #[s, x], argTypes := #[t, t] })
    (B : Nat) (e : TypeId) (i : TypeInfo) (z : Value) (size bytes : Nat) (ht : P.underlying t = some (.slice e)) (hi : P.info? e = some i) (hz : i.zero = some z)
    (hsize : i.size = size) (hby : i.bytes = bytes) (hzs : z.cells.size = size) (hsz : 0 < size) (hb1 : bytes ≤ 100000)
    (enc : α → List Value) (he : ∀ y, (enc y).length = size) (h1 : ∀ y, ∀ u ∈ enc y, u.oneCell' = true)
    (v : Value) (xs : List α) (hs : a.eval s = v) (hown : Own w B e size enc v xs)
    (A : Option Addr) (l : List α) (c n : Nat) (hx : a.eval x = .slice A n c) (hn : n = l.length) (hl : xs.length + l.length ≤ 1000000) (C : Nat) (hsrc : Seg w C size enc A l) (hnil : A = none → l = [] ∧ c = 0) (hbase : B ≤ w.heap.size)
    (h : ∀ v' w', Own w' B e size enc v' (xs ++ l) → Below B w w' → w.grownBy w' v.ownBlock → K (a.put o.dst v') w') : o.wp P a w K Q := by
  subst hn
  cases A with
  | none =>
    obtain ⟨rfl, rfl⟩ := hnil rfl
    have hrun := run_append_owned_none (P := P) (w := w) B t o.type e i size ht hi v xs.length (xs.flatMap enc) hown
    have h2 := h v w (by simpa using hown) (Below.refl _ _) (grown_of_below (Below.refl _ _) _)
    unfold Oper.wp
    simp [execOp, ho, resolve, invoke, builtin, hs, hx, hrun, Result.andThen]
    exact h2
  | some A =>
    refine wp_append_own w s x t ho B e i z size bytes ht hi hz hsize hby hzs hsz v xs.length (xs.flatMap enc) hs hown A l.length c (l.flatMap enc) hx (flat_len he l) (src_cells he hsz hsrc) ?_ (by unfold maxLen; omega) ?_ hbase ?_
    · intro u hu
      obtain ⟨y, _, hy⟩ := List.mem_flatMap.1 hu
      exact h1 y u hy
    · have : (xs.length + l.length) * bytes ≤ 1000000 * 100000 := Nat.mul_le_mul hl hb1
      omega
    · intro v' w' h2 h3 h4
      refine h v' w' ?_ ((Below.refl B w).grown h3 hbase fun k hk => (World.ownsRow.lt hown k hk).1) h3
      unfold Own
      rw [List.length_append, List.flatMap_append]
      exact h2
theorem Blk.grownBy {α : Type} {w w' : World} {b : Nat} {t : TypeId} {cs : Array Value} {B : Nat} {T : TypeId} {size : Nat} {enc : α → List Value} {v : Value} {xs : List α} (h : Blk w b t cs) (hO : Own w B T size enc v xs) (hT : T ≠ t) (hg : w.grownBy w' v.ownBlock) : Blk w' b t cs := by
  have hne : v.ownBlock ≠ some b := fun e => by
    rcases hO.2 with ⟨e1, _⟩ | ⟨k, cap, cur, hv, _, hh, _⟩
    · rw [e1] at e; cases e
    · rw [hv] at e
      obtain rfl : k = b := Option.some.inj e
      have h2 := h.symm.trans hh
      injection h2 with h2
      injection h2 with _ h3 _
      exact hT h3.symm
  exact (hg.block b h.lt (Ne.symm hne)).trans h
theorem own_new {α : Type} {B size : Nat} {enc : α → List Value} {W V : World} {T : TypeId} (h : V = W.alloc (.cells #[] T)) (hB : B ≤ W.heap.size) : Own V B T size enc (.slice (some ⟨W.heap.size, 0, none⟩) 0 0) [] ∧ Below W.heap.size W V := by
  subst h
  exact ⟨⟨by simp, .inr ⟨W.heap.size, 0, #[], rfl, hB, Blk.new _ _ _, Nat.le_refl _, by simp, by simp, by simp⟩⟩, wa1 _ _⟩
end Go.Proofs.Ytcplneglfbdooaa
