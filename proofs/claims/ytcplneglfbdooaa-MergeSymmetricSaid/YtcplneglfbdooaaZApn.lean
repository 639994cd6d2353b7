/- Append of a whole list to a slice of the call's own, whatever the source's address; a part of a list as a slice. -/
import Derived.Test.YtcplneglfbdooaaMb7
import Derived.Test.YtcplneglfbdooaaMb2
namespace Go.Proofs.Ytcplneglfbdooaa
open Go.RowKit

theorem run_append_none_cap {P : Program} {w : World} (base : Nat) (t ty e : TypeId) (i : TypeInfo) (size c : Nat) (ht : P.underlying t = some (.slice e)) (hi : P.info? e = some i)
    (v : Value) (n : Nat) (xs : List Value) (hown : w.ownsRow base e size v n xs) :
    (Builtin.append_ #[t, t] ty #[v, .slice none 0 c]).run P w = .ok v w := by
  rcases hown.2 with ⟨rfl, rfl⟩ | ⟨g, cap, cur, rfl, _, _, hnc, _⟩
  · simp [Builtin.append_, run_underlying ht, sizeOf, typeInfo, hi, Builtin.lenOf, Builtin.firstCells]
  · simp [Builtin.append_, run_underlying ht, sizeOf, typeInfo, hi, Builtin.lenOf, Builtin.firstCells, hnc, storeCells]
theorem wp_app_seg {P : Program} {α : Type} (w : World) {o : Oper} {a : Act} {K : Act → World → Prop} {Q : Exit → Act → World → Prop} (s x : Operand) (t : TypeId)
    (ho : o.op = .call { callee := .builtin .append, args := #[s, x], argTypes := #[t, t] })
    (B : Nat) (e : TypeId) (i : TypeInfo) (z : Value) (size bytes : Nat) (ht : P.underlying t = some (.slice e)) (hi : P.info? e = some i) (hz : i.zero = some z)
    (hsize : i.size = size) (hby : i.bytes = bytes) (hzs : z.cells.size = size) (hsz : 0 < size) (hb1 : bytes ≤ 100000)
    (enc : α → List Value) (he : ∀ y, (enc y).length = size) (h1 : ∀ y, ∀ u ∈ enc y, u.oneCell' = true)
    (v : Value) (xs : List α) (hs : a.eval s = v) (hown : Own w B e size enc v xs)
    (A : Option Addr) (l : List α) (c n : Nat) (hx : a.eval x = .slice A n c) (hn : n = l.length) (hl : xs.length + l.length ≤ 1000000) (C : Nat) (hsrc : Seg w C size enc A l) (hbase : B ≤ w.heap.size)
    (h : ∀ v' w', Own w' B e size enc v' (xs ++ l) → Below B w w' → w.grownBy w' v.ownBlock → K (a.put o.dst v') w') : o.wp P a w K Q := by
  subst hn
  cases A with
  | none =>
    have hl0 : l = [] := by
      cases l with
      | nil => rfl
      | cons y l => obtain ⟨b, off, e0, _⟩ := hsrc 0 y rfl; cases e0
    subst hl0
    have hrun := run_append_none_cap (P := P) (w := w) B t o.type e i size c ht hi v xs.length (xs.flatMap enc) hown
    have h2 := h v w (by simpa using hown) (Below.refl _ _) (grown_of_below (Below.refl _ _) _)
    unfold Oper.wp
    simp [execOp, ho, resolve, invoke, builtin, hs, hx, hrun, Result.andThen]
    exact h2
  | some A =>
    refine wp_append_own w s x t ho B e i z size bytes ht hi hz hsize hby hzs hsz v xs.length (xs.flatMap enc) hs hown A l.length c (l.flatMap enc) hx (flat_len he l) (src_cells he hsz hsrc) ?_ (by unfold maxLen; omega) ?_ hbase ?_
    · intro u hu
      obtain ⟨y, _, hy⟩ := List.mem_flatMap.1 hu
      exact h1 y u hy
    · have : (xs.length + l.length) * bytes ≤ 1000000 * 100000 := Nat.mul_le_mul hl hb1
      omega
    · intro v' w' h2 h3 h4
      refine h v' w' ?_ ((Below.refl B w).grown h3 hbase fun k hk => (World.ownsRow.lt hown k hk).1) h3
      unfold Own
      rw [List.length_append, List.flatMap_append]
      exact h2
theorem wpList_app_seg {P : Program} {α : Type} (w : World) {ops : Array Oper} {rest : List Oper} {o : Oper} {a : Act} {Q : Exit → Act → World → Prop} (hgd : o.guard = none) (s x : Operand) (t : TypeId)
    (ho : o.op = .call { callee := .builtin .append, args := #[s, x], argTypes := #[t, t] })
    (B : Nat) (e : TypeId) (i : TypeInfo) (z : Value) (size bytes : Nat) (ht : P.underlying t = some (.slice e)) (hi : P.info? e = some i) (hz : i.zero = some z)
    (hsize : i.size = size) (hby : i.bytes = bytes) (hzs : z.cells.size = size) (hsz : 0 < size) (hb1 : bytes ≤ 100000)
    (enc : α → List Value) (he : ∀ y, (enc y).length = size) (h1 : ∀ y, ∀ u ∈ enc y, u.oneCell' = true)
    (v : Value) (xs : List α) (hs : a.eval s = v) (hown : Own w B e size enc v xs)
    (A : Option Addr) (l : List α) (c n : Nat) (hx : a.eval x = .slice A n c) (hn : n = l.length) (hl : xs.length + l.length ≤ 1000000) (C : Nat) (hsrc : Seg w C size enc A l) (hbase : B ≤ w.heap.size)
    (h : ∀ v' w', Own w' B e size enc v' (xs ++ l) → Below B w w' → w.grownBy w' v.ownBlock → wpList P ops Q rest (a.put o.dst v') w') : wpList P ops Q (o :: rest) a w :=
  wpList_plain hgd fun _ hK => wp_app_seg w s x t ho B e i z size bytes ht hi hz hsize hby hzs hsz hb1 enc he h1 v xs hs hown A l c n hx hn hl C hsrc hbase fun v' w' h2 h3 h4 => hK _ _ (h v' w' h2 h3 h4)
theorem Blk.grownO {α : Type} {w w' : World} {b : Nat} {t : TypeId} {cs : Array Value} {B : Nat} {T : TypeId} {size : Nat} {enc : α → List Value} {v : Value} {xs : List α} (h : Blk w b t cs) (hO : Own w B T size enc v xs) (hT : T ≠ t) (hg : w.grownBy w' v.ownBlock) : Blk w' b t cs := by
  have hne : some b ≠ v.ownBlock := fun e => by
    rcases hO.2 with ⟨e1, _⟩ | ⟨k, cap, cur, hv, _, hh, _⟩
    · rw [e1] at e; cases e
    · rw [hv] at e
      obtain rfl : b = k := Option.some.inj e
      have h2 := h.symm.trans hh
      injection h2 with h2
      injection h2 with _ h3 _
      exact hT h3.symm
  exact (hg.block b h.lt hne).trans h
theorem own_new0 {α : Type} {B size : Nat} {enc : α → List Value} {W V : World} {T : TypeId} (h : V = W.alloc (.cells #[] T)) (hB : B ≤ W.heap.size) : Own V B T size enc (.slice (some ⟨W.heap.size, 0, none⟩) 0 0) [] := by
  subst h
  exact ⟨by simp, .inr ⟨W.heap.size, 0, #[], rfl, hB, Blk.new _ _ _, Nat.le_refl _, by simp, by simp, by simp⟩⟩
/-- the address of a part of a list -/
def subA (A : Option Addr) (cap l size : Nat) : Option Addr := if cap = l then A else A.map (·.add (l * size))
theorem sub_seg {α : Type} {w : World} {C size : Nat} {enc : α → List Value} {A : Option Addr} {xs : List α} {cap l h : Nat} (hs : Seg w C size enc A xs) (hx : xs.length ≤ cap) : Seg w C size enc (subA A cap l size) ((xs.drop l).take h) := by
  intro k x hk
  have hk2 : xs[l + k]? = some x := by
    rw [List.getElem?_take] at hk
    split at hk
    · rwa [List.getElem?_drop] at hk
    · cases hk
  have hlt := (List.getElem?_eq_some_iff.1 hk2).1
  obtain ⟨b, off, e, hb, hc⟩ := hs (l + k) x hk2
  refine ⟨b, off + l * size, ?_, hb, fun j v hv => ?_⟩
  · unfold subA
    rw [if_neg (by omega), e]
    simp [Addr.add]
  · have h2 := hc j v hv
    rw [Nat.add_mul] at h2
    rw [show off + l * size + k * size + j = off + (l * size + k * size) + j by omega]
    exact h2
theorem sub_at {t : TypeId} {size : Nat} {A : Option Addr} {len cap l h : Nat} (h1 : l ≤ h) (h2 : h ≤ cap) (ht : Try.prog.underlying t = some (.slice (Try.prog.elem t))) (hs : ∀ W : World, (sizeOf (Try.prog.elem t)).run Try.prog W = .ok size W) (W : World) :
    (Instr.slice t (.slice A len cap) (some (.int .i64 (l : Nat))) (some (.int .i64 (h : Nat))) none).run Try.prog W = .ok (.slice (subA A cap l size) (h - l) (cap - l)) W := by
  rw [run_slice_lh W t A len cap ht .i64 .i64 l h (by omega) (by omega) (by omega), hs]
  rfl
theorem tail_at {t : TypeId} {size : Nat} {A : Option Addr} {len cap l : Nat} (h1 : l ≤ len) (ht : Try.prog.underlying t = some (.slice (Try.prog.elem t))) (hs : ∀ W : World, (sizeOf (Try.prog.elem t)).run Try.prog W = .ok size W) (W : World) :
    (Instr.slice t (.slice A len cap) (some (.int .i64 (l : Nat))) none none).run Try.prog W = .ok (.slice (subA A cap l size) (len - l) (cap - l)) W := by
  rw [run_slice_l W t A len cap ht .i64 l (by omega) (by omega), hs]
  rfl
end Go.Proofs.Ytcplneglfbdooaa
