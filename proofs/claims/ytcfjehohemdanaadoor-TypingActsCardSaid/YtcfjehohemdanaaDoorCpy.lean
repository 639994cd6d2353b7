/- One walked step for 'append([]T{}, l...)': the list copied whole into a block of its own. Elements of a slice of the call's own read and stored. -/
import Derived.Test.YtcfjehohemdanaaDoorOwn2
import Derived.Laws.AppendOwnNone
namespace Go.Proofs.YtcfjehohemdanaaDoor
open Go.RowKit

theorem flat_len {α : Type} {enc : α → List Value} {size : Nat} (he : ∀ x, (enc x).length = size) (l : List α) : (l.flatMap enc).length = l.length * size := by
  induction l with
  | nil => simp
  | cons a l ih => rw [List.flatMap_cons, List.length_append, ih, he, List.length_cons, Nat.succ_mul]; omega
theorem src_cells {α : Type} {enc : α → List Value} {size : Nat} (he : ∀ x, (enc x).length = size) (h0 : 0 < size) {w : World} {B : Nat} {A : Addr} {l : List α} (h : Seg w B size enc (some A) l) : ∀ j u, (l.flatMap enc)[j]? = some u → w.cell? (A.add j) = some u := by
  intro j u hu
  have hj := (List.getElem?_eq_some_iff.1 hu).1
  rw [flat_len he] at hj
  have hk : j / size < l.length := Nat.div_lt_of_lt_mul (by rw [Nat.mul_comm]; exact hj)
  obtain ⟨x, hx⟩ : ∃ x, l[j / size]? = some x := ⟨_, List.getElem?_eq_getElem hk⟩
  obtain ⟨b, off, e, hl, hc⟩ := h _ x hx
  cases e
  have hr : j % size < size := Nat.mod_lt _ h0
  have e1 : j / size * size + j % size = j := by rw [Nat.mul_comm]; exact Nat.div_add_mod j size
  have e2 := getElem?_flatMap (enc := enc) he l (j / size) (j % size) x hx hr
  rw [e1, hu] at e2
  have h4 := hc (j % size) u e2.symm
  rw [Nat.add_assoc, e1] at h4
  unfold Addr.add
  split
  · rename_i hz; subst hz; simpa using h4
  · exact h4
theorem wpList_copy {P : Program} {α : Type} {w : World} {ops : Array Oper} {rest : List Oper} {o : Oper} {a : Act} {Q : Exit → Act → World → Prop} (hgd : o.guard = none) (s x : Operand) (t : TypeId)
    (ho : o.op = .call { callee := .builtin .append, args := #[s, x], argTypes := #[t, t] })
    (B : Nat) (e : TypeId) (i : TypeInfo) (z : Value) (size bytes : Nat) (ht : P.underlying t = some (.slice e)) (hi : P.info? e = some i) (hz : i.zero = some z)
    (hsize : i.size = size) (hby : i.bytes = bytes) (hzs : z.cells.size = size) (hsz : 0 < size) (hb1 : bytes ≤ 100000)
    (enc : α → List Value) (he : ∀ y, (enc y).length = size) (h1 : ∀ y, ∀ u ∈ enc y, u.oneCell' = true)
    (g : Nat) (hs : a.eval s = .slice (some ⟨g, 0, none⟩) 0 0) (hg : Blk w g e #[]) (hB : B ≤ g)
    (A : Option Addr) (l : List α) (c n : Nat) (hx : a.eval x = .slice A n c) (hn : n = l.length) (hl : l.length ≤ 1000000) (C : Nat) (hsrc : Seg w C size enc A l) (hnil : A = none → l = [] ∧ c = 0)
    (h : ∀ g' c' w', Own w' B e size enc (.slice (some ⟨g', 0, none⟩) l.length c') l → Below B w w' → B ≤ g' ∧ g' < w'.heap.size → wpList P ops Q rest (a.put o.dst (.slice (some ⟨g', 0, none⟩) l.length c')) w') : wpList P ops Q (o :: rest) a w := by
  subst hn
  have hO : w.ownsRow B e size (.slice (some ⟨g, 0, none⟩) 0 0) 0 [] := ⟨by simp, .inr ⟨g, 0, #[], rfl, hB, hg, Nat.le_refl _, by simp, by simp, by simp⟩⟩
  have hBw : B ≤ w.heap.size := Nat.le_trans hB (Nat.le_of_lt hg.lt)
  cases A with
  | none =>
    obtain ⟨rfl, rfl⟩ := hnil rfl
    refine wpList_append_own_none hgd s x t ho B e i size ht hi _ 0 [] hs hO hx ?_
    exact h g 0 w (by simpa [Own] using hO) (Below.refl _ _) ⟨hB, hg.lt⟩
  | some A =>
    refine wpList_append_own w hgd s x t ho B e i z size bytes ht hi hz hsize hby hzs hsz _ 0 [] hs hO A l.length c (l.flatMap enc) hx (flat_len he l) (src_cells he hsz hsrc) ?_ (by unfold maxLen; omega) ?_ hBw ?_
    · intro u hu
      obtain ⟨y, _, hy⟩ := List.mem_flatMap.1 hu
      exact h1 y u hy
    · have : (0 + l.length) * bytes ≤ 1000000 * 100000 := Nat.mul_le_mul (by omega) hb1
      omega
    · intro v' w' h2 h3 h4
      have hO' : Own w' B e size enc v' l := by simpa [Own] using h2
      rcases hO'.2 with ⟨e1, _⟩ | ⟨g', c', cur, e1, hg', hh, _⟩
      · have := (h4.1 e1).1
        cases this
      · subst e1
        exact h g' c' w' hO' ((Below.refl B w).grown h3 hBw fun k hk => by cases hk; exact hB) ⟨hg', (Array.getElem?_eq_some_iff.1 hh).1⟩
theorem set_flat {α : Type} {enc : α → List Value} {size : Nat} (he : ∀ x, (enc x).length = size) {y : α} {j : Nat} {u : Value} : ∀ (xs : List α) (k : Nat) (x : α), xs[k]? = some x → enc y = (enc x).set j u → j < size → (xs.flatMap enc).set (k * size + j) u = (xs.set k y).flatMap enc
  | [], k, x, h, _, _ => by simp at h
  | z :: xs, 0, x, h, hy, hj => by
    simp at h; subst h
    have hz := he z
    simp only [List.flatMap_cons, List.set_cons_zero, Nat.zero_mul, Nat.zero_add, hy]
    rw [List.set_append_left _ _ (by omega)]
  | z :: xs, k + 1, x, h, hy, hj => by
    have ih := set_flat he xs k x (by simpa using h) hy hj
    simp only [List.flatMap_cons, List.set_cons_succ]
    rw [List.set_append_right _ _ (by rw [he, Nat.add_mul]; omega), he, show (k + 1) * size + j - size = k * size + j by rw [Nat.add_mul]; omega, ih]
section
variable {α : Type} {w : World} {B : Nat} {T : TypeId} {size : Nat} {enc : α → List Value} {xs : List α} {g n cap : Nat}
/-- one cell of an element stored -/
theorem Own.setAt (h : Own w B T size enc (.slice (some ⟨g, 0, none⟩) n cap) xs) (he : ∀ x, (enc x).length = size) (hn : xs.length = n) {k j : Nat} {x y : α} {u : Value} (hx : xs[k]? = some x) (hj : j < size) (hy : enc y = (enc x).set j u) :
    Own (w.setCell ⟨g, k * size + j, none⟩ u) B T size enc (.slice (some ⟨g, 0, none⟩) n cap) (xs.set k y) := by
  unfold Own at h ⊢
  rw [hn] at h
  have h1 := (World.ownsRow.stored h (k * size + j) u).1
  rw [List.length_set, hn, ← set_flat he xs k x hx hy hj]
  exact h1
theorem Own.getAt (h : Own w B T size enc (.slice (some ⟨g, 0, none⟩) n cap) xs) (he : ∀ x, (enc x).length = size) (hn : xs.length = n) {k j : Nat} {x : α} (hx : xs[k]? = some x) (hj : j < size) :
    w.cell? ⟨g, k * size + j, none⟩ = (enc x)[j]? ∧ w.frozen? ⟨g, k * size + j, none⟩ = false := by
  have hk : k < xs.length := (List.getElem?_eq_some_iff.1 hx).1
  unfold Own at h
  rw [hn] at h
  have h1 : k * size + j < n * size := by
    have : (k + 1) * size ≤ n * size := Nat.mul_le_mul_right _ (by omega)
    rw [Nat.add_mul] at this; omega
  have e1 := World.ownsRow.cellAt h (k * size + j) h1
  exact ⟨e1.trans (getElem?_flatMap he xs k j x hx hj), World.ownsRow.frozenAt h _⟩
/-- the block of a slice of the call's own that is not nil -/
theorem Own.blk {v : Value} (h : Own w B T size enc v xs) (hv : v ≠ .slice none 0 0) : ∃ g cap, v = .slice (some ⟨g, 0, none⟩) xs.length cap ∧ B ≤ g ∧ g < w.heap.size := by
  rcases h.2 with ⟨h1, hl⟩ | ⟨g, cap, cur, hv', hg, hh, _⟩
  · exact absurd h1 hv
  · exact ⟨g, cap, hv', hg, (Array.getElem?_eq_some_iff.1 hh).1⟩
end
end Go.Proofs.YtcfjehohemdanaaDoor
