/- More on slices of the call's own: an element of two cells stored; kept below a bound. -/
import Derived.Test.YtcfjehohemdanaaDoorOwn
namespace Go.Proofs.YtcfjehohemdanaaDoor
open Go.RowKit

theorem set_flatMap {α : Type} {enc : α → List Value} {a b : Value} {r : α} (he : ∀ x, (enc x).length = 2) (hr : enc r = [a, b]) : ∀ (xs : List α) (k : Nat), k < xs.length → ((xs.flatMap enc).set (k * 2) a).set (k * 2 + 1) b = (xs.set k r).flatMap enc
  | [], k, h => by simp at h
  | x :: xs, 0, _ => by
    have h2 := he x
    match hx : enc x, h2 with
    | [u, v], _ => simp [hx, hr]
  | x :: xs, k + 1, h => by
    have h2 := he x
    have ih := set_flatMap he hr xs k (by simpa using h)
    match hx : enc x, h2 with
    | [u, v], _ =>
      simp only [List.flatMap_cons, hx, List.cons_append, List.nil_append, List.set_cons_succ, show (k + 1) * 2 = k * 2 + 1 + 1 by omega]
      rw [ih]

section
variable {α : Type} {w w' : World} {B : Nat} {T : TypeId} {enc : α → List Value} {xs : List α} {g n cap : Nat}
theorem Own.set2 (h : Own w B T 2 enc (.slice (some ⟨g, 0, none⟩) n cap) xs) (he : ∀ x, (enc x).length = 2) (hn : xs.length = n) {k : Nat} (hk : k < n) {a b : Value} {r : α} (hr : enc r = [a, b]) :
    Own ((w.setCell ⟨g, k * 2, none⟩ a).setCell ⟨g, k * 2 + 1, none⟩ b) B T 2 enc (.slice (some ⟨g, 0, none⟩) n cap) (xs.set k r) := by
  unfold Own at h ⊢
  rw [hn] at h
  have h1 := (World.ownsRow.stored h (k * 2) a).1
  have h2 := (World.ownsRow.stored h1 (k * 2 + 1) b).1
  rw [List.length_set, hn, ← set_flatMap he hr xs k (by omega)]
  exact h2
theorem Own.keepB {size : Nat} {v : Value} {B' : Nat} (h : Own w B T size enc v xs) (hb : Below B' w w') (hg : ∀ k, v.ownBlock = some k → k < B') : Own w' B T size enc v xs := by
  refine ⟨h.1, ?_⟩
  rcases h.2 with h2 | ⟨g, cap, cur, hv, hg', hh, r⟩
  · exact .inl h2
  · exact .inr ⟨g, cap, cur, hv, hg', (hb.block g (hg g (by rw [hv]; rfl))).trans hh, r⟩
theorem Own.setNe {size : Nat} {v : Value} (h : Own w B T size enc v xs) {p : Addr} (hne : ∀ k, v.ownBlock = some k → k ≠ p.block) (u : Value) : Own (w.setCell p u) B T size enc v xs := by
  refine ⟨h.1, ?_⟩
  rcases h.2 with h2 | ⟨g, cap, cur, hv, hg', hh, r⟩
  · exact .inl h2
  · exact .inr ⟨g, cap, cur, hv, hg', (Below.heap_setCell w p u g (hne g (by rw [hv]; rfl))).trans hh, r⟩
theorem Own.cellsAt (h : Own w B T 2 enc (.slice (some ⟨g, 0, none⟩) n cap) xs) (he : ∀ x, (enc x).length = 2) {k : Nat} {x : α} (hx : xs[k]? = some x) {a b : Value} (hr : enc x = [a, b]) :
    w.cell? ⟨g, k * 2, none⟩ = some a ∧ w.cell? ⟨g, k * 2 + 1, none⟩ = some b ∧ w.frozen? ⟨g, k * 2, none⟩ = false ∧ w.frozen? ⟨g, k * 2 + 1, none⟩ = false := by
  have hn : xs.length = n := by
    rcases h.2 with ⟨h1, _⟩ | ⟨_, _, _, h1, _⟩
    · cases h1
    · injection h1 with _ h2 _; exact h2.symm
  have hk : k < xs.length := (List.getElem?_eq_some_iff.1 hx).1
  unfold Own at h
  rw [hn] at h
  have e1 := World.ownsRow.cellAt h (k * 2) (by omega)
  have e2 := World.ownsRow.cellAt h (k * 2 + 1) (by omega)
  have g1 := getElem?_flatMap he xs k 0 x hx (by omega)
  have g2 := getElem?_flatMap he xs k 1 x hx (by omega)
  rw [hr] at g1 g2
  exact ⟨e1.trans g1, e2.trans g2, World.ownsRow.frozenAt h _, World.ownsRow.frozenAt h _⟩
end

/-- the length of a slice value -/
def lenV : Value → Nat | .slice _ n _ => n | _ => 0
theorem lenV_own {α : Type} {w : World} {B : Nat} {T : TypeId} {size : Nat} {enc : α → List Value} {v : Value} {xs : List α} (h : Own w B T size enc v xs) : lenV v = xs.length := by
  rcases h.2 with ⟨h1, h2⟩ | ⟨_, _, _, h1, _⟩
  · rw [h1]; exact h2.symm
  · rw [h1]; rfl
end Go.Proofs.YtcfjehohemdanaaDoor
