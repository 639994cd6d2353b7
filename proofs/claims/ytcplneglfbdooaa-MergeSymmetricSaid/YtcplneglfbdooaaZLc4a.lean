/- What the law MergeConflicts needs besides its walk. -/
import Derived.Test.YtcplneglfbdooaaZLc3a
namespace Go.Proofs.Ytcplneglfbdooaa
open Go.RowKit

theorem pats_take {w : World} {A : Option Addr} {L : List Pk} (h : Pats w A L) (i : Nat) : Pats w A (L.take i) :=
  ⟨fun k x hx => h.s k x (by
    rw [List.getElem?_take] at hx
    split at hx
    · exact hx
    · cases hx), fun x hx => h.t x (List.mem_of_mem_take hx), by rw [List.length_take]; have := h.n; omega⟩
theorem pats_takes (L : List Pk) (i : Nat) : pats (L.take i) = (pats L).take i := by unfold pats; rw [List.map_take]
theorem apply_to (c C : Con) (m : Cm) (p : Pat) (pm : Pm) (E : Int) (w : World) (h : Cont w c m) (hp : PatM w p pm) (hE : c.apE p = E) (hC : c.apC p = C) :
    Calls Try.prog 17 #[.agg (coA c m), .agg (pL p pm)] w fun e w' => (∃ m', e = .returned (.tuple #[.agg (coA C m'), .int .i64 E]) ∧ Cont w' C m') ∧ Below w.heap.size w w' := by
  subst hE
  subst hC
  exact (apply_any c m p pm w h hp).mono fun e w' ⟨⟨m', h1, h2, _⟩, hb⟩ => ⟨⟨m', h1, h2⟩, hb⟩
theorem mrg_tk (c : Con) (m : Cm) (L R : List Pk) (A1 A2 : Option Addr) (i j nL nR k1 k2 : Nat) (W : World) (E : Int) (x y : Nat) (h : Cont W c m) (hL : Pats W A1 L) (hR : Pats W A2 R) (n1 : (L.take i).length = nL) (n2 : (R.take j).length = nR) (hk : nL ≤ k1) (he : c.mrE ((pats L).take i) ((pats R).take j) = (E, x, y)) :
    Calls Try.prog 13 #[.agg (coA c m), .slice A1 nL k1, .slice A2 nR k2] W fun e w' => (∃ A cap M, e = .returned (.tuple #[.slice A (M : List Pk).length cap, .agg (pairA x y), .int .i64 E]) ∧ Pats w' A M) ∧ Below W.heap.size W w' := by
  refine (mrg_to c m (L.take i) (R.take j) A1 A2 nL nR k1 k2 W E x y _ h (pats_take hL i) (pats_take hR j) n1 n2 hk (by rw [pats_takes, pats_takes, he]; rfl) (by omega) rfl).mono ?_
  rintro e w' ⟨⟨A, cap, M, rfl, h1, h2, h3⟩, hb⟩
  exact ⟨⟨A, cap, M, rfl, h2⟩, hb⟩
theorem one_parts {c : Con} {p q : Pat} (hn : c.cl.length ≤ 20) : (c.apE p = 0 ∧ c.apE q = 0 ∧ (c.mrE [p] [q]).1 = 0 ∧ c.com p q = true) ∨ (c.apE p = 0 ∧ c.apE q = 0 ∧ (c.mrE [p] [q]).1 ≠ 0 ∧ c.com p q = false) ∨ (c.apE p ≠ 0 ∧ (c.mrE [p] [q]).1 = c.apE p ∧ c.com p q = false) ∨ (c.apE p = 0 ∧ c.apE q ≠ 0 ∧ (c.mrE [p] [q]).1 = c.apE q ∧ c.com p q = false) := by
  obtain ⟨h1, h2, h3⟩ := one_law (c := c) (p := p) (q := q) hn
  have hf : ¬ (c.apE p = 0 ∧ c.apE q = 0) → c.com p q = false := fun h => Bool.eq_false_iff.2 fun e => h (com_apE e)
  by_cases e1 : c.apE p = 0
  · by_cases e2 : c.apE q = 0
    · cases hc : c.com p q with
      | true => exact .inl ⟨e1, e2, (h1 e1 e2).2 hc, rfl⟩
      | false => exact .inr (.inl ⟨e1, e2, (fun h => by rw [(h1 e1 e2).1 h] at hc; cases hc), rfl⟩)
    · exact .inr (.inr (.inr ⟨e1, e2, h3 e1 e2, hf (fun h => e2 h.2)⟩))
  · exact .inr (.inr (.inl ⟨e1, h2 e1, hf (fun h => e1 h.1)⟩))
end Go.Proofs.Ytcplneglfbdooaa
