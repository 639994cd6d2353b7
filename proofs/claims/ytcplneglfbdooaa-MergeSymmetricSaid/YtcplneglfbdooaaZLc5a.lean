/- What the law MergeSymmetric needs besides its walk. -/
import Derived.Test.YtcplneglfbdooaaZLc4a
import Derived.Test.YtcplneglfbdooaaZLd1
namespace Go.Proofs.Ytcplneglfbdooaa
open Go.RowKit

theorem ok_conds {c : Con} (h : c.ok = true) : ∀ k ∈ c.cl, ∀ s ∈ k.start, 0 ≤ s.1 ∧ s.1 ≤ 1000000 := fun k hk s hs => by
  obtain ⟨i, hi⟩ := List.getElem?_of_mem hk
  have h1 := claOk_cond (ok_cl h hi) s hs
  have h2 : c.cl.length ≤ 400 := by
    unfold Con.ok Con.lim at h
    simp only [Bool.and_eq_true, decide_eq_true_eq] at h
    omega
  omega
theorem mrL_len (c : Con) (l r : List Pat) : (c.mrL l r).length = l.length + r.length := by
  unfold Con.mrL
  rw [List.length_append, List.length_map, List.length_map]
theorem mrL_take (c : Con) (l r : List Pat) : (c.mrL l r).take l.length = l := by
  have hid : l.map (fun p => p.ren c.cl.length 0) = l := by
    rw [show (fun p : Pat => p.ren c.cl.length 0) = id from funext fun p => ren_zero p _, List.map_id]
  unfold Con.mrL
  rw [hid, List.take_append_of_le_length (Nat.le_refl _), List.take_length]
theorem exch_to (c C : Con) (m : Cm) (n a b : Nat) (w : World) (h : Cont w c m) (hl : n + a + b = c.cl.length) (hcd : ∀ k ∈ c.cl, ∀ s ∈ k.start, 0 ≤ s.1 ∧ s.1 ≤ 1000000) (hC : c.wc (exchL n a b c.cl) = C) :
    Calls Try.prog 16 #[.agg (coA c m), .int .i64 n, .int .i64 a, .int .i64 b] w fun e w' => (∃ m', e = .returned (.agg (coA C m')) ∧ Cont w' C m') ∧ Below w.heap.size w w' := by
  subst hC
  exact exch_any c m n a b w h hl hcd
end Go.Proofs.Ytcplneglfbdooaa
