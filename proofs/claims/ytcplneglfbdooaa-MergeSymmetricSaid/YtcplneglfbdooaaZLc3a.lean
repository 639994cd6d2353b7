/- What the law MergeInterleaves needs besides its walk. -/
import Derived.Test.YtcplneglfbdooaaZLc2a
namespace Go.Proofs.Ytcplneglfbdooaa
open Go.RowKit

theorem shuf_left {l r s : List Pat} (p : Pat) (h : Shuf l r s) : Shuf (l ++ [p]) r (s ++ [p]) := by
  induction h with
  | nil => exact .left .nil
  | left _ ih => exact .left ih
  | right _ ih => exact .right ih
theorem shuf_right {l r s : List Pat} (p : Pat) (h : Shuf l r s) : Shuf l (r ++ [p]) (s ++ [p]) := by
  induction h with
  | nil => exact .right .nil
  | left _ ih => exact .left ih
  | right _ ih => exact .right ih
theorem shuf_app : ∀ (l r : List Pat), Shuf l r (l ++ r)
  | [], [] => .nil
  | [], q :: r => .right (shuf_app [] r)
  | p :: l, r => .left (shuf_app l r)
theorem shuf_len {l r s : List Pat} (h : Shuf l r s) : s.length = l.length + r.length := by
  induction h with
  | nil => rfl
  | left _ ih => simp only [List.length_cons, ih]; omega
  | right _ ih => simp only [List.length_cons, ih]; omega
theorem mr_zero {c : Con} {l r : List Pat} (h : (c.mrE l r).1 = 0) : c.allE l = 0 ∧ c.allE r = 0 ∧ ¬ (60 < l.length + r.length ∨ 400 < c.cl.length + addsN l + addsN r) ∧ outer c.cl.length r c 0 0 l = none := by
  unfold Con.mrE at h
  split at h
  · rename_i h1; exact absurd h h1
  · rename_i h1
    split at h
    · rename_i h2; exact absurd h h2
    · rename_i h2
      split at h
      · cases h
      · rename_i h3
        refine ⟨by omega, by omega, h3, ?_⟩
        cases ho : outer c.cl.length r c 0 0 l with
        | none => rfl
        | some x => rw [ho] at h; cases h
theorem mr_pair {c : Con} {l r : List Pat} (h : (c.mrE l r).1 ≠ 16) : c.mrE l r = ((c.mrE l r).1, 0, 0) := by
  unfold Con.mrE at h ⊢
  repeat' split
  all_goals first | rfl | skip
  rename_i ho
  simp only [ho] at h
  repeat' split at h
  all_goals first | contradiction | skip
  all_goals simp_all
theorem noAdd_of {l : List Pat} (h : addsN l = 0) : noAdd l := fun p hp hk => by
  have : p ∈ l.filter (fun p => p.kind == 1) := List.mem_filter.2 ⟨hp, by simp [hk]⟩
  unfold addsN at h
  rw [List.eq_nil_of_length_eq_zero h] at this
  cases this
theorem interleave_law {c : Con} {l r s : List Pat} (hl : l.length + r.length ≤ 12) (h1 : addsN l = 0) (h2 : addsN r = 0) (hm : (c.mrE l r).1 = 0) (hs : Shuf l r s) : c.allE (c.mrL l r) = 0 ∧ c.allE s = 0 ∧ c.allC s = c.allC (c.mrL l r) := by
  obtain ⟨e1, e2, _, ho⟩ := mr_zero hm
  obtain ⟨o1, _, o3, _⟩ := allE_ok e1
  obtain ⟨_, _, p3, _⟩ := allE_ok e2
  have hg := outer_grid _ _ _ _ _ (noAdd_of h1) ho o3 p3
  obtain ⟨q1, q2, q3⟩ := shuf_same hs (noAdd_of h1) (noAdd_of h2) hg o3 p3
  have hL : c.mrL l r = l ++ r := by
    have hid : ∀ l : List Pat, l.map (fun p => p.ren c.cl.length 0) = l := fun l => by
      rw [show (fun p : Pat => p.ren c.cl.length 0) = id from funext fun p => ren_zero p _, List.map_id]
    unfold Con.mrL
    rw [h1, hid, hid]
  have ha := al_app c l r o3
  have e3 : c.allE (l ++ r) = 0 := by
    unfold Con.allE
    rw [if_pos o1, List.length_append, if_neg (by omega), ha]
    exact q3
  have e4 : c.allE s = 0 := by
    unfold Con.allE
    rw [if_pos o1, shuf_len hs, if_neg (by omega)]
    exact q1
  rw [hL]
  refine ⟨e3, e4, ?_⟩
  unfold Con.allC
  rw [if_pos e3, if_pos e4, q2, ha]
theorem pats_of {w w' : World} {A1 A2 A3 : Option Addr} {L1 L2 M : List Pk} (h1 : Pats w A1 L1) (h2 : Pats w A2 L2) (hb : Below w.heap.size w w') (hm : ∀ x ∈ M, x ∈ L1 ∨ x ∈ L2) (hl : M.length ≤ 1000000) (hs : Seg w' w'.heap.size 19 eP A3 M) : Pats w' A3 M :=
  ⟨hs, fun x hx => (hm x hx).elim (fun h => (h1.t x h).then_ hb) (fun h => (h2.t x h).then_ hb), hl⟩
theorem adds_at {w : World} {L : List Pk} {A : Option Addr} {k : Nat} {a : Nat} (h : Pats w A L) (ha : addsN (pats L) = a) (W : World) (hb : Below w.heap.size w W) : Calls Try.prog 15 #[.slice A L.length k] W fun e w' => e = .returned (.int .i64 (a : Nat)) ∧ Below W.heap.size W w' := by
  subst ha
  exact radds_any L A k W (h.then_ hb).s h.n
end Go.Proofs.Ytcplneglfbdooaa
