/- Plain: the indices that a list of bools chooses; ending clauses as waiving them one by one. -/
import Derived.Test.YtplommmegkdhdaaGreatDoorMb16
namespace Go.Proofs.YtplommmegkdhdaaGreatDoor

def selI : Nat → List Bool → List Int
  | _, [] => []
  | k, b :: r => (if b then [(k : Int)] else []) ++ selI (k + 1) r
theorem selI_snoc : ∀ (k : Nat) (l : List Bool) (b : Bool), selI k (l ++ [b]) = selI k l ++ (if b then [((k + l.length : Nat) : Int)] else [])
  | k, [], b => by simp [selI]
  | k, a :: l, b => by
    rw [List.cons_append, selI, selI_snoc (k + 1) l b, selI, List.append_assoc, List.length_cons, show k + 1 + l.length = k + (l.length + 1) by omega]
theorem selI_len : ∀ (k : Nat) (l : List Bool), (selI k l).length ≤ l.length
  | _, [] => Nat.le_refl _
  | k, b :: l => by
    have := selI_len (k + 1) l
    rw [selI, List.length_append, List.length_cons]
    cases b <;> simp <;> omega
theorem selI_inc (n : Nat) : ∀ (l : List Bool) (k : Nat) (last : Int), k + l.length ≤ n → last < k → incI n last (selI k l) = true
  | [], _, _, _, _ => rfl
  | b :: l, k, last, h, hl => by
    rw [List.length_cons] at h
    cases b with
    | true =>
      have := selI_inc n l (k + 1) k (by omega) (by omega)
      show (decide (last < (k : Int)) && decide ((k : Int) < n) && incI n k (selI (k + 1) l)) = true
      rw [this, decide_eq_true hl, decide_eq_true (by omega)]
      rfl
    | false => exact selI_inc n l (k + 1) last (by omega) (by omega)
theorem rev_get {l : List Int} {j : Nat} (h : j < l.length) : l.reverse[j]? = l[l.length - 1 - j]? := by
  rw [List.getElem?_reverse h]
theorem take_wai {l : List Int} {j : Nat} {x : Int} (h : l[j]? = some x) : l.take (j + 1) = l.take j ++ [x] := by rw [List.take_add_one, h]; rfl
end Go.Proofs.YtplommmegkdhdaaGreatDoor
