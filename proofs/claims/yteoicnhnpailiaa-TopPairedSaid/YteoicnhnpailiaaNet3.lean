/- Plain: the least and the greatest position, the netting of all parties. -/
import Derived.Test.YteoicnhnpailiaaNet2
namespace Go.Proofs.Yteoicnhnpailiaa

/-- the k-th ratio -/
def at0 (qs : List Rat) (k : Nat) : Rat := (qs[k]?).getD 0
/-- the first of the least, of the greatest, among the first k -/
def minI (qs : List Rat) : Nat → Nat
  | 0 => 0
  | k + 1 => if at0 qs k < at0 qs (minI qs k) then k else minI qs k
def maxI (qs : List Rat) : Nat → Nat
  | 0 => 0
  | k + 1 => if at0 qs (maxI qs k) < at0 qs k then k else maxI qs k
theorem minI_lt (qs : List Rat) : ∀ k, 0 < k → minI qs k < k
  | 0, h => by omega
  | k + 1, _ => by
    unfold minI
    split
    · omega
    · rcases Nat.eq_zero_or_pos k with rfl | h
      · simp [minI]
      · have := minI_lt qs k h; omega
theorem maxI_lt (qs : List Rat) : ∀ k, 0 < k → maxI qs k < k
  | 0, h => by omega
  | k + 1, _ => by
    unfold maxI
    split
    · omega
    · rcases Nat.eq_zero_or_pos k with rfl | h
      · simp [maxI]
      · have := maxI_lt qs k h; omega
theorem minI_le (qs : List Rat) (k : Nat) : ∀ i, i < k → at0 qs (minI qs k) ≤ at0 qs i := by
  induction k with
  | zero => intro i h; omega
  | succ k ih =>
    intro i hi
    unfold minI
    split
    · rename_i hlt
      rcases Nat.lt_or_ge i k with h | h
      · exact Rat.le_trans (Rat.le_of_lt hlt) (ih i h)
      · obtain rfl : i = k := by omega
        exact Rat.le_refl
    · rename_i hlt
      rcases Nat.lt_or_ge i k with h | h
      · exact ih i h
      · obtain rfl : i = k := by omega
        exact Rat.not_lt.1 hlt
theorem maxI_le (qs : List Rat) (k : Nat) : ∀ i, i < k → at0 qs i ≤ at0 qs (maxI qs k) := by
  induction k with
  | zero => intro i h; omega
  | succ k ih =>
    intro i hi
    unfold maxI
    split
    · rename_i hlt
      rcases Nat.lt_or_ge i k with h | h
      · exact Rat.le_trans (ih i h) (Rat.le_of_lt hlt)
      · obtain rfl : i = k := by omega
        exact Rat.le_refl
    · rename_i hlt
      rcases Nat.lt_or_ge i k with h | h
      · exact ih i h
      · obtain rfl : i = k := by omega
        exact Rat.not_lt.1 hlt
/-- the amount that moves; what is left of the two positions -/
def amt (qs : List Rat) : Rat := if -(at0 qs (minI qs qs.length)) < at0 qs (maxI qs qs.length) then -(at0 qs (minI qs qs.length)) else at0 qs (maxI qs qs.length)
def stopB (qs : List Rat) : Bool := decide (0 ≤ at0 qs (minI qs qs.length)) || decide (at0 qs (maxI qs qs.length) ≤ 0)
def lft (qs : List Rat) : Rat := at0 qs (minI qs qs.length) + amt qs
def rgt (qs : List Rat) : Rat := at0 qs (maxI qs qs.length) - amt qs
def nxt (qs : List Rat) : List Rat := (qs.set (minI qs qs.length) (lft qs)).set (maxI qs qs.length) (rgt qs)
def mvD (qs : List Rat) : Db := ⟨minI qs qs.length, maxI qs qs.length, (amt qs).num, (amt qs).den⟩
/-- the debts after netting among all parties -/
def netF : Nat → List Rat → List Db → Option (List Db)
  | 0, _, made => some made
  | f + 1, qs, made => if stopB qs then some made else if inR (lft qs) && inR (rgt qs) then netF f (nxt qs) (made ++ [mvD qs]) else none
/-- how many positions are not 0 -/
def nz (qs : List Rat) : Nat := (qs.filter fun q => decide (¬ q = 0)).length
theorem nz_le (qs : List Rat) : nz qs ≤ qs.length := List.length_filter_le ..
theorem nz_set (qs : List Rat) (k : Nat) (r : Rat) (hk : k < qs.length) : nz (qs.set k r) + (if qs[k] = 0 then 0 else 1) = nz qs + (if r = 0 then 0 else 1) := by
  induction qs generalizing k with
  | nil => simp at hk
  | cons x xs ih =>
    cases k with
    | zero =>
      simp only [List.set_cons_zero, List.getElem_cons_zero, nz, List.filter_cons]
      by_cases h1 : r = 0 <;> by_cases h2 : x = 0 <;> simp [h1, h2] <;> omega
    | succ k =>
      simp only [List.length_cons] at hk
      have := ih k (by omega)
      simp only [List.set_cons_succ, List.getElem_cons_succ, nz, List.filter_cons] at this ⊢
      by_cases h2 : x = 0 <;> simp only [h2, not_true_eq_false, not_false_eq_true, decide_true, decide_false, if_true, if_false, Bool.false_eq_true, List.length_cons] <;> omega
theorem nxt_len (qs : List Rat) : (nxt qs).length = qs.length := by simp [nxt]
theorem at0_lt {qs : List Rat} {k : Nat} (h : k < qs.length) : at0 qs k = qs[k] := by simp [at0, h]
theorem stop_no {qs : List Rat} (h : stopB qs = false) : at0 qs (minI qs qs.length) < 0 ∧ 0 < at0 qs (maxI qs qs.length) ∧ 0 < qs.length ∧ minI qs qs.length ≠ maxI qs qs.length ∧ minI qs qs.length < qs.length ∧ maxI qs qs.length < qs.length := by
  simp only [stopB, Bool.or_eq_false_iff, decide_eq_false_iff_not] at h
  have h1 : at0 qs (minI qs qs.length) < 0 := Rat.not_le.1 h.1
  have h2 : 0 < at0 qs (maxI qs qs.length) := Rat.not_le.1 h.2
  have h3 : 0 < qs.length := by
    rcases Nat.eq_zero_or_pos qs.length with h0 | h0
    · have : qs = [] := List.eq_nil_of_length_eq_zero h0
      subst this
      simp [at0, Rat.lt_irrefl] at h1
    · exact h0
  refine ⟨h1, h2, h3, fun e => ?_, minI_lt _ _ h3, maxI_lt _ _ h3⟩
  rw [e] at h1
  exact Rat.lt_irrefl (by grind : at0 qs (maxI qs qs.length) < at0 qs (maxI qs qs.length))
theorem nz_nxt {qs : List Rat} (h : stopB qs = false) : nz (nxt qs) < nz qs := by
  obtain ⟨h1, h2, h3, h4, h5, h6⟩ := stop_no h
  have e1 := nz_set qs (minI qs qs.length) (lft qs) h5
  have e2 := nz_set (qs.set (minI qs qs.length) (lft qs)) (maxI qs qs.length) (rgt qs) (by simpa using h6)
  rw [List.getElem_set_ne h4 (by simpa using h6)] at e2
  rw [at0_lt h5] at h1
  rw [at0_lt h6] at h2
  have n1 : ¬ qs[minI qs qs.length] = 0 := fun e => by rw [e] at h1; exact Rat.lt_irrefl h1
  have n2 : ¬ qs[maxI qs qs.length] = 0 := fun e => by rw [e] at h2; exact Rat.lt_irrefl h2
  rw [if_neg n1] at e1
  rw [if_neg n2] at e2
  have hz : lft qs = 0 ∨ rgt qs = 0 := by
    unfold lft rgt amt
    split
    · left; grind
    · right; grind
  show nz ((qs.set (minI qs qs.length) (lft qs)).set (maxI qs qs.length) (rgt qs)) < nz qs
  rcases hz with hz | hz
  · rw [if_pos hz] at e1; split at e2 <;> omega
  · rw [if_pos hz] at e2; split at e1 <;> omega
theorem netF_stop {qs : List Rat} {made : List Db} {f : Nat} (h : stopB qs = true) : netF f qs made = some made := by
  cases f <;> simp [netF, h]
theorem netF_step {qs : List Rat} {made : List Db} {f : Nat} (h : stopB qs = false) (h1 : inR (lft qs) = true) (h2 : inR (rgt qs) = true) : netF (f + 1) qs made = netF f (nxt qs) (made ++ [mvD qs]) := by simp [netF, h, h1, h2]
theorem netF_bad {qs : List Rat} {made : List Db} {f : Nat} (h : stopB qs = false) (h1 : inR (lft qs) = false ∨ inR (rgt qs) = false) : netF (f + 1) qs made = none := by
  rcases h1 with h1 | h1 <;> simp [netF, h, h1]
theorem amt_pos {qs : List Rat} (h : stopB qs = false) : 0 < amt qs := by
  obtain ⟨h1, h2, _⟩ := stop_no h
  unfold amt; split <;> grind
theorem amt_inR {qs : List Rat} (hq : ∀ q ∈ qs, inR q = true) (h : stopB qs = false) : inR (amt qs) = true := by
  obtain ⟨h1, h2, h3, h4, h5, h6⟩ := stop_no h
  rw [amt, at0_lt h5, at0_lt h6]
  split
  · exact inR_neg (hq _ (List.getElem_mem h5))
  · exact hq _ (List.getElem_mem h6)
theorem nxt_inR {qs : List Rat} (hq : ∀ q ∈ qs, inR q = true) (h1 : inR (lft qs) = true) (h2 : inR (rgt qs) = true) : ∀ q ∈ nxt qs, inR q = true := by
  intro q hm
  unfold nxt at hm
  rcases List.mem_or_eq_of_mem_set hm with hm | rfl
  · rcases List.mem_or_eq_of_mem_set hm with hm | rfl
    · exact hq q hm
    · exact h1
  · exact h2
end Go.Proofs.Yteoicnhnpailiaa
