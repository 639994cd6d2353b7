/- Plain: months later; business days and their counts. No program in sight. -/
import Derived.Test.YtcfjehohemdanaaDoorDt1
namespace Go.Proofs.YtcfjehohemdanaaDoor

/- months -/
def tot (y m k : Int) : Int := y * 12 + m - 1 + k
def mY (y m k : Int) : Int := tot y m k / 12
def mM (y m k : Int) : Int := tot y m k % 12 + 1
def mD (y m d k : Int) : Int := if d ≤ len (mY y m k) (mM y m k) then d else len (mY y m k) (mM y m k)
theorem mM_bd (y m k : Int) : 1 ≤ mM y m k ∧ mM y m k ≤ 12 := by unfold mM; omega
theorem mY_M (y m k : Int) : mY y m k * 12 + mM y m k - 1 = tot y m k := by unfold mY mM; omega
theorem mD_ok {y m d k : Int} (h : okC y m d = true) (h1 : 1990 * 12 ≤ tot y m k) (h2 : mY y m k ≤ 2189) : okC (mY y m k) (mM y m k) (mD y m d k) = true := by
  obtain ⟨a1, a2, a3, a4, a5, a6⟩ := okC_of h
  have b := mM_bd y m k
  have l := len_bd (mY y m k) (mM y m k) b.1 b.2
  refine okC_mk ⟨by unfold mY; omega, h2, b.1, b.2, ?_, ?_⟩
  · unfold mD; split <;> omega
  · unfold mD; split <;> omega
/-- numbers are ordered as dates are -/
theorem num_lt {y m d y' m' d' : Int} (h : okC y m d = true) (h' : okC y' m' d' = true) (e : y < y' ∨ (y = y' ∧ (m < m' ∨ (m = m' ∧ d < d')))) : num y m d < num y' m' d' := by
  obtain ⟨h1, h2, h3, h4, h5, h6⟩ := okC_of h
  obtain ⟨k1, k2, k3, k4, k5, k6⟩ := okC_of h'
  rcases e with e | ⟨rfl, e⟩
  · have a := num_year h
    have a' := num_year h'
    have := ny_mono (y + 1) y' (by omega)
    omega
  · rcases e with e | ⟨rfl, e⟩
    · unfold len at h6
      have : dbm y (m + 1) ≤ dbm y m' := by
        by_cases e1 : m + 1 = m'
        · rw [e1]; exact Int.le_refl _
        · have := dbm_mono y (m + 1) m' (by omega) (by omega) (by omega); omega
      unfold num; omega
    · unfold num; omega
theorem lex_of {y m d y' m' d' : Int} (h : okC y m d = true) (h' : okC y' m' d' = true) (e : num y m d ≤ num y' m' d') : y < y' ∨ (y = y' ∧ (m < m' ∨ (m = m' ∧ d ≤ d'))) := by
  rcases Int.lt_trichotomy y y' with hl | hl | hl
  · exact .inl hl
  · subst hl
    right
    refine ⟨rfl, ?_⟩
    rcases Int.lt_trichotomy m m' with hm | hm | hm
    · exact .inl hm
    · subst hm
      exact .inr ⟨rfl, by unfold num at e; omega⟩
    · have := num_lt h' h (.inr ⟨rfl, .inl hm⟩); omega
  · have := num_lt h' h (.inl hl); omega
theorem months_mono {y m d y' m' d' k : Int} (h : okC y m d = true) (h' : okC y' m' d' = true) (e : num y m d ≤ num y' m' d') (o : okC (mY y m k) (mM y m k) (mD y m d k) = true) (o' : okC (mY y' m' k) (mM y' m' k) (mD y' m' d' k) = true) :
    num (mY y m k) (mM y m k) (mD y m d k) ≤ num (mY y' m' k) (mM y' m' k) (mD y' m' d' k) := by
  obtain ⟨h1, h2, h3, h4, h5, h6⟩ := okC_of h
  obtain ⟨k1, k2, k3, k4, k5, k6⟩ := okC_of h'
  have c1 := mM_bd y m k
  have c2 := mM_bd y' m' k
  have e1 := mY_M y m k
  have e2 := mY_M y' m' k
  have t : tot y m k < tot y' m' k ∨ (y = y' ∧ m = m' ∧ d ≤ d') := by
    rcases lex_of h h' e with a | ⟨rfl, a | ⟨rfl, a⟩⟩
    · left; unfold tot; omega
    · left; unfold tot; omega
    · right; exact ⟨rfl, rfl, a⟩
  rcases t with t | ⟨rfl, rfl, hd⟩
  · have := num_lt o o' (by omega)
    omega
  · by_cases e3 : mD y m d k = mD y m d' k
    · rw [e3]; exact Int.le_refl _
    · have : mD y m d k < mD y m d' k := by
        unfold mD at e3 ⊢
        split at e3 <;> split at e3 <;> (first | (rename_i q1 q2; simp only [q1, q2, if_true, if_false] at e3 ⊢; omega) | omega)
      have := num_lt o o' (.inr ⟨rfl, .inr ⟨rfl, this⟩⟩)
      omega
theorem tot_back (y m k : Int) : tot (mY y m k) (mM y m k) (-k) = y * 12 + m - 1 := by
  have := mY_M y m k
  unfold tot at *
  omega
theorem months_back {y m d k : Int} (h : okC y m d = true) (hd : d ≤ 28) : mY (mY y m k) (mM y m k) (-k) = y ∧ mM (mY y m k) (mM y m k) (-k) = m ∧ mD (mY y m k) (mM y m k) (mD y m d k) (-k) = d := by
  obtain ⟨h1, h2, h3, h4, h5, h6⟩ := okC_of h
  have t := tot_back y m k
  have b := mM_bd y m k
  have l := len_bd (mY y m k) (mM y m k) b.1 b.2
  have e1 : mY (mY y m k) (mM y m k) (-k) = y := by unfold mY at *; omega
  have e2 : mM (mY y m k) (mM y m k) (-k) = m := by unfold mM at *; omega
  refine ⟨e1, e2, ?_⟩
  have e3 : mD y m d k = d := by unfold mD; rw [if_pos (by omega)]
  rw [e3, mD, e1, e2, if_pos h6]

/- business days -/
/-- a calendar as it comes: seven marks of the weekend, the holidays -/
structure Cld where
  wk : List Bool
  hs : List Int
/-- a weekday off -/
def offW (c : Cld) (d : Int) : Bool := (c.wk[(d % 7).toNat]?).getD true
def bizC (c : Cld) (d : Int) : Bool := !offW c d && !c.hs.contains d
def b2i (b : Bool) : Int := if b then 1 else 0
theorem b2i_01 (b : Bool) : 0 ≤ b2i b ∧ b2i b ≤ 1 := by cases b <;> simp [b2i]
/-- how many of n days from 'from' on pass a test -/
def cnt (f : Int → Bool) (a : Int) : Nat → Int
  | 0 => 0
  | n + 1 => cnt f a n + b2i (f (a + n))
theorem cnt_bd (f : Int → Bool) (a : Int) (n : Nat) : 0 ≤ cnt f a n ∧ cnt f a n ≤ n := by
  induction n with
  | zero => simp [cnt]
  | succ n ih => have := b2i_01 (f (a + n)); simp only [cnt]; omega
theorem cnt_mono (f : Int → Bool) (a : Int) {n m : Nat} (h : n ≤ m) : cnt f a n ≤ cnt f a m := by
  obtain ⟨k, rfl⟩ := Nat.exists_eq_add_of_le h
  clear h
  induction k with
  | zero => exact Int.le_refl _
  | succ k ih => have := b2i_01 (f (a + (n + k : Nat))); rw [Nat.add_succ, cnt]; omega
theorem cnt_add (f : Int → Bool) (a : Int) (n m : Nat) : cnt f a (n + m) = cnt f a n + cnt f (a + n) m := by
  induction m with
  | zero => simp [cnt]
  | succ m ih => rw [← Nat.add_assoc, cnt, ih, cnt, show a + ((n + m : Nat) : Int) = a + n + m by omega]; omega
theorem cnt_zero {f : Int → Bool} {a : Int} {n : Nat} (h : ∀ i : Nat, i < n → f (a + i) = false) : cnt f a n = 0 := by
  induction n with
  | zero => rfl
  | succ n ih => rw [cnt, ih fun i hi => h i (by omega), h n (by omega)]; rfl
theorem cnt_pos {f : Int → Bool} {a : Int} {n i : Nat} (hi : i < n) (h : f (a + i) = true) : 0 < cnt f a n := by
  have h1 := cnt_mono f a (show i + 1 ≤ n by omega)
  have h2 := cnt_bd f a i
  rw [cnt, h] at h1
  simp [b2i] at h1
  omega
end Go.Proofs.YtcfjehohemdanaaDoor
