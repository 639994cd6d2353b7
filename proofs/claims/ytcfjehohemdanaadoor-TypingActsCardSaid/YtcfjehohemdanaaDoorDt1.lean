/- Plain: the calendar: leap years, the days before a month and before a year, dates and their numbers. No program in sight. -/
namespace Go.Proofs.YtcfjehohemdanaaDoor

/-- leap years -/
def lp (y : Int) : Bool := decide (y % 4 = 0) && (decide (y % 100 ≠ 0) || decide (y % 400 = 0))
def lpI (y : Int) : Int := if lp y then 1 else 0
theorem lpI_01 (y : Int) : 0 ≤ lpI y ∧ lpI y ≤ 1 := by unfold lpI; split <;> omega
/-- the days of a common year before a month -/
def bef (m : Int) : Int :=
  if m ≤ 1 then 0 else if m = 2 then 31 else if m = 3 then 59 else if m = 4 then 90 else if m = 5 then 120 else if m = 6 then 151 else if m = 7 then 181 else if m = 8 then 212
  else if m = 9 then 243 else if m = 10 then 273 else if m = 11 then 304 else if m = 12 then 334 else 365
/-- the days of a year before a month; month 13 is the next year's first one -/
def dbm (y m : Int) : Int := if 2 < m ∧ lp y = true then bef m + 1 else bef m
theorem dbm_eq (y m : Int) : dbm y m = bef m + (if 2 < m then lpI y else 0) := by
  unfold dbm lpI
  by_cases h : 2 < m <;> cases h2 : lp y <;> simp [h]
theorem month_cases {m : Int} (h1 : 1 ≤ m) (h2 : m ≤ 13) : m = 1 ∨ m = 2 ∨ m = 3 ∨ m = 4 ∨ m = 5 ∨ m = 6 ∨ m = 7 ∨ m = 8 ∨ m = 9 ∨ m = 10 ∨ m = 11 ∨ m = 12 ∨ m = 13 := by omega
theorem dbm_bd (y m : Int) (h1 : 1 ≤ m) (h2 : m ≤ 13) : 0 ≤ dbm y m ∧ dbm y m ≤ 366 := by
  have hl := lpI_01 y
  rw [dbm_eq]
  rcases month_cases h1 h2 with h | h | h | h | h | h | h | h | h | h | h | h | h <;> subst h <;> simp [bef] <;> omega
/-- the number of days of a month -/
def len (y m : Int) : Int := dbm y (m + 1) - dbm y m
theorem len_bd (y m : Int) (h1 : 1 ≤ m) (h2 : m ≤ 12) : 28 ≤ len y m ∧ len y m ≤ 31 := by
  have hl := lpI_01 y
  unfold len
  rw [dbm_eq, dbm_eq]
  rcases month_cases h1 (by omega) with h | h | h | h | h | h | h | h | h | h | h | h | h <;> subst h <;> simp [bef] <;> omega
theorem len_12 (y : Int) : len y 12 = 31 := by unfold len; rw [dbm_eq, dbm_eq]; simp [bef]; omega
theorem dbm_1 (y : Int) : dbm y 1 = 0 := by rw [dbm_eq]; simp [bef]
theorem dbm_13 (y : Int) : dbm y 13 = 365 + lpI y := by rw [dbm_eq]; simp [bef]
theorem dbm_mono (y a b : Int) (h1 : 1 ≤ a) (h2 : a < b) (h3 : b ≤ 13) : dbm y a + 28 ≤ dbm y b := by
  have hl := lpI_01 y
  rw [dbm_eq, dbm_eq]
  rcases month_cases h1 (show a ≤ 13 by omega) with h | h | h | h | h | h | h | h | h | h | h | h | h <;> subst h <;>
    rcases month_cases (m := b) (by omega) h3 with h | h | h | h | h | h | h | h | h | h | h | h | h <;> subst h <;> simp [bef] <;> omega
/-- leap days up to a year -/
def lv (y : Int) : Int := y / 4 - y / 100 + y / 400
/-- the number of the first day of a year -/
def ny (y : Int) : Int := (y - 1990) * 365 + lv (y - 1) - lv 1989
theorem ny_succ (y : Int) : ny (y + 1) = ny y + 365 + lpI y := by
  unfold ny lv lpI lp
  by_cases h1 : y % 4 = 0 <;> by_cases h2 : y % 100 = 0 <;> by_cases h3 : y % 400 = 0 <;> simp [h1, h2, h3] <;> omega
theorem ny_1990 : ny 1990 = 0 := by decide
theorem ny_2190 : ny 2190 = 73049 := by decide
theorem ny_mono (a b : Int) (h : a ≤ b) : ny a + 365 * (b - a) ≤ ny b := by
  obtain ⟨k, rfl⟩ : ∃ k : Nat, b = a + k := ⟨(b - a).toNat, by omega⟩
  clear h
  induction k with
  | zero => simp
  | succ k ih =>
    have h1 := ny_succ (a + k)
    have h2 := lpI_01 (a + k)
    rw [show a + ((k + 1 : Nat) : Int) = a + k + 1 by omega, h1]
    omega
theorem ny_upper (a b : Int) (h : a ≤ b) : ny b ≤ ny a + 366 * (b - a) := by
  obtain ⟨k, rfl⟩ : ∃ k : Nat, b = a + k := ⟨(b - a).toNat, by omega⟩
  clear h
  induction k with
  | zero => simp
  | succ k ih =>
    have h1 := ny_succ (a + k)
    have h2 := lpI_01 (a + k)
    rw [show a + ((k + 1 : Nat) : Int) = a + k + 1 by omega, h1]
    omega
/-- a date that exists; its number -/
def okC (y m d : Int) : Bool := decide (1990 ≤ y ∧ y ≤ 2189 ∧ 1 ≤ m ∧ m ≤ 12 ∧ 1 ≤ d ∧ d ≤ len y m)
theorem okC_mk {y m d : Int} (h : 1990 ≤ y ∧ y ≤ 2189 ∧ 1 ≤ m ∧ m ≤ 12 ∧ 1 ≤ d ∧ d ≤ len y m) : okC y m d = true := by simp only [okC, decide_eq_true_eq]; exact h
theorem okC_of {y m d : Int} (h : okC y m d = true) : 1990 ≤ y ∧ y ≤ 2189 ∧ 1 ≤ m ∧ m ≤ 12 ∧ 1 ≤ d ∧ d ≤ len y m := by simpa only [okC, decide_eq_true_eq] using h
def num (y m d : Int) : Int := ny y + dbm y m + d - 1
theorem num_year {y m d : Int} (h : okC y m d = true) : ny y ≤ num y m d ∧ num y m d < ny (y + 1) := by
  obtain ⟨h1, h2, h3, h4, h5, h6⟩ := okC_of h
  have a1 := dbm_bd y m h3 (by omega)
  have a2 := ny_succ y
  have a3 := dbm_13 y
  unfold len at h6
  have a4 : dbm y (m + 1) ≤ dbm y 13 := by
    by_cases e : m = 12
    · subst e; exact Int.le_refl _
    · have := dbm_mono y (m + 1) 13 (by omega) (by omega) (by omega); omega
  unfold num; omega
theorem num_bd {y m d : Int} (h : okC y m d = true) : 0 ≤ num y m d ∧ num y m d ≤ 73048 := by
  obtain ⟨h1, h2, _⟩ := okC_of h
  have a1 := num_year h
  have a2 := ny_mono 1990 y h1
  have a3 := ny_mono (y + 1) 2190 (by omega)
  rw [ny_1990] at a2
  rw [ny_2190] at a3
  omega
theorem num_inj {y m d y' m' d' : Int} (h : okC y m d = true) (h' : okC y' m' d' = true) (e : num y m d = num y' m' d') : y = y' ∧ m = m' ∧ d = d' := by
  obtain ⟨h1, h2, h3, h4, h5, h6⟩ := okC_of h
  obtain ⟨k1, k2, k3, k4, k5, k6⟩ := okC_of h'
  have a := num_year h
  have a' := num_year h'
  have hy : y = y' := by
    rcases Int.lt_trichotomy y y' with hl | hl | hl
    · have := ny_mono (y + 1) y' (by omega); omega
    · exact hl
    · have := ny_mono (y' + 1) y (by omega); omega
  subst hy
  unfold num at e
  unfold len at h6 k6
  have hm : m = m' := by
    rcases Int.lt_trichotomy m m' with hl | hl | hl
    · have : dbm y (m + 1) ≤ dbm y m' := by
        by_cases e1 : m + 1 = m'
        · rw [e1]; exact Int.le_refl _
        · have := dbm_mono y (m + 1) m' (by omega) (by omega) (by omega); omega
      omega
    · exact hl
    · have : dbm y (m' + 1) ≤ dbm y m := by
        by_cases e1 : m' + 1 = m
        · rw [e1]; exact Int.le_refl _
        · have := dbm_mono y (m' + 1) m (by omega) (by omega) (by omega); omega
      omega
  subst hm
  exact ⟨rfl, rfl, by omega⟩
/-- the next day's date -/
theorem num_next {y m d : Int} (h : okC y m d = true) (hn : num y m d < 73048) :
    (d < len y m ∧ okC y m (d + 1) = true ∧ num y m (d + 1) = num y m d + 1) ∨ (d = len y m ∧ m < 12 ∧ okC y (m + 1) 1 = true ∧ num y (m + 1) 1 = num y m d + 1) ∨
      (d = 31 ∧ m = 12 ∧ okC (y + 1) 1 1 = true ∧ num (y + 1) 1 1 = num y m d + 1) := by
  obtain ⟨h1, h2, h3, h4, h5, h6⟩ := okC_of h
  by_cases e1 : d < len y m
  · left
    exact ⟨e1, okC_mk ⟨h1, h2, h3, h4, by omega, by omega⟩, by unfold num; omega⟩
  · by_cases e2 : m < 12
    · right; left
      have := len_bd y (m + 1) (by omega) (by omega)
      exact ⟨by omega, e2, okC_mk ⟨h1, h2, by omega, by omega, by omega, by omega⟩, by unfold num; unfold len at h6 e1; omega⟩
    · right; right
      obtain rfl : m = 12 := by omega
      have l1 := len_12 y
      have l2 := len_bd (y + 1) 1 (by omega) (by omega)
      have a1 := ny_succ y
      have a2 := dbm_13 y
      have a3 := dbm_1 (y + 1)
      unfold len at l1
      have l3 : d = len y 12 := by omega
      unfold len at l3
      rw [show (12 : Int) + 1 = 13 from rfl] at l1 l3
      have hy : y ≤ 2188 := by
        rcases Int.lt_or_le 2188 y with hlt | hge
        · obtain rfl : y = 2189 := by omega
          have a4 := ny_2190
          rw [show (2190 : Int) = 2189 + 1 from rfl] at a4
          unfold num at hn
          omega
        · exact hge
      exact ⟨by omega, rfl, okC_mk ⟨by omega, by omega, by omega, by omega, by omega, by omega⟩, by unfold num; omega⟩
/-- each day number is some date's -/
theorem num_onto {n : Int} (h1 : 0 ≤ n) (h2 : n ≤ 73048) : ∃ y m d, okC y m d = true ∧ num y m d = n := by
  obtain ⟨k, rfl⟩ : ∃ k : Nat, n = k := ⟨n.toNat, by omega⟩
  induction k with
  | zero => exact ⟨1990, 1, 1, by decide, by decide⟩
  | succ k ih =>
    obtain ⟨y, m, d, hv, hn⟩ := ih (by omega) (by omega)
    rcases num_next hv (by omega) with ⟨_, a, b⟩ | ⟨_, _, a, b⟩ | ⟨_, _, a, b⟩
    · exact ⟨_, _, _, a, by omega⟩
    · exact ⟨_, _, _, a, by omega⟩
    · exact ⟨_, _, _, a, by omega⟩
end Go.Proofs.YtcfjehohemdanaaDoor
