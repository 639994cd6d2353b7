/- Plain: what search, Next, Add and Count give, for the laws. No program in sight. -/
import Derived.Test.YtikjjhodbijfnaaDoorD09
namespace Go.Proofs.YtikjjhodbijfnaaDoor

theorem cntS (f : Int → Bool) (a : Int) (n : Nat) : cnt f a (n + 1) = cnt f a n + b2i (f (a + n)) := rfl
theorem cnt_each {f : Int → Bool} {a : Int} {n i : Nat} (h : cnt f a n = 0) (hi : i < n) : f (a + i) = false := by
  cases hf : f (a + i) with
  | false => rfl
  | true => have := cnt_pos hi hf; omega
theorem srch_cases (c : Cld) (a m : Int) (h0 : 0 ≤ a) (h1 : a ≤ 73049) (hm : 1 ≤ m) :
    (∃ i : Nat, srchF c a m = (a + i, 0) ∧ a + i ≤ 73048 ∧ cnt (bizC c) a i = m - 1 ∧ bizC c (a + i) = true) ∨ (srchF c a m = (0, 2) ∧ cnt (bizC c) a (73049 - a).toNat < m) := by
  obtain ⟨i, hi⟩ : ∃ i, i = nthF (bizC c) a m (73049 - a).toNat := ⟨_, rfl⟩
  have hn := nthF_is (bizC c) a m (73049 - a).toNat
  rw [← hi] at hn
  have hl := hn.1
  by_cases he : i = (73049 - a).toNat
  · right
    refine ⟨by simp [srchF, ← hi, he], ?_⟩
    cases hd : (73049 - a).toNat with
    | zero => simp [cnt]; omega
    | succ k => exact hn.2.1 k (by omega)
  · left
    obtain ⟨g1, g2⟩ := hn.is hm (by omega)
    exact ⟨i, by simp [srchF, ← hi, he], by omega, g1, g2⟩
theorem srch_is (c : Cld) (a m : Int) (i : Nat) (h1 : a + i ≤ 73048) (hc : cnt (bizC c) a i = m - 1) (hf : bizC c (a + i) = true) : srchF c a m = (a + i, 0) := by
  have h : nthF (bizC c) a m (73049 - a).toNat = i := (nthF_is _ _ _ _).uniq ⟨by omega, fun j hj => by
    have := cnt_mono (bizC c) a (show j + 1 ≤ i by omega)
    omega, fun _ => by rw [cntS, hc, hf]; simp [b2i]⟩
  simp only [srchF, h]
  rw [if_neg (by omega)]
theorem srch_2 (c : Cld) (a m : Int) (hc : cnt (bizC c) a (73049 - a).toNat < m) : srchF c a m = (0, 2) := by
  have h : nthF (bizC c) a m (73049 - a).toNat = (73049 - a).toNat := (nthF_is _ _ _ _).uniq ⟨Nat.le_refl _, fun j hj => by
    have := cnt_mono (bizC c) a (show j + 1 ≤ (73049 - a).toNat by omega)
    omega, fun h => by omega⟩
  simp only [srchF, h, if_true]
theorem isD_of {x : Int} (h : isD x = true) : 0 ≤ x ∧ x ≤ 73048 := of_decide_eq_true h
theorem isD_mk {x : Int} (h0 : 0 ≤ x) (h1 : x ≤ 73048) : isD x = true := decide_eq_true ⟨h0, h1⟩
theorem biz_of {c : Cld} {x : Int} (hv : vldC c = true) (hx : isD x = true) : bizF c x = bizC c x := by simp [bizF, hv, hx]
/-- Next: an argument is bad, or the first business day from x on, or there is none -/
theorem next_cases (c : Cld) (x : Int) :
    (nextF c x = (0, 1) ∧ (vldC c = false ∨ isD x = false)) ∨
    (∃ i : Nat, nextF c x = (x + i, 0) ∧ vldC c = true ∧ isD x = true ∧ isD (x + i) = true ∧ (∀ j : Nat, j < i → bizF c (x + j) = false) ∧ cnt (bizC c) x i = 0 ∧ bizF c (x + i) = true) ∨
    (nextF c x = (0, 2) ∧ vldC c = true ∧ isD x = true ∧ (∀ d : Int, x ≤ d → d ≤ 73048 → bizF c d = false)) := by
  cases hv : vldC c with
  | false => exact .inl ⟨by simp [nextF, addF, hv], .inl rfl⟩
  | true =>
    cases hx : isD x with
    | false => exact .inl ⟨by simp [nextF, addF, hx], .inr rfl⟩
    | true =>
      have he : nextF c x = srchF c x 1 := by simp [nextF, addF, hv, hx]
      obtain ⟨x0, x1⟩ := isD_of hx
      rcases srch_cases c x 1 x0 (by omega) (by omega) with ⟨i, h1, h2, h3, h4⟩ | ⟨h1, h2⟩
      · have hxi := isD_mk (x := x + i) (by omega) h2
        refine .inr (.inl ⟨i, he.trans h1, rfl, rfl, hxi, fun j hj => ?_, by omega, by rw [biz_of hv hxi]; exact h4⟩)
        rw [biz_of hv (isD_mk (by omega) (by omega))]
        exact cnt_each (show cnt (bizC c) x i = 0 by omega) hj
      · refine .inr (.inr ⟨he.trans h1, rfl, rfl, fun d d0 d1 => ?_⟩)
        rw [biz_of hv (isD_mk (by omega) d1)]
        have hb := cnt_bd (bizC c) x (73049 - x).toNat
        have := cnt_each (show cnt (bizC c) x (73049 - x).toNat = 0 by omega) (show (d - x).toNat < (73049 - x).toNat by omega)
        rwa [show x + ((d - x).toNat : Int) = d by omega] at this
theorem next_is (c : Cld) (x : Int) (hv : vldC c = true) (hx : isD x = true) (hb : bizF c x = true) : nextF c x = (x, 0) := by
  obtain ⟨x0, x1⟩ := isD_of hx
  have := srch_is c x 1 0 (by omega) rfl (by rw [biz_of hv hx] at hb; simpa using hb)
  simpa [nextF, addF, hv, hx] using this
theorem next_bad (c : Cld) (x : Int) (h : vldC c = false ∨ isD x = false) : nextF c x = (0, 1) := by
  rcases h with h | h <;> simp [nextF, addF, h]
/-- Next of a later day is not before Next of a day -/
theorem next_mono (c : Cld) {x y v : Int} (h : nextF c x = (v, 0)) (hxy : x ≤ y) : (nextF c y).2 ≠ 0 ∨ v ≤ (nextF c y).1 := by
  rcases next_cases c x with ⟨e, _⟩ | ⟨i, e, hv, hx, hxi, hz, _, _⟩ | ⟨e, _⟩
  · rw [e] at h; simp at h
  · rw [e] at h
    simp at h
    rcases next_cases c y with ⟨e', _⟩ | ⟨j, e', _, hy, hyj, _, _, hb⟩ | ⟨e', _⟩
    · left; rw [e']; decide
    · right
      rw [e']
      show v ≤ y + j
      rcases Int.lt_or_le (y + j) v with hl | hl
      · have := hz (y + j - x).toNat (by omega)
        rw [show x + ((y + j - x).toNat : Int) = y + j by omega, hb] at this
        cases this
      · exact hl
    · left; rw [e']; decide
  · rw [e] at h; simp at h
/-- Add: an argument is bad, or the day, or there is none -/
theorem add_cases (c : Cld) (x m : Int) (hm : 1 ≤ m) :
    (addF c x m = (0, 1) ∧ (vldC c = false ∨ isD x = false)) ∨
    (∃ i : Nat, addF c x m = (x + 1 + i, 0) ∧ vldC c = true ∧ isD x = true ∧ isD (x + 1 + i) = true ∧ cnt (bizC c) (x + 1) i = m - 1 ∧ bizC c (x + 1 + i) = true) ∨
    (addF c x m = (0, 2) ∧ vldC c = true ∧ isD x = true ∧ cnt (bizC c) (x + 1) (73048 - x).toNat < m) := by
  have hd : decide (0 ≤ m) = true := by simp; omega
  cases hv : vldC c with
  | false => exact .inl ⟨by simp [addF, hv], .inl rfl⟩
  | true =>
    cases hx : isD x with
    | false => exact .inl ⟨by simp [addF, hx], .inr rfl⟩
    | true =>
      obtain ⟨x0, x1⟩ := isD_of hx
      have he : addF c x m = srchF c (x + 1) m := by
        unfold addF
        rw [hv, hx, hd, if_pos (by rfl), if_neg (by omega)]
      rcases srch_cases c (x + 1) m (by omega) (by omega) hm with ⟨i, h1, h2, h3, h4⟩ | ⟨h1, h2⟩
      · exact .inr (.inl ⟨i, he.trans h1, rfl, rfl, isD_mk (by omega) h2, h3, h4⟩)
      · refine .inr (.inr ⟨he.trans h1, rfl, rfl, ?_⟩)
        rwa [show (73048 - x).toNat = (73049 - (x + 1)).toNat by omega]
/-- adding a number of business days and then another one is adding both -/
theorem add_both (c : Cld) {x a m n : Int} (hm : 1 ≤ m) (hn : 1 ≤ n) (h : addF c x m = (a, 0)) : addF c a n = addF c x (m + n) := by
  rcases add_cases c x m hm with ⟨e, _⟩ | ⟨i, e, hv, hx, hxi, hc, hb⟩ | ⟨e, _⟩
  · rw [e] at h; simp at h
  · rw [e] at h
    simp only [Prod.mk.injEq, and_true] at h
    subst h
    obtain ⟨x0, x1⟩ := isD_of hx
    obtain ⟨y0, y1⟩ := isD_of hxi
    have e1 : addF c (x + 1 + i) n = srchF c (x + 1 + i + 1) n := by
      unfold addF
      rw [hv, hxi, show decide (0 ≤ n) = true by simp; omega, if_pos (by rfl), if_neg (by omega)]
    have e2 : addF c x (m + n) = srchF c (x + 1) (m + n) := by
      unfold addF
      rw [hv, hx, show decide (0 ≤ m + n) = true by simp; omega, if_pos (by rfl), if_neg (by omega)]
    rw [e1, e2]
    have hk : ∀ j : Nat, cnt (bizC c) (x + 1) (i + 1 + j) = m + cnt (bizC c) (x + 1 + i + 1) j := by
      intro j
      rw [cnt_add, cntS, hc, hb, show x + 1 + ((i + 1 : Nat) : Int) = x + 1 + i + 1 by omega]
      simp [b2i]
    rcases srch_cases c (x + 1 + i + 1) n (by omega) (by omega) hn with ⟨j, h1, h2, h3, h4⟩ | ⟨h1, h2⟩
    · rw [h1]
      have := srch_is c (x + 1) (m + n) (i + 1 + j) (by omega) (by rw [hk]; omega) (by rw [show x + 1 + ((i + 1 + j : Nat) : Int) = x + 1 + i + 1 + j by omega]; exact h4)
      rw [this, show x + 1 + ((i + 1 + j : Nat) : Int) = x + 1 + i + 1 + j by omega]
    · rw [h1]
      refine (srch_2 c (x + 1) (m + n) ?_).symm
      rw [show (73049 - (x + 1)).toNat = i + 1 + (73049 - (x + 1 + i + 1)).toNat by omega, hk]
      omega
  · rw [e] at h; simp at h
theorem count_is (c : Cld) {x y : Int} (hv : vldC c = true) (hx : isD x = true) (hy : isD y = true) (h : x ≤ y) : countF c x y = (cnt (bizC c) x (y - x).toNat, 0) := by
  simp [countF, hv, hx, hy, h]
theorem count_bad (c : Cld) {x y : Int} (h : vldC c = false ∨ isD x = false ∨ isD y = false ∨ y < x) : countF c x y = (0, 1) := by
  rcases h with h | h | h | h
  · simp [countF, h]
  · simp [countF, h]
  · simp [countF, h]
  · simp [countF, show ¬ x ≤ y by omega]
theorem count_cases (c : Cld) (x y : Int) : (countF c x y = (0, 1) ∧ (vldC c = false ∨ isD x = false ∨ isD y = false ∨ y < x)) ∨ (countF c x y = (cnt (bizC c) x (y - x).toNat, 0) ∧ vldC c = true ∧ isD x = true ∧ isD y = true ∧ x ≤ y) := by
  cases hv : vldC c with
  | false => exact .inl ⟨count_bad c (.inl hv), .inl rfl⟩
  | true =>
    cases hx : isD x with
    | false => exact .inl ⟨count_bad c (.inr (.inl hx)), .inr (.inl rfl)⟩
    | true =>
      cases hy : isD y with
      | false => exact .inl ⟨count_bad c (.inr (.inr (.inl hy))), .inr (.inr (.inl rfl))⟩
      | true =>
        by_cases h : x ≤ y
        · exact .inr ⟨count_is c hv hx hy h, rfl, rfl, rfl, h⟩
        · exact .inl ⟨count_bad c (.inr (.inr (.inr (by omega)))), .inr (.inr (.inr (by omega)))⟩
/-- business days after x, up to the m-th one -/
theorem add_count (c : Cld) {x a m : Int} (hm : 1 ≤ m) (h : addF c x m = (a, 0)) : x < 73048 ∧ x < a ∧ countF c (x + 1) a = (m - 1, 0) ∧ bizF c a = true := by
  rcases add_cases c x m hm with ⟨e, _⟩ | ⟨i, e, hv, hx, hxi, hc, hb⟩ | ⟨e, _⟩
  · rw [e] at h; simp at h
  · rw [e] at h
    simp only [Prod.mk.injEq, and_true] at h
    subst h
    obtain ⟨x0, x1⟩ := isD_of hx
    obtain ⟨y0, y1⟩ := isD_of hxi
    refine ⟨by omega, by omega, ?_, by rw [biz_of hv hxi]; exact hb⟩
    rw [count_is c hv (isD_mk (by omega) (by omega)) hxi (by omega), show (x + 1 + i - (x + 1)).toNat = i by omega, hc]
  · rw [e] at h; simp at h
end Go.Proofs.YtikjjhodbijfnaaDoor
