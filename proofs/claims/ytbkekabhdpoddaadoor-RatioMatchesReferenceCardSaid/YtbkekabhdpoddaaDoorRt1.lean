/- Plain: the text of a ratio is parsed as the ratio, and what is parsed is its text. -/
import Derived.Test.YtbkekabhdpoddaaDoorRb8
namespace Go.Proofs.YtbkekabhdpoddaaDoor

theorem pu_app : ∀ (l r : List UInt8) (acc m : Nat), Lib.parseUint10 acc l = .ok m → Lib.parseUint10 acc (l ++ r) = Lib.parseUint10 m r
  | [], r, acc, m, h => by
    simp only [Lib.parseUint10] at h
    injection h with h
    subst h; rfl
  | c :: l, r, acc, m, h => by
    simp only [List.cons_append, Lib.parseUint10] at h ⊢
    split at h
    · rename_i h1
      rw [if_pos h1]
      split at h
      · cases h
      · rename_i h2
        rw [if_neg h2]
        split at h
        · cases h
        · rename_i h3
          rw [if_neg h3]
          exact pu_app l r _ m h
    · cases h
theorem dig_byte {k : Nat} (h : k < 10) : (UInt8.ofNat (48 + k)).toNat = 48 + k := by
  show (48 + k) % 2 ^ 8 = 48 + k
  omega
theorem pu_one (acc k : Nat) (h : k < 10) (hb : acc * 10 + k < 18446744073709551616) : Lib.parseUint10 acc [UInt8.ofNat (48 + k)] = .ok (acc * 10 + k) := by
  simp only [Lib.parseUint10, dig_byte h]
  rw [if_pos (by omega), if_neg (by omega), if_neg (by omega)]
  congr 1; omega
theorem pu_dec (u : Nat) (h : u < 18446744073709551616) : Lib.parseUint10 0 (Lib.decDigits u) = .ok u := by
  induction u using Nat.strongRecOn with
  | _ u ih =>
    rw [Lib.decDigits]
    split
    · rename_i h1
      have := pu_one 0 u h1 (by omega)
      rw [this]; congr 1; omega
    · rename_i h1
      rw [pu_app _ _ _ _ (ih (u / 10) (by omega) (by omega)), pu_one _ _ (by omega) (by omega)]
      congr 1; omega
theorem dec_dig (u : Nat) : ∀ c ∈ Lib.decDigits u, 48 ≤ c.toNat ∧ c.toNat ≤ 57 := by
  induction u using Nat.strongRecOn with
  | _ u ih =>
    intro c hc
    rw [Lib.decDigits] at hc
    split at hc
    · rename_i h1
      rw [List.mem_singleton] at hc
      subst hc
      rw [dig_byte h1]; omega
    · rename_i h1
      rw [List.mem_append, List.mem_singleton] at hc
      rcases hc with hc | hc
      · exact ih (u / 10) (by omega) c hc
      · subst hc
        rw [dig_byte (by omega)]; omega
theorem dec_ne (u : Nat) : Lib.decDigits u ≠ [] := by
  rw [Lib.decDigits]
  split
  · simp
  · simp
theorem pm_dec (u : Nat) (h : u < 18446744073709551616) : Lib.parseMag (Lib.decDigits u) = .ok u := by
  unfold Lib.parseMag
  rw [if_neg (dec_ne u), pu_dec u h]
theorem atoi_itoa (n : Int) (h0 : -9223372036854775808 ≤ n) (h1 : n ≤ 9223372036854775807) : Lib.atoiAll (Lib.itoa n) = .ok n := by
  unfold Lib.itoa
  split
  · rename_i hn
    have hp := pm_dec n.natAbs (by omega)
    simp only [Lib.atoiAll]
    rw [if_pos (by right; rfl), hp]
    simp only
    rw [if_neg (by intro h; exact h.1 rfl), if_neg (by omega), if_pos (show UInt8.toNat 45 = 45 from rfl)]
    congr 1; omega
  · rename_i hn
    have hp := pm_dec n.toNat (by omega)
    have hd := dec_dig n.toNat
    cases hl : Lib.decDigits n.toNat with
    | nil => exact absurd hl (dec_ne _)
    | cons c r =>
      rw [hl] at hp hd
      have hc := hd c (List.mem_cons_self ..)
      simp only [Lib.atoiAll]
      rw [if_neg (by omega), hp]
      simp only
      rw [if_neg (by omega), if_neg (by omega), if_neg (by omega)]
      congr 1; omega
theorem index_no : ∀ (l : List UInt8) (b : UInt8), b ∉ l → Lib.index l [b] = -1
  | [], b, _ => by simp [Lib.index]
  | c :: l, b, h => by
    have h1 : c ≠ b := fun e => h (by simp [e])
    have h2 : b ∉ l := fun e => h (by simp [e])
    unfold Lib.index
    rw [index_no l b h2]
    have : List.isPrefixOf [b] (c :: l) = false := by simp [List.isPrefixOf, Ne.symm h1]
    rw [this]
    simp
theorem index_at : ∀ (l r : List UInt8) (b : UInt8), b ∉ l → Lib.index (l ++ b :: r) [b] = l.length
  | [], r, b, _ => by
    unfold Lib.index
    simp [List.isPrefixOf]
  | c :: l, r, b, h => by
    have h1 : c ≠ b := fun e => h (by simp [e])
    have h2 : b ∉ l := fun e => h (by simp [e])
    show Lib.index (c :: (l ++ b :: r)) [b] = _
    unfold Lib.index
    rw [index_at l r b h2]
    have : List.isPrefixOf [b] (c :: (l ++ b :: r)) = false := by simp [List.isPrefixOf, Ne.symm h1]
    rw [this]
    have e : (((l.length : Nat) : Int) == -1) = false := by rw [beq_eq_false_iff_ne]; omega
    simp [e]
theorem cut_no (l : List UInt8) (h : (47 : UInt8) ∉ l) : Lib.cut l [47] = (l, [], false) := by
  unfold Lib.cut
  rw [index_no l 47 h, if_neg (by omega)]
theorem cut_at (l r : List UInt8) (h : (47 : UInt8) ∉ l) : Lib.cut (l ++ 47 :: r) [47] = (l, r, true) := by
  unfold Lib.cut
  rw [index_at l r 47 h, if_pos (by omega)]
  simp
theorem itoa_no47 (n : Int) : (47 : UInt8) ∉ Lib.itoa n := by
  intro h
  unfold Lib.itoa at h
  split at h
  · rw [List.mem_cons] at h
    rcases h with h | h
    · cases h
    · have := dec_dig _ _ h
      simp at this
  · have := dec_dig _ _ h
    simp at this
theorem itoa_ne (n : Int) : Lib.itoa n ≠ [] := by
  unfold Lib.itoa
  split
  · simp
  · exact dec_ne _
theorem txtO_yes {n d : Int} (h : vld n d = true) : txtO n d = Lib.itoa n ++ (if d = 1 then [] else 47 :: Lib.itoa d) := by unfold txtO; rw [if_pos h]
theorem txtO_no {n d : Int} (h : vld n d = false) : txtO n d = [] := by unfold txtO; rw [h]; rfl
theorem txtO_ne {n d : Int} (h : vld n d = true) : txtO n d ≠ [] := by
  rw [txtO_yes h]
  intro e
  exact itoa_ne n (List.append_eq_nil_iff.1 e).1
/-- a ratio's text is parsed as the ratio -/
theorem prs_txt {n d : Int} (h : vld n d = true) : prs (txtO n d) = some (n, d) := by
  obtain ⟨h1, h2, h3, h4, h5⟩ := vld_of h
  by_cases hd : d = 1
  · subst hd
    have e : txtO n 1 = Lib.itoa n := by rw [txtO_yes h]; simp
    unfold prs
    rw [e, cut_no _ (itoa_no47 n)]
    simp only
    rw [atoi_itoa n (by omega) (by omega)]
    simp only [Bool.false_eq_true, if_false]
    rw [e, if_pos rfl]
  · have e : txtO n d = Lib.itoa n ++ 47 :: Lib.itoa d := by rw [txtO_yes h, if_neg hd]
    unfold prs
    rw [e, cut_at _ _ (itoa_no47 n)]
    simp only
    rw [atoi_itoa n (by omega) (by omega), atoi_itoa d (by omega) (by omega)]
    simp only [if_true]
    rw [e, if_pos rfl]
theorem prs_nil : prs [] = none := by decide +kernel
/-- what is parsed has this text, and is valid -/
theorem prs_some {l : List UInt8} {n d : Int} (h : prs l = some (n, d)) : vld n d = true ∧ txtO n d = l := by
  have ht : txtO n d = l := by
    unfold prs at h
    split at h
    · split at h
      · split at h
        · split at h
          · rename_i h1
            injection h with h
            injection h with e1 e2
            subst e1 e2
            exact h1
          · cases h
        · cases h
      · split at h
        · rename_i h1
          injection h with h
          injection h with e1 e2
          subst e1 e2
          exact h1
        · cases h
    · cases h
  refine ⟨?_, ht⟩
  cases hv : vld n d with
  | true => rfl
  | false =>
    rw [txtO_no hv] at ht
    subst ht
    rw [prs_nil] at h
    cases h
theorem prs_len {n d : Int} (h : vld n d = true) : (txtO n d).length ≤ 40 := by
  obtain ⟨h1, h2, h3, h4, h5⟩ := vld_of h
  have nd : ∀ u k : Nat, u < 10 ^ k → 1 ≤ k → Lib.nDigits u ≤ k := by
    intro u k
    induction k generalizing u with
    | zero => intro _ h; omega
    | succ k ih =>
      intro hu _
      by_cases hs : u < 10
      · rw [Lib.nDigits_small hs]; omega
      · rw [Lib.nDigits_big hs]
        rcases Nat.eq_zero_or_pos k with rfl | hk
        · simp at hu; omega
        · have := ih (u / 10) (by rw [Nat.pow_succ] at hu; omega) hk
          omega
  have il : ∀ m : Int, m.natAbs < 10 ^ 18 → (Lib.itoa m).length ≤ 19 := by
    intro m hm
    unfold Lib.itoa
    split
    · rw [List.length_cons, Lib.decDigits_length]
      have := nd m.natAbs 18 hm (by omega)
      omega
    · rw [Lib.decDigits_length]
      have := nd m.toNat 18 (by omega) (by omega)
      omega
  rw [txtO_yes h, List.length_append]
  have a := il n (by omega)
  have b := il d (by omega)
  split
  · simp only [List.length_nil]; omega
  · simp only [List.length_cons]; omega
end Go.Proofs.YtbkekabhdpoddaaDoor
