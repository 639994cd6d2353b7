/- What the outcomes of netting are to each other: the facts behind the laws. -/
import Derived.Test.YthgbdpiihdhfiaaN18
namespace Go.Proofs.Ythgbdpiihdhfiaa
open Go.RowKit Go.Sort

theorem fit_of_ok {p : Int} {x : Db} (hp : p ≤ 9223372036854775807) (h : okD p x = true) : fitD x := by
  obtain ⟨⟨a1, a2, a3, a4, _⟩, hv, _⟩ := okD_of h
  obtain ⟨b1, b2, b3, b4, _⟩ := vld_of hv
  exact ⟨by omega, by omega, by omega, by omega⟩
theorem toNat_n (n : Nat) : ((n : Int)).toNat = n := by simp
theorem ntL_ok {p : Int} {l : List Db} : ∀ x ∈ ntL p l, okD p x = true := by
  unfold ntL
  split
  · rename_i hv
    obtain ⟨n, rfl, h1, h2, h3⟩ := valid_nat hv
    rw [toNat_n]
    cases hn : netL l n with
    | none => simp
    | some ms =>
      obtain ⟨qs, hq, hf⟩ := netL_some hn
      exact validD_mem (net_ok hv hq hf).valid
  · simp
theorem prL_ok {p : Int} {l : List Db} : ∀ x ∈ prL p l, okD p x = true := by
  unfold prL
  split
  · rename_i hv
    obtain ⟨n, rfl, h1, h2, h3⟩ := valid_nat hv
    rw [toNat_n]
    cases hn : prF l n n with
    | none => simp
    | some ms => exact validD_mem (pairs_valid hv hn)
  · simp
theorem args_nt {p : Int} {l : List Db} (h : Args p l) : Args p (ntL p l) := ⟨h.p1, h.p2, by have := ntL_len p l; omega, fun x hx => fit_of_ok h.p2 (ntL_ok x hx)⟩
theorem args_pr {p : Int} {l : List Db} (h : Args p l) : Args p (prL p l) := ⟨h.p1, h.p2, by have := prL_len p l; omega, fun x hx => fit_of_ok h.p2 (prL_ok x hx)⟩
theorem ntE_cases (p : Int) (l : List Db) : ntE p l = 0 ∨ ntE p l = 1 ∨ ntE p l = 2 := by
  unfold ntE; split
  · split <;> omega
  · omega
theorem prE_cases (p : Int) (l : List Db) : prE p l = 0 ∨ prE p l = 1 ∨ prE p l = 2 := by
  unfold prE; split
  · split <;> omega
  · omega
theorem posE_cases (p : Int) (l : List Db) : posE p l = 0 ∨ posE p l = 1 ∨ posE p l = 2 := by
  unfold posE; split
  · split <;> omega
  · omega
/-- what stands behind each error -/
theorem ntE_zero {p : Int} {l : List Db} (h : ntE p l = 0) : ∃ n : Nat, p = n ∧ validD n l = true ∧ ∃ qs ms, posF l n = some qs ∧ netF (n + 1) qs [] = some ms ∧ netL l n = some ms ∧ ntL p l = ms := by
  unfold ntE at h
  split at h
  · rename_i hv
    obtain ⟨n, rfl, h1, h2, h3⟩ := valid_nat hv
    rw [toNat_n] at h
    cases hn : netL l n with
    | none => rw [hn] at h; simp at h
    | some ms =>
      obtain ⟨qs, hq, hf⟩ := netL_some hn
      exact ⟨n, rfl, hv, qs, ms, hq, hf, hn, by unfold ntL; rw [if_pos hv, toNat_n, hn]; rfl⟩
  · omega
theorem prE_zero {p : Int} {l : List Db} (h : prE p l = 0) : ∃ n : Nat, p = n ∧ validD n l = true ∧ ∃ ys, prF l n n = some ys ∧ prL p l = ys := by
  unfold prE at h
  split at h
  · rename_i hv
    obtain ⟨n, rfl, h1, h2, h3⟩ := valid_nat hv
    rw [toNat_n] at h
    cases hn : prF l n n with
    | none => rw [hn] at h; simp at h
    | some ys => exact ⟨n, rfl, hv, ys, hn, by unfold prL; rw [if_pos hv, toNat_n, hn]; rfl⟩
  · omega
theorem posE_zero {p : Int} {l : List Db} (h : posE p l = 0) : ∃ n : Nat, p = n ∧ validD n l = true ∧ ∃ qs, posF l n = some qs ∧ posL p l = qs := by
  unfold posE at h
  split at h
  · rename_i hv
    obtain ⟨n, rfl, h1, h2, h3⟩ := valid_nat hv
    rw [toNat_n] at h
    cases hn : posF l n with
    | none => rw [hn] at h; simp at h
    | some qs => exact ⟨n, rfl, hv, qs, hn, by unfold posL; rw [if_pos hv, toNat_n, hn]; rfl⟩
  · omega
theorem posE_val {n : Nat} {l : List Db} (hv : validD n l = true) : posE n l = if (posF l n).isSome then 0 else 2 := by unfold posE; rw [if_pos hv, toNat_n]
theorem posL_val {n : Nat} {l : List Db} (hv : validD n l = true) : posL n l = (posF l n).getD [] := by unfold posL; rw [if_pos hv, toNat_n]
theorem ntE_val {n : Nat} {l : List Db} (hv : validD n l = true) : ntE n l = if (netL l n).isSome then 0 else 2 := by unfold ntE; rw [if_pos hv, toNat_n]
theorem ntL_val {n : Nat} {l : List Db} (hv : validD n l = true) : ntL n l = (netL l n).getD [] := by unfold ntL; rw [if_pos hv, toNat_n]
theorem prE_val {n : Nat} {l : List Db} (hv : validD n l = true) : prE n l = if (prF l n n).isSome then 0 else 2 := by unfold prE; rw [if_pos hv, toNat_n]
theorem prL_val {n : Nat} {l : List Db} (hv : validD n l = true) : prL n l = (prF l n n).getD [] := by unfold prL; rw [if_pos hv, toNat_n]

/-- netting again -/
theorem again_net {p : Int} {l : List Db} (h : ntE p l = 0) : ntE p (ntL p l) = 2 ∨ (ntE p (ntL p l) = 0 ∧ ntL p (ntL p l) = ntL p l) := by
  obtain ⟨n, rfl, hv, qs, ms, hq, hf, hn, hL⟩ := ntE_zero h
  rw [hL]
  have ok := net_ok hv hq hf
  rw [ntE_val ok.valid, ntL_val ok.valid]
  cases hp : posF ms n with
  | none => left; simp [netL, hp]
  | some r =>
    right
    have := pos_again hq hp (net_pos hq ok)
    subst this
    simp [netL, hp, hf]
theorem again_pr {p : Int} {l : List Db} (h : prE p l = 0) : prE p (prL p l) = 0 ∧ prL p (prL p l) = prL p l := by
  obtain ⟨n, rfl, hv, ys, hy, hL⟩ := prE_zero h
  rw [hL]
  have hv' := pairs_valid hv hy
  rw [prE_val hv', prL_val hv', pairs_again hy]
  simp
/-- the positions of what is netted -/
theorem keep_net {p : Int} {l : List Db} (h : ntE p l = 0) : posE p l = 0 ∧ validD p (ntL p l) = true ∧ (posE p (ntL p l) = 2 ∨ (posE p (ntL p l) = 0 ∧ posL p (ntL p l) = posL p l)) := by
  obtain ⟨n, rfl, hv, qs, ms, hq, hf, hn, hL⟩ := ntE_zero h
  rw [hL]
  have ok := net_ok hv hq hf
  refine ⟨by rw [posE_val hv, hq]; rfl, ok.valid, ?_⟩
  rw [posE_val ok.valid, posL_val ok.valid, posL_val hv]
  cases hp : posF ms n with
  | none => left; rfl
  | some r =>
    right
    have := pos_again hq hp (net_pos hq ok)
    subst this
    simp [hq]
theorem keep_pr {p : Int} {l : List Db} (h : prE p l = 0) (h0 : posE p l = 0) : validD p (prL p l) = true ∧ (posE p (prL p l) = 2 ∨ (posE p (prL p l) = 0 ∧ posL p (prL p l) = posL p l)) := by
  obtain ⟨n, rfl, hv, ys, hy, hL⟩ := prE_zero h
  rw [hL]
  have hv' := pairs_valid hv hy
  refine ⟨hv', ?_⟩
  rw [posE_val hv', posL_val hv', posL_val hv]
  rw [posE_val hv] at h0
  cases hq : posF l n with
  | none => rw [hq] at h0; simp at h0
  | some qs =>
    cases hp : posF ys n with
    | none => left; rfl
    | some r =>
      right
      have := pos_again hq hp (fun i _ => pairs_pos (validD_mem hv) hy i)
      subst this
      simp
theorem net_codes {p : Int} {l : List Db} (h : posE p l = 0) : (ntE p l = 0 ∨ ntE p l = 2) ∧ (prE p l = 0 ∨ prE p l = 2) ∧ ((posL p l).length : Int) = p ∧ rs (at0 (posL p l)) (posL p l).length = 0 ∧ ∀ q ∈ posL p l, inR q = true := by
  obtain ⟨n, rfl, hv, qs, hq, hL⟩ := posE_zero h
  rw [ntE_val hv, prE_val hv, hL]
  have hl := posF_len hq
  refine ⟨by split <;> omega, by split <;> omega, by omega, ?_, posF_inR hq⟩
  rw [hl, rs_congr (posF_val hq)]; exact pv_sum (validD_mem hv)
theorem pos_bad {p : Int} {l : List Db} (h : posE p l ≠ 0) : posL p l = [] := by
  unfold posE at h
  unfold posL
  split
  · rename_i hv
    rw [if_pos hv] at h
    cases hq : posF l p.toNat with
    | none => rfl
    | some qs => rw [hq] at h; simp at h
  · rfl
theorem nt_bad {p : Int} {l : List Db} (h : posE p l ≠ 0 ∨ ntE p l ≠ 0) : ntL p l = [] := by
  unfold posE ntE at h
  unfold ntL
  split
  · rename_i hv
    rw [if_pos hv, if_pos hv] at h
    cases hq : netL l p.toNat with
    | none => rfl
    | some ms =>
      obtain ⟨qs, hq', _⟩ := netL_some hq
      rw [hq, hq'] at h
      simp at h
  · rfl
/-- few debts -/
theorem few_net {p : Int} {l : List Db} (h : ntE p l = 0) : (ntL p l).length < nz (posL p l) ∨ ((ntL p l).length = 0 ∧ nz (posL p l) = 0) := by
  obtain ⟨n, rfl, hv, qs, ms, hq, hf, hn, hL⟩ := ntE_zero h
  have ok := net_ok hv hq hf
  rw [hL, posL_val hv, hq, Option.getD_some]
  rcases ok.few with h1 | h1
  · right; exact ⟨by rw [h1]; rfl, ok.none0 h1⟩
  · left; omega
theorem sides_net {p : Int} {l : List Db} (h : ntE p l = 0) {x y : Db} (hx : x ∈ ntL p l) (hy : y ∈ ntL p l) : x.f ≠ y.t := by
  obtain ⟨n, rfl, hv, qs, ms, hq, hf, hn, hL⟩ := ntE_zero h
  have ok := net_ok hv hq hf
  rw [hL] at hx hy
  obtain ⟨a, b, h1, h2, h3, h4⟩ := ok.sign x hx
  obtain ⟨a', b', h1', h2', h3', h4'⟩ := ok.sign y hy
  intro e
  have : a = b' := by omega
  subst this
  exact Rat.lt_irrefl (show at0 qs a < at0 qs a by grind)
theorem order_pr {p : Int} {l : List Db} {i : Nat} {x y : Db} (hx : (prL p l)[i]? = some x) (hy : (prL p l)[i + 1]? = some y) : ordD x y := by
  unfold prL at hx hy
  split at hx
  · rename_i hv
    rw [if_pos hv] at hy
    cases hq : prF l p.toNat p.toNat with
    | none => rw [hq] at hx; simp at hx
    | some ys => rw [hq] at hx hy; exact pairs_order hq hx hy
  · simp at hx
end Go.Proofs.Ythgbdpiihdhfiaa
