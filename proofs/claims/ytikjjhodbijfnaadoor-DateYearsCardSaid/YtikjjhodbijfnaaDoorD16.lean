/- The walk of DateYears: true at every input. -/
import Derived.Test.YtikjjhodbijfnaaDoorD14
namespace Go.Proofs.YtikjjhodbijfnaaDoor
open Go.RowKit Go.Sort

theorem year_facts (y : Int) (h : 1990 ≤ y) (h' : y ≤ 2188) : okC y 1 1 = true ∧ okC (y + 1) 1 1 = true ∧ num (y + 1) 1 1 - num y 1 1 = 365 + lpI y ∧ okC y 2 29 = lp y := by
  have l1 := len_bd y 1 (by omega) (by omega)
  have l2 := len_bd (y + 1) 1 (by omega) (by omega)
  refine ⟨okC_mk (by omega), okC_mk (by omega), ?_, ?_⟩
  · unfold num
    rw [ny_succ, dbm_1, dbm_1]; omega
  · have hl : len y 2 = 28 + lpI y := by unfold len; rw [dbm_eq, dbm_eq]; simp [bef]; omega
    have h0 : lpI y = if lp y then 1 else 0 := rfl
    cases hp : lp y with
    | true => rw [hp] at h0; simp at h0; exact okC_mk (by omega)
    | false =>
      rw [hp] at h0; simp at h0
      simp only [okC, decide_eq_false_iff_not]
      omega
theorem lp_cases (y : Int) : (y % 4 = 0 ∧ y % 100 ≠ 0 ∧ lp y = true) ∨ (y % 4 = 0 ∧ y % 100 = 0 ∧ y % 400 = 0 ∧ lp y = true) ∨ (y % 4 = 0 ∧ y % 100 = 0 ∧ y % 400 ≠ 0 ∧ lp y = false) ∨ (y % 4 ≠ 0 ∧ y % 400 ≠ 0 ∧ lp y = false) := by
  unfold lp
  by_cases h1 : y % 4 = 0 <;> by_cases h2 : y % 100 = 0 <;> by_cases h3 : y % 400 = 0 <;> simp [h1, h2, h3] <;> omega
set_option maxHeartbeats 1600000 in
theorem years_any (raw : Int) (w : World) (h0 : 0 ≤ raw) (h1 : raw ≤ 65535) (ht : Tb w) :
    Calls Tryd.prog 4 #[.int .u16 raw] w fun e w' => e = .returned (.bool true) ∧ Below w.heap.size w w' := by
  obtain ⟨y, hy⟩ : ∃ y, 1990 + raw % 199 = y := ⟨_, rfl⟩
  have y0 : 1990 ≤ y := by omega
  have y1 : y ≤ 2188 := by omega
  have HY := Lib.hid hy
  obtain ⟨f1, f2, f3, f4⟩ := year_facts y y0 y1
  have HA := Lib.hid (fun W hW => nNumber_any y 1 1 W (ht.below hW))
  have HB := Lib.hid (fun W hW => nNumber_any (y + 1) 1 1 W (ht.below hW))
  have HG := Lib.hid (fun W hW => nNumber_any y 2 29 W (ht.below hW))
  have HT := Lib.hid ht
  rw [show nuN y 1 1 = num y 1 1 by simp [nuN, f1], show nuE y 1 1 = 0 by simp [nuE, f1]] at HA
  rw [show nuN (y + 1) 1 1 = num (y + 1) 1 1 by simp [nuN, f2], show nuE (y + 1) 1 1 = 0 by simp [nuE, f2]] at HB
  rw [show nuE y 2 29 = if lp y then 0 else 1 by simp [nuE, f4]] at HG
  have b1 := num_bd f1
  have b2 := num_bd f2
  generalize num y 1 1 = a at *
  generalize num (y + 1) 1 1 = b at *
  generalize nuN y 2 29 = g at *
  clear hy ht f1 f2 f4
  have f3 := Lib.hid f3
  go_enter Tryd.func4, Tryd.ntmps4
  go_upto_region 3 with (go_at_call 9; with_reducible refine (head_any _ (by exact HT.out)).mono ?_; rintro e w1 ⟨rfl, hb1⟩)
  rw [HY.out]
  clear HY h0 h1
  go_upto_region 4 with (go_at_call 10; with_reducible refine (HA.out _ hb1).mono ?_; rintro e w2 ⟨rfl, hb2⟩)
  have hb2' := below_then hb1 hb2
  go_upto_region 5 with (go_at_call 10; with_reducible refine (HB.out _ hb2').mono ?_; rintro e w3 ⟨rfl, hb3⟩)
  have hb3' := below_then hb2' hb3
  go_upto_region 6 with (go_at_call 10; with_reducible refine (HG.out _ hb3').mono ?_; rintro e w4 ⟨rfl, hb4⟩)
  have hb4' := below_then hb3' hb4
  clear HA HB HG HT hb1 hb2 hb3 hb2' hb3' hb4
  rcases lp_cases y with ⟨q1, q2, hl⟩ | ⟨q1, q2, q3, hl⟩ | ⟨q1, q2, q3, hl⟩ | ⟨q1, q3, hl⟩
  · rw [if_pos hl]
    have f : b - a = 366 := by rw [f3.out]; simp [lpI, hl]
    clear f3
    go_wp2
    go_ret
    exact ⟨ret_bool (by simp), hb4'⟩
  · rw [if_pos hl]
    have f : b - a = 366 := by rw [f3.out]; simp [lpI, hl]
    clear f3
    go_wp2
    go_ret
    exact ⟨ret_bool (by simp), hb4'⟩
  · rw [if_neg (by rw [hl]; decide)]
    have f : b - a = 365 := by rw [f3.out]; simp [lpI, hl]
    clear f3
    go_wp2
    go_ret
    exact ⟨ret_bool (by simp), hb4'⟩
  · rw [if_neg (by rw [hl]; decide)]
    have f : b - a = 365 := by rw [f3.out]; simp [lpI, hl]
    clear f3
    go_wp2
    go_ret
    exact ⟨ret_bool (by simp), hb4'⟩
end Go.Proofs.YtikjjhodbijfnaaDoor
