/- The walks of package date, first part: leap years, days before a month and a year, dates and their numbers. -/
import Derived.Test.YtcfjehohemdanaaDoorProg
import Derived.Test.YtcfjehohemdanaaDoorDt3
import Derived.Test.YtcfjehohemdanaaDoorMem
import Derived.Test.YtcfjehohemdanaaDoorQt
import Derived.WalkKit
import Derived.IntWalk
import Derived.BigQuiet
import Derived.Deep.QuietTactic
import Derived.RegionTactic
import Derived.Outline
import Derived.Lib.Hide
namespace Go.Proofs.YtcfjehohemdanaaDoor
open Go.RowKit Go.Sort

theorem name_wp {P : Program} {c : Code} {Q : Exit → Act → World → Prop} {a : Act} {w : World} (h : ∀ w', w' = w → c.wp P Q a w') : c.wp P Q a w := h w rfl
theorem wpList_done {P : Program} {ops : Array Oper} {Q : Exit → Act → World → Prop} {a : Act} {w : World} (h : Q .normal a w) : wpList P ops Q [] a w := h
/-- the table of the days before each month -/
def Tb (w : World) : Prop := ∀ i : Nat, i < 13 → w.cell? ⟨1, i, none⟩ = some (.int .i64 (bef ((i : Int) + 1)))
theorem Tb.below {w w' : World} (h : Tb w) (hb : Below w.heap.size w w') : Tb w' := fun i hi => (hb.cell (block_lt_of_cell (h i hi))).trans (h i hi)
theorem Tb.lt {w : World} (h : Tb w) : 0 < w.heap.size := Nat.lt_of_le_of_lt (Nat.zero_le _) (block_lt_of_cell (h 0 (by omega)))
theorem Tb.drewN {w : World} (h : Tb w) (n : Nat) : Tb (w.drewN n) := h

theorem leap_any (y : Int) (w : World) (h0 : 0 ≤ y) (h1 : y ≤ 100000) :
    Calls Tryd.prog 49 #[.int .i64 y] w fun e w' => e = .returned (.bool (lp y)) ∧ w = w' := by
  cases e1 : (y % 4 == 0) <;> cases e2 : (y % 100 != 0) <;> cases e3 : (y % 400 == 0)
  all_goals
    have HL : Hid (lp y = ((y % 4 == 0) && ((y % 100 != 0) || (y % 400 == 0)))) := by
      show lp y = _
      unfold lp
      by_cases q1 : y % 4 = 0 <;> by_cases q2 : y % 100 = 0 <;> by_cases q3 : y % 400 = 0 <;> simp [q1, q2, q3]
    go_enter Tryd.func49, Tryd.ntmps49
    go_wp2
    go_ret
    exact ⟨ret_bool (by rw [HL.out, e1, e2, e3]; rfl), rfl⟩
theorem bef_bd (m : Int) : 0 ≤ bef m ∧ bef m ≤ 365 := by unfold bef; repeat (split; omega); omega
theorem dbf_any (y m : Int) (w : World) (h0 : 0 ≤ y) (h1 : y ≤ 100000) (hm0 : 1 ≤ m) (hm1 : m ≤ 13) (ht : Tb w) :
    Calls Tryd.prog 45 #[.int .i64 y, .int .i64 m] w fun e w' => e = .returned (.int .i64 (dbm y m)) ∧ w = w' := by
  obtain ⟨k, rfl⟩ : ∃ k : Nat, m = (k : Int) + 1 := ⟨(m - 1).toNat, by omega⟩
  have hk : k < 13 := by omega
  have c0 := ht k hk
  have bb := bef_bd ((k : Int) + 1)
  have HD := Lib.hid (dbm_eq y ((k : Int) + 1))
  have HP : Hid (lpI y = if lp y then 1 else 0) := rfl
  have i1 : (0 : Int) ≤ (k : Int) := by omega
  have i2 : (k : Int) < 13 := by omega
  clear ht hm1
  generalize bef ((k : Int) + 1) = B at *
  generalize lpI y = L at *
  by_cases h2 : (2 : Int) < (k : Int) + 1
  · cases hl : lp y
    all_goals
      have e2 : decide ((2 : Int) < (k : Int) + 1) = true := by simpa using h2
      go_enter Tryd.func45, Tryd.ntmps45
      go_wp2_with (go_at_call 49; refine (leap_any y _ h0 h1).mono ?_; rintro e w1 ⟨rfl, rfl⟩)
      go_ret
      exact ⟨ret_int (by rw [HD.out, if_pos h2, HP.out, hl]; simp), rfl⟩
  · have e2 : decide ((2 : Int) < (k : Int) + 1) = false := by simpa using h2
    go_enter Tryd.func45, Tryd.ntmps45
    go_wp2
    go_ret
    exact ⟨ret_int (by rw [HD.out, if_neg (by omega)]; omega), rfl⟩
theorem len_any (y m : Int) (w : World) (h0 : 0 ≤ y) (h1 : y ≤ 100000) (hm0 : 1 ≤ m) (hm1 : m ≤ 12) (ht : Tb w) :
    Calls Tryd.prog 33 #[.int .i64 y, .int .i64 m] w fun e w' => e = .returned (.int .i64 (len y m)) ∧ w = w' := by
  have HT := Lib.hid ht
  have b1 := dbm_bd y m hm0 (by omega)
  have b2 := dbm_bd y (m + 1) (by omega) (by omega)
  clear ht
  go_enter Tryd.func33, Tryd.ntmps33
  go_wp2_with (go_at_call 45; refine (dbf_any y _ _ h0 h1 (by omega) (by omega) HT.out).mono ?_; rintro e w1 ⟨rfl, rfl⟩)
  go_ret
  exact ⟨rfl, rfl⟩
theorem lv_any (y : Int) (w : World) (h0 : 0 ≤ y) (h1 : y ≤ 100000) :
    Calls Tryd.prog 50 #[.int .i64 y] w fun e w' => e = .returned (.int .i64 (lv y)) ∧ w = w' := by
  go_enter Tryd.func50, Tryd.ntmps50
  go_wp2
  go_ret
  exact ⟨rfl, rfl⟩
theorem ny_any (y : Int) (w : World) (h0 : 1990 ≤ y) (h1 : y ≤ 10000) :
    Calls Tryd.prog 46 #[.int .i64 y] w fun e w' => e = .returned (.int .i64 (ny y)) ∧ w = w' := by
  have b : 0 ≤ lv (y - 1) ∧ lv (y - 1) ≤ 10000 := by unfold lv; omega
  have b2 : 0 ≤ lv 1989 ∧ lv 1989 ≤ 10000 := by unfold lv; omega
  go_enter Tryd.func46, Tryd.ntmps46
  go_wp2_with (go_at_call 50; refine (lv_any _ _ (by omega) (by omega)).mono ?_; rintro e w1 ⟨rfl, rfl⟩)
  go_ret
  exact ⟨rfl, rfl⟩
/-- a day number -/
def isD (n : Int) : Bool := decide (0 ≤ n ∧ n ≤ 73048)
theorem isD_yes {n : Int} (h : 0 ≤ n ∧ n ≤ 73048) : isD n = true := by simp only [isD, decide_eq_true_eq]; exact h
theorem isD_no {n : Int} (h : ¬ (0 ≤ n ∧ n ≤ 73048)) : isD n = false := by simp only [isD, decide_eq_false_iff_not]; exact h
end Go.Proofs.YtcfjehohemdanaaDoor
