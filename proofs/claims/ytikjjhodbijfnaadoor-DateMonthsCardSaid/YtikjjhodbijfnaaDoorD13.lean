/- The examples of the laws on dates: head. -/
import Derived.Test.YtikjjhodbijfnaaDoorD12
namespace Go.Proofs.YtikjjhodbijfnaaDoor
open Go.RowKit Go.Sort

theorem hd_n1 (w : World) (ht : Tb w) : Calls Tryd.prog 10 #[.agg #[.int .i64 2000, .int .i64 2, .int .i64 29]] w fun e w' => e = .returned (.tuple #[.int .i64 3711, .int .i64 0]) ∧ Below w.heap.size w w' := by
  have h := nNumber_any 2000 2 29 w ht
  rwa [show nuN 2000 2 29 = 3711 by decide, show nuE 2000 2 29 = 0 by decide] at h
theorem hd_n2 (w : World) (ht : Tb w) : Calls Tryd.prog 10 #[.agg #[.int .i64 2189, .int .i64 12, .int .i64 31]] w fun e w' => e = .returned (.tuple #[.int .i64 73048, .int .i64 0]) ∧ Below w.heap.size w w' := by
  have h := nNumber_any 2189 12 31 w ht
  rwa [show nuN 2189 12 31 = 73048 by decide, show nuE 2189 12 31 = 0 by decide] at h
theorem hd_c (w : World) (ht : Tb w) : Calls Tryd.prog 11 #[.int .i64 59] w fun e w' => e = .returned (.tuple #[.agg #[.int .i64 1990, .int .i64 3, .int .i64 1], .int .i64 0]) ∧ Below w.heap.size w w' := by
  have h := cCivil_yes 1990 3 1 w (by decide) ht
  rwa [show num 1990 3 1 = 59 by decide] at h
theorem hd_m1 (w : World) (ht : Tb w) : Calls Tryd.prog 13 #[.int .i64 30, .int .i64 1] w fun e w' => e = .returned (.tuple #[.int .i64 58, .int .i64 0]) ∧ Below w.heap.size w w' := by
  have h := months_any 1990 1 31 1 w (by decide) (by omega) (by omega) ht
  rwa [show num 1990 1 31 = 30 by decide, show (if tot 1990 1 1 < 23880 ∨ 2189 < mY 1990 1 1 then (0 : Int) else num (mY 1990 1 1) (mM 1990 1 1) (mD 1990 1 31 1)) = 58 by decide, show (if tot 1990 1 1 < 23880 ∨ 2189 < mY 1990 1 1 then (2 : Int) else 0) = 0 by decide] at h
theorem hd_m2 (w : World) (ht : Tb w) : Calls Tryd.prog 13 #[.int .i64 0, .int .i64 (-1)] w fun e w' => e = .returned (.tuple #[.int .i64 0, .int .i64 2]) ∧ Below w.heap.size w w' := by
  have h := months_any 1990 1 1 (-1) w (by decide) (by omega) (by omega) ht
  rwa [show num 1990 1 1 = 0 by decide, show (if tot 1990 1 (-1) < 23880 ∨ 2189 < mY 1990 1 (-1) then (0 : Int) else num (mY 1990 1 (-1)) (mM 1990 1 (-1)) (mD 1990 1 1 (-1))) = 0 by decide, show (if tot 1990 1 (-1) < 23880 ∨ 2189 < mY 1990 1 (-1) then (2 : Int) else 0) = 2 by decide] at h
abbrev wkE : List Bool := [false, false, false, false, false, true, true]
theorem hd_s4 : srchF ⟨wkE, [4]⟩ 4 1 = (7, 0) := by
  have h : nthF (bizC ⟨wkE, [4]⟩) 4 1 73045 = 3 := (nthF_is _ _ _ _).uniq ⟨by decide, fun j hj => by
    rcases (show j = 0 ∨ j = 1 ∨ j = 2 by omega) with rfl | rfl | rfl <;> decide, fun _ => by decide⟩
  unfold srchF
  simp only [show (73049 - (4 : Int)).toNat = 73045 by decide, h]
  decide
theorem hd_next : nextF ⟨wkE, [4]⟩ 4 = (7, 0) := by
  unfold nextF addF
  rw [show vldC ⟨wkE, [4]⟩ = true by decide, show isD 4 = true by decide, if_pos (by decide), if_pos rfl]
  exact hd_s4
theorem hd_add : addF ⟨wkE, [4]⟩ 3 1 = (7, 0) := by
  unfold addF
  rw [show vldC ⟨wkE, [4]⟩ = true by decide, show isD 3 = true by decide, if_pos (by decide), if_neg (by decide), show (3 : Int) + 1 = 4 by decide]
  exact hd_s4
theorem hd_count : countF ⟨wkE, [4]⟩ 0 8 = (5, 0) := by decide
theorem hd_add2 : addF ⟨wkE, [4]⟩ 3 100000 = (0, 2) := by
  unfold addF
  rw [show vldC ⟨wkE, [4]⟩ = true by decide, show isD 3 = true by decide, if_pos (by decide), if_neg (by decide), show (3 : Int) + 1 = 4 by decide]
  have h : nthF (bizC ⟨wkE, [4]⟩) 4 100000 73045 = 73045 := (nthF_is _ _ _ _).uniq ⟨Nat.le_refl _, fun j hj => by
    have := cnt_bd (bizC ⟨wkE, [4]⟩) 4 (j + 1)
    omega, fun h => by omega⟩
  unfold srchF
  simp only [show (73049 - (4 : Int)).toNat = 73045 by decide, h]
  decide
end Go.Proofs.YtikjjhodbijfnaaDoor
