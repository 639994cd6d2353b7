/- What Agrees answers at a changed state. -/
import Derived.Test.YtginnonjdbpamaaGreatDoorZDf2
import Derived.Test.YtginnonjdbpamaaGreatDoorMb1
namespace Go.Proofs.YtginnonjdbpamaaGreatDoor
section
variable {c : Con} {l : List Int} {n : Nat} {s : Sta}
theorem dif_day (h : c.runE l = 0) (hs : (c.runS l)[n]? = some s) {d : Int} (hd : d ≠ s.day) : c.agr l ((c.runS l).set n { s with day := d }) = ((n : Int), false) :=
 (differs_law h hs).1 fun e => hd e.1
theorem dif_hol (h : c.runE l = 0) (hs : (c.runS l)[n]? = some s) {i : Nat} {y : Int} (hy : s.hol[i]? = some y) {z : Int} (hz : z ≠ y) : c.agr l ((c.runS l).set n { s with hol := s.hol.set i z }) = ((n : Int), false) :=
 (differs_law h hs).1 fun e => by
  have e2 := congrArg (fun l => l[i]?) e.2.1
  simp only at e2
  rw [List.getElem?_set_self (List.getElem?_eq_some_iff.1 hy).1, hy] at e2
  exact hz (Option.some.inj e2)
theorem dif_mark (h : c.runE l = 0) (hs : (c.runS l)[n]? = some s) {i : Nat} {y z : Mk} (hy : s.marks[i]? = some y) (hz : z.tri ≠ y.tri) : c.agr l ((c.runS l).set n { s with marks := s.marks.set i z }) = ((n : Int), false) :=
 (differs_law h hs).1 fun e => by
  have e2 := congrArg (fun l => l[i]?) e.2.2
  simp only [List.getElem?_map] at e2
  rw [List.getElem?_set_self (List.getElem?_eq_some_iff.1 hy).1, hy] at e2
  exact hz (Option.some.inj e2)
theorem dif_same (h : c.runE l = 0) (hs : (c.runS l)[n]? = some s) {i : Nat} {y z : Mk} (us : List Bool) (hy : s.marks[i]? = some y) (hz : z.tri = y.tri) : c.agr l ((c.runS l).set n { s with used := us, marks := s.marks.set i z }) = (-1, true) :=
 (differs_law h hs).2 ⟨rfl, rfl, by
  refine List.ext_getElem? fun j => ?_
  simp only [List.getElem?_map]
  by_cases hj : i = j
  ·subst hj
   rw [List.getElem?_set_self (List.getElem?_eq_some_iff.1 hy).1, hy]
   exact congrArg some hz
  ·rw [List.getElem?_set_ne hj]⟩
end
end Go.Proofs.YtginnonjdbpamaaGreatDoor
