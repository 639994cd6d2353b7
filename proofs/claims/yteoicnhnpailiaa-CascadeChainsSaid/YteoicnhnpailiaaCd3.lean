/- The walk of slices.Reverse at a slice of ints of the call's own. -/
import Derived.Test.YteoicnhnpailiaaCb2
import Derived.Test.YteoicnhnpailiaaOwn2
namespace Go.Proofs.Yteoicnhnpailiaa
open Go.RowKit Go.Sort

def rvE (l : List Int) (i k : Nat) : Int := if k < i ∨ l.length ≤ k + i then l.getD (l.length - 1 - k) 0 else l.getD k 0
def rvL (l : List Int) (i : Nat) : List Int := (List.range l.length).map (rvE l i)
theorem rvL_len (l : List Int) (i : Nat) : (rvL l i).length = l.length := by simp [rvL]
theorem rvL_get {l : List Int} {i k : Nat} (h : k < l.length) : (rvL l i)[k]? = some (rvE l i k) := by simp [rvL, h]
theorem getD_of {l : List Int} {k : Nat} (h : k < l.length) : l.getD k 0 = l[k] := by simp [List.getD_eq_getElem?_getD, h]
theorem rvL_0 (l : List Int) : rvL l 0 = l := by
  refine List.ext_getElem (by simp [rvL]) fun k h1 h2 => ?_
  simp only [rvL, List.getElem_map, List.getElem_range, rvE]
  rw [if_neg (by omega), getD_of h2]
theorem rvL_end {l : List Int} {i : Nat} (h : l.length ≤ 2 * i + 1) : rvL l i = l.reverse := by
  refine List.ext_getElem (by simp [rvL]) fun k h1 h2 => ?_
  simp only [List.length_reverse] at h2
  simp only [rvL, List.getElem_map, List.getElem_range, rvE, List.getElem_reverse]
  split
  · exact getD_of (by omega)
  · rw [getD_of h2]
    congr 1; omega
theorem rvL_next {l : List Int} {i j : Nat} (hij : i < j) (hj : i + j + 1 = l.length) : ((rvL l i).set i (rvE l i j)).set j (rvE l i i) = rvL l (i + 1) := by
  refine List.ext_getElem (by simp [rvL]) fun k h1 h2 => ?_
  simp only [rvL_len] at h2
  have hk : (rvL l i)[k]'(by rw [rvL_len]; exact h2) = rvE l i k := by simp [rvL]
  rw [List.getElem_set, List.getElem_set, hk]
  simp only [rvL, List.getElem_map, List.getElem_range]
  unfold rvE
  by_cases h3 : j = k
  · subst h3
    rw [if_pos rfl, if_neg (by omega), if_pos (by omega)]
    congr 1; omega
  · rw [if_neg h3]
    by_cases h4 : i = k
    · subst h4
      rw [if_pos rfl, if_neg (by omega), if_pos (by omega)]
      congr 1; omega
    · rw [if_neg h4]
      by_cases h5 : k < i ∨ l.length ≤ k + i
      · rw [if_pos h5, if_pos (by omega)]
      · rw [if_neg h5, if_neg (by omega)]
theorem set_flatMap1 {α : Type} {enc : α → List Value} {a : Value} {r : α} (he : ∀ x, (enc x).length = 1) (hr : enc r = [a]) : ∀ (xs : List α) (k : Nat), k < xs.length → (xs.flatMap enc).set k a = (xs.set k r).flatMap enc
  | [], k, h => by simp at h
  | x :: xs, 0, _ => by
    have h2 := he x
    match hx : enc x, h2 with
    | [u], _ => simp [hx, hr]
  | x :: xs, k + 1, h => by
    have h2 := he x
    have ih := set_flatMap1 he hr xs k (by simpa using h)
    match hx : enc x, h2 with
    | [u], _ =>
      simp only [List.flatMap_cons, hx, List.cons_append, List.nil_append, List.set_cons_succ]
      rw [ih]
section
variable {α : Type} {w w' : World} {B : Nat} {T : TypeId} {enc : α → List Value} {xs : List α} {g n cap : Nat}
theorem Own.set1 (h : Own w B T 1 enc (.slice (some ⟨g, 0, none⟩) n cap) xs) (he : ∀ x, (enc x).length = 1) (hn : xs.length = n) {k : Nat} (hk : k < n) {a : Value} {r : α} (hr : enc r = [a]) :
    Own (w.setCell ⟨g, k, none⟩ a) B T 1 enc (.slice (some ⟨g, 0, none⟩) n cap) (xs.set k r) := by
  unfold Own at h ⊢
  rw [hn] at h
  have h1 := (World.ownsRow.stored h k a).1
  rw [List.length_set, hn, ← set_flatMap1 he hr xs k (by omega)]
  exact h1
theorem Own.cell1 (h : Own w B T 1 enc (.slice (some ⟨g, 0, none⟩) n cap) xs) (he : ∀ x, (enc x).length = 1) {k : Nat} {x : α} (hx : xs[k]? = some x) {a : Value} (hr : enc x = [a]) :
    w.cell? ⟨g, k, none⟩ = some a ∧ w.frozen? ⟨g, k, none⟩ = false := by
  have hn : xs.length = n := by
    rcases h.2 with ⟨h1, _⟩ | ⟨_, _, _, h1, _⟩
    · cases h1
    · injection h1 with _ h2 _; exact h2.symm
  have hk : k < xs.length := (List.getElem?_eq_some_iff.1 hx).1
  unfold Own at h
  rw [hn] at h
  have e1 := World.ownsRow.cellAt h k (by omega)
  have g1 := getElem?_flatMap he xs k 0 x hx (by omega)
  rw [hr] at g1
  simp only [Nat.mul_one, Nat.add_zero] at g1
  exact ⟨e1.trans g1, World.ownsRow.frozenAt h _⟩
end
def encN (x : Int) : List Value := [.int .i64 x]
theorem encN_len (x : Int) : (encN x).length = 1 := rfl
theorem Kp.drewN {x y : Nat} {w w' : World} (h : Kp x y w w') (n : Nat) : Kp x y w (w'.drewN n) := ⟨h.os, h.tape, h.output, h.size, h.block⟩
set_option maxRecDepth 100000 in
set_option maxHeartbeats 1600000 in
theorem reverse_any (g c B : Nat) (l : List Int) (w : World) (hl : l.length ≤ 1000) (ho : Own w B 3 1 encN (.slice (some ⟨g, 0, none⟩) l.length c) l) :
    Calls Try.prog 40 #[.slice (some ⟨g, 0, none⟩) l.length c] w fun e w' => e = .returned (.tuple #[]) ∧ Own w' B 3 1 encN (.slice (some ⟨g, 0, none⟩) l.length c) l.reverse ∧ Kp g g w w' := by
  have HO := Lib.hid ho
  clear ho
  go_enter Try.func40, Try.ntmps40
  go_upto_region 1 with (fail)
  go_loopw [2, 3] (fun a b WR => ∃ i : Nat, a = .int .i64 i ∧ b = .int .i64 ((l.length : Int) - 1 - i) ∧ (2 * i ≤ l.length + 1) ∧ Hid (Own WR B 3 1 encN (.slice (some ⟨g, 0, none⟩) l.length c) (rvL l i) ∧ Kp g g w WR)) (fun a _ _ => 2000 - (intOf a).toNat)
  case atStart => exact ⟨0, rfl, by simp, by omega, by rw [rvL_0]; exact HO.out, Kp.refl _ _ _⟩
  case round =>
    obtain ⟨i, rfl, rfl, hi, hrel⟩ := hrel
    by_cases hlt : (i : Int) < (l.length : Int) - 1 - i
    · obtain ⟨j, hj⟩ : ∃ j : Nat, i + j + 1 = l.length := ⟨l.length - 1 - i, by omega⟩
      have e1 : (l.length : Int) - 1 - i = j := by omega
      rw [e1] at hlt ⊢
      have hij : i < j := by omega
      obtain ⟨c0, f0⟩ := hrel.out.1.cell1 encN_len (rvL_get (l := l) (i := i) (k := i) (by omega)) rfl
      obtain ⟨c1, f1⟩ := hrel.out.1.cell1 encN_len (rvL_get (l := l) (i := i) (k := j) (by omega)) rfl
      have hg : g < wr.heap.size := block_lt_of_cell c0
      have q1 : i < l.length := by omega
      have q2 : j < l.length := by omega
      have HJ := Lib.hid hj
      have HI := Lib.hid hij
      clear e1 hj hij hi
      go_upto_region 3 with (fail)
      go_region
      all_goals (
        go_wp2
        go_roundw
        case rel =>
          have h1 := HJ.out
          have h2 := HI.out
          refine ⟨i + 1, by go_num, by congr 1; omega, by omega, ?_, ?_⟩
          · rw [← rvL_next h2 h1]
            exact ((hrel.out.1.set1 encN_len (rvL_len _ _) q1 rfl).set1 encN_len (by simp [rvL_len]) q2 rfl)
          · exact ((hrel.out.2.setX _).setX _).drewN 1
        case measure =>
          have h1 := HJ.out
          simp [intOf]; omega)
    · have HE := Lib.hid (rvL_end (l := l) (i := i) (by omega))
      go_wp2
      go_end0
      have h1 := hrel.out
      rw [HE.out] at h1
      exact ⟨rfl, h1.1, h1.2⟩
end Go.Proofs.Yteoicnhnpailiaa
