/- A slice as an argument, opened: its elements read as a list. -/
import Derived.Test.YtcfjehohemdanaaDoorRows
import Derived.Test.YtcfjehohemdanaaDoorChecked
import Derived.Test.YtcfjehohemdanaaDoorMem
import Derived.ProofKit
import Derived.Deep.Slices
import Derived.Deep.Strs
import Derived.Below
import Derived.ChangeSame
import Derived.Carry
import Derived.OpenShut
import Derived.SizedLaws
import Derived.LaidMore
import Derived.Lay
import Derived.Stop.Joined
namespace Go.Proofs.YtcfjehohemdanaaDoor
open Go.ChangeShapes Go.WideShapes Go.ChangeAt Go.RowKit Go.Deep

theorem Tryd.own : ownKnob Tryd.prog.godebug = none := by kernel_rfl
theorem Tryd.laidOut : laidOutB Tryd.prog = true := by kernel_rfl
theorem list_of {α : Type} {P : Nat → α → Prop} : ∀ n, (∀ i, i < n → ∃ x, P i x) → ∃ l : List α, l.length = n ∧ ∀ k x, l[k]? = some x → P k x
  | 0, _ => ⟨[], rfl, fun k x h => by simp at h⟩
  | n + 1, h => by
    obtain ⟨l, hl, hP⟩ := list_of n fun i hi => h i (by omega)
    obtain ⟨x, hx⟩ := h n (by omega)
    refine ⟨l ++ [x], by simp [hl], fun k y hy => ?_⟩
    rcases Nat.lt_or_ge k n with hk | hk
    · rw [List.getElem?_append_left (by omega)] at hy; exact hP k y hy
    · rw [List.getElem?_append_right (by omega)] at hy
      have : k = n := by
        have := (List.getElem?_eq_some_iff.1 hy).1
        simp at this; omega
      subst this
      simp [hl] at hy
      subst hy; exact hx
/-- what an opened slice gives -/
def Lst {α : Type} (w : World) (en : α → List Value) (size : Nat) (fit : α → Prop) (A : Option Addr) (l : List α) (c : Nat) : Prop := l.length ≤ c ∧ (A = none → l = [] ∧ c = 0) ∧ (∀ y ∈ l, fit y) ∧ Seg w w.heap.size size en A l
/-- a slice, opened: its elements are of 'size' cells each, which read as 'en' says -/
theorem open_lst {α : Type} (en : α → List Value) (size : Nat) (fit : α → Prop) (he : ∀ y, (en y).length = size) (hs0 : 0 < size) {H : Type} {enc : TypeId × Value → H} {w : World} {spare : Nat → Bool} {held : Bool} {fuel : Nat} {t e : TypeId} {c : Value} {x : DataW H × List MemPlace}
    (ht : Tryd.prog.underlying t = some (.slice e)) (hc : Tryd.prog.cellsOf e = size)
    (hel : ∀ (fuel : Nat) (cs : List Value) (x : DataW H × List MemPlace), DataW.trod enc Tryd.prog w 0 spare held fuel e cs = some x → ∃ y, cs = en y ∧ fit y)
    (hf : DataW.trod enc Tryd.prog w 0 spare held fuel t [c] = some x) :
    ∃ (A : Option Addr) (l : List α) (cap : Nat), [c] = [.slice A l.length cap] ∧ Lst w en size fit A l cap := by
  rcases open_slice ht hf with ⟨h, _⟩ | ⟨a, len', cap', m, n, D, Pl, h, hb, hl, hm, hmm, hx, hi⟩
  · simp at h
    subst h
    exact ⟨none, [], 0, rfl, Nat.le_refl _, fun _ => ⟨rfl, rfl⟩, by simp, Seg.nil _ _ _ _ _⟩
  · simp at h
    subst h
    have hlen : len' ≤ m := by rw [hmm]; split <;> omega
    rw [hc] at hi
    have h1 : ∀ i, i < len' → ∃ y : α, fit y ∧ ∀ j u, (en y)[j]? = some u → w.cell? (a.add (i * size + j)) = some u := by
      intro i hil
      obtain ⟨cs', hcc, htt⟩ := hi i (by omega)
      obtain ⟨y, rfl, hy⟩ := hel _ _ _ htt
      obtain ⟨_, _, hat⟩ := World.cells?_some hcc
      refine ⟨y, hy, fun j u hu => ?_⟩
      have hj : j < size := by rw [← he y]; exact (List.getElem?_eq_some_iff.1 hu).1
      rw [← add_add, hat j hj, hu]
    obtain ⟨l, hll, hP⟩ := list_of len' h1
    subst hll
    refine ⟨some a, l, cap', rfl, hl, by simp, fun y hy => ?_, fun k y hk => ?_⟩
    · obtain ⟨k, hk, rfl⟩ := List.getElem_of_mem hy
      exact (hP k _ (List.getElem?_eq_getElem hk)).1
    · have hcs := (hP k y hk).2
      have z0 : ∃ u, (en y)[0]? = some u := ⟨_, List.getElem?_eq_getElem (by rw [he]; exact hs0)⟩
      obtain ⟨u0, hu0⟩ := z0
      have hk1 := hcs 0 u0 hu0
      obtain ⟨b, off, spot⟩ := a
      have hs : spot = none := by
        have hk0 : 0 < l.length := by have := (List.getElem?_eq_some_iff.1 hk).1; omega
        obtain ⟨y0, hy0⟩ : ∃ y, l[0]? = some y := ⟨_, List.getElem?_eq_getElem hk0⟩
        obtain ⟨u1, hu1⟩ : ∃ u, (en y0)[0]? = some u := ⟨_, List.getElem?_eq_getElem (by rw [he]; exact hs0)⟩
        have h2 := (hP 0 y0 hy0).2 0 u1 hu1
        simpa [Addr.add] using World.cell?_spot h2
      subst hs
      have norm : ∀ q v, w.cell? ((⟨b, off, none⟩ : Addr).add q) = some v → w.cell? ⟨b, off + q, none⟩ = some v := by
        intro q v h
        unfold Addr.add at h
        split at h
        · rename_i hz; subst hz; simpa using h
        · exact h
      refine ⟨b, off, rfl, block_lt_of_cell (norm _ _ hk1), fun j u hu => ?_⟩
      have := norm _ _ (hcs j u hu)
      simpa [Nat.add_assoc] using this
end Go.Proofs.YtcfjehohemdanaaDoor
