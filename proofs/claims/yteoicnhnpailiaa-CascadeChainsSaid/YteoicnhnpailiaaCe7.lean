/- A list of amounts copied whole: the source's cells, the empty slice before it. Sets under one another. -/
import Derived.Test.YteoicnhnpailiaaCe6
import Derived.Test.YteoicnhnpailiaaBox
namespace Go.Proofs.Yteoicnhnpailiaa
open Go.RowKit Go.Sort Go.Maps

theorem flat_len {α : Type} {enc : α → List Value} {size : Nat} (he : ∀ x, (enc x).length = size) (l : List α) : (l.flatMap enc).length = l.length * size := by
  induction l with
  | nil => simp
  | cons a l ih => rw [List.flatMap_cons, List.length_append, ih, he, List.length_cons, Nat.succ_mul]; omega
theorem src_seg {α : Type} {enc : α → List Value} {size : Nat} (he : ∀ x, (enc x).length = size) (h0 : 0 < size) {w w' : World} {A : Addr} {l : List α} (h : Seg w w.heap.size size enc (some A) l) (hb : Below w.heap.size w w') : ∀ j u, (l.flatMap enc)[j]? = some u → w'.cell? (A.add j) = some u := by
  intro j u hu
  have hj := (List.getElem?_eq_some_iff.1 hu).1
  rw [flat_len he] at hj
  have hk : j / size < l.length := Nat.div_lt_of_lt_mul (by rw [Nat.mul_comm]; exact hj)
  obtain ⟨x, hx⟩ : ∃ x, l[j / size]? = some x := ⟨_, List.getElem?_eq_getElem hk⟩
  obtain ⟨b, off, e, hl, hc⟩ := h _ x hx
  cases e
  have hr : j % size < size := Nat.mod_lt _ h0
  have e1 : j / size * size + j % size = j := by rw [Nat.mul_comm]; exact Nat.div_add_mod j size
  have e2 := getElem?_flatMap (enc := enc) he l (j / size) (j % size) x hx hr
  rw [e1, hu] at e2
  have h3 := hc (j % size) u e2.symm
  have h4 := (hb.cell (p := ⟨b, off + j / size * size + j % size, none⟩) hl).trans h3
  rw [Nat.add_assoc, e1] at h4
  unfold Addr.add
  split
  · rename_i hz; subst hz; simpa using h4
  · exact h4
theorem oneA (l : List (Int × Int)) : ∀ u ∈ l.flatMap encA, u.oneCell' = true := by
  intro u hu
  obtain ⟨y, _, hy⟩ := List.mem_flatMap.1 hu
  simp [encA] at hy
  rcases hy with rfl | rfl <;> rfl
theorem own0s (w : World) {B : Nat} (hB : B ≤ w.heap.size) (T : TypeId) (size : Nat) : (w.alloc (.cells #[] T)).ownsRow B T size (.slice (some ⟨w.heap.size, 0, none⟩) 0 0) 0 [] :=
  ⟨by simp, .inr ⟨w.heap.size, 0, #[], rfl, hB, heap_alloc_new _ _, Nat.le_refl _, by simp, by simp, by simp⟩⟩
/-- a list that is not empty lies in a block of its own -/
theorem Own.at_ {α : Type} {w : World} {B : Nat} {T : TypeId} {size : Nat} {enc : α → List Value} {v : Value} {xs : List α} (h : Own w B T size enc v xs) (h0 : 0 < xs.length) : ∃ g cap, v = .slice (some ⟨g, 0, none⟩) xs.length cap ∧ B ≤ g ∧ g < w.heap.size := by
  rcases h.2 with ⟨_, hl⟩ | ⟨g, cap, cur, hv, hg, hh, _⟩
  · omega
  · exact ⟨g, cap, hv, hg, (Array.getElem?_eq_some_iff.1 hh).1⟩
/-- one set under another, entry by entry -/
theorem sub_of {p : Pf} (hp : VP p) {N : Nat} (hN : p.n = N) {U V : List Bool} (hU : U.length = N) (hV : V.length = N) (h : ∀ i : Nat, i < N → U[i]? = some true → V[i]? = some true) : sub p.n (pad U) (pad V) := fun i h0 h1 hi => by
  have n12 := hp.n12
  obtain ⟨j, rfl⟩ := Int.eq_ofNat_of_zero_le h0
  rw [has_pad (by omega)] at hi ⊢
  have hj : j < U.length := by omega
  rw [has_of (List.getElem?_eq_getElem hj)] at hi
  exact has_of (h j (by omega) (by rw [List.getElem?_eq_getElem hj, hi]))
/-- the amount of what a party has, with something on top -/
theorem rich_ok {p : Pf} (hp : VP p) {q : Nat} {a : Int × Int} (ha : p.as[q]? = some a) {x : Int} (hx : 0 ≤ x ∧ x ≤ 65535) {r s : Rat} (r2 : r.num = a.1) (r3 : (r.den : Int) = a.2) (s2 : s.num = x) (s3 : (s.den : Int) = 1) (hin : inR (r + s) = true) :
    vld (r + s).num (r + s).den = true ∧ 0 ≤ (r + s).num ∧ asQ p q ≤ Rat.divInt (r + s).num (r + s).den := by
  have hr0 : 0 ≤ r := by rw [← Rat.num_nonneg, r2]; exact (hp.as a (List.mem_of_getElem? ha)).2
  have hs0 : 0 ≤ s := by rw [← Rat.num_nonneg, s2]; exact hx.1
  have e : asQ p q = r := by unfold asQ; rw [ha]; show Rat.divInt a.1 a.2 = r; rw [← r2, ← r3, Rat.num_divInt_den]
  refine ⟨inR_vld hin, Rat.num_nonneg.2 (Rat.add_nonneg hr0 hs0), ?_⟩
  rw [e, Rat.num_divInt_den]
  grind
theorem rat_int (x : Int) (hx : 0 ≤ x ∧ x ≤ 65535) : ∃ s : Rat, inR s = true ∧ s.num = x ∧ (s.den : Int) = 1 := rat_of_vld (by
  have : vld x 1 = true := by
    simp [vld, mag]
    omega
  exact this)
end Go.Proofs.Yteoicnhnpailiaa
