/- slices.Sort and slices.Compact on a list of numbers of the call's own: the list sorted in place; what is in a compacted list. -/
import Derived.Test.YtcplneglfbdooaaZShm
import Derived.Test.YtcplneglfbdooaaMb7
import Derived.Test.YtcplneglfbdooaaMb8
import Derived.Sort.OwnSortedInts
namespace Go.Proofs.Ytcplneglfbdooaa
open Go.RowKit Go.Sort Go.Lib

theorem flat_eI (zs : List Int) : zs.flatMap eI = zs.map (Value.int .i64) := by
  induction zs with
  | nil => rfl
  | cons z zs ih => rw [List.flatMap_cons, ih]; rfl
theorem sort_own {B cap n : Nat} {A : Option Addr} {w : World} {zs : List Int} (hO : Own w B 3 1 eI (.slice A n cap) zs) (hl : zs.length = n) (hn : n ≤ 1000000) (hB : B ≤ w.heap.size) :
    Calls Try.prog 45 #[.slice A n cap] w fun e w' => e = .returned (.tuple #[]) ∧ Own w' B 3 1 eI (.slice A n cap) (zs.mergeSort fun x y => decide (x ≤ y)) ∧ Below B w w' := by
  subst hl
  rcases hO.2 with ⟨hv, h0⟩ | ⟨g, cap', cur, hv, hg, hh, h1, h2, h3, h4⟩
  · rw [hv]
    have hz : zs = [] := List.eq_nil_of_length_eq_zero h0
    refine (Try.slices_Sort_int_none none 0 w).mono ?_
    rintro e w' ⟨rfl, rfl⟩
    subst hz
    exact ⟨rfl, by simpa using Own.nil _ _ _ _ _, Below.refl _ _⟩
  · injection hv with hA _ hc
    subst hA
    subst hc
    have ht : cur.toList.take zs.length = zs.map (Value.int .i64) := by rw [← flat_eI, ← h4, Nat.mul_one]
    refine (Try.slices_Sort_int g 0 cap zs w (holds_of_blockI hh ht) (Array.getElem?_eq_some_iff.1 hh).1 (by omega)).mono ?_
    rintro e w' ⟨rfl, k, os, rfl⟩
    refine ⟨rfl, ?_, (Below.refl B w).grown (grownBy_sortedI _) hB fun q hq => by injection hq with hq; omega⟩
    have := ownsRow_sortedI (w := w) (n := k) (os := os) (ss := zs) (ts := zs.mergeSort fun x y => decide (x ≤ y)) (List.length_mergeSort _) hg hh h1 h2 h3
    unfold Own
    rw [flat_eI, List.length_mergeSort]
    exact this
theorem mem_compactUpTo (d : Array Int) : ∀ m, m ≤ d.size → ∀ x, x ∈ compactUpTo d m ↔ x ∈ d.toList.take m
  | 0, _, x => by simp [compactUpTo]
  | m + 1, hm, x => by
    rw [compactUpTo_succ, List.mem_append, mem_compactUpTo d m (by omega) x, List.take_add_one, List.mem_append]
    have hd : d[m]! = d[m] := getElem!_pos d m (by omega)
    have hl : d.toList[m]? = some d[m] := by simp [show m < d.size by omega]
    rw [hl, hd]
    by_cases hk : keeps d m = true
    · simp [hk]
    · have hk' : keeps d m = false := by simpa using hk
      simp only [hk']
      have hk2 : m ≠ 0 ∧ d[m]! = d[m - 1]! := by
        unfold keeps at hk'
        have := of_decide_eq_false hk'
        simpa [not_or] using this
      have hd2 : d[m - 1]! = d[m - 1] := getElem!_pos d (m - 1) (by omega)
      have hin : d[m] ∈ d.toList.take m := by
        rw [← hd, hk2.2, hd2]
        refine List.mem_take_iff_getElem.2 ⟨m - 1, by simp; omega, by simp⟩
      constructor
      · rintro (h | h)
        · exact .inl h
        · cases h
      · rintro (h | h)
        · exact .inl h
        · have : x = d[m] := by simpa using h
          rw [this]
          exact .inl hin
theorem mem_compact (zs : List Int) (x : Int) : x ∈ compact zs ↔ x ∈ zs := by
  unfold compact
  rw [mem_compactUpTo _ _ (by simp)]
  simp
theorem compact_own {B cap n : Nat} {A : Option Addr} {w : World} {zs : List Int} (hO : Own w B 3 1 eI (.slice A n cap) zs) (hl : zs.length = n) (hn : n ≤ 1000000) (hB : B ≤ w.heap.size) :
    Calls Try.prog 46 #[.slice A n cap] w fun e w' => (∃ (l : List Int), e = .returned (.slice A l.length cap) ∧ Seg w' w'.heap.size 1 eI A l ∧ (∀ x, x ∈ l ↔ x ∈ zs) ∧ l.length ≤ zs.length) ∧ Below B w w' := by
  subst hl
  by_cases hz : zs.length = 0
  · have hz' : zs = [] := List.eq_nil_of_length_eq_zero hz
    subst hz'
    refine (Try.slices_Compact_int_empty A cap w).mono ?_
    rintro e w' ⟨rfl, rfl⟩
    exact ⟨⟨[], rfl, Seg.nil _ _ _ _ _, by simp, by simp⟩, Below.refl _ _⟩
  rcases hO.2 with ⟨hv, h0⟩ | ⟨g, cap', cur, hv, hg, hh, h1, h2, h3, h4⟩
  · exact absurd h0 hz
  · injection hv with hA _ hc
    subst hA
    subst hc
    have ht : cur.toList.take zs.length = zs.map (Value.int .i64) := by rw [← flat_eI, ← h4, Nat.mul_one]
    refine (Try.slices_Compact_int g 0 cap zs w (holds_of_blockI hh ht) (by omega) h1).mono ?_
    rintro e w' ⟨rfl, q, rfl⟩
    have hlen : (compact zs).length ≤ zs.length := by
      unfold compact compactUpTo
      rw [List.length_map]
      exact Nat.le_trans (List.length_filter_le _ _) (by simp)
    have hG : w.grownBy (grow (putRow (Value.int .i64) (Sort.ahead w q) g 0 (compact zs ++ List.replicate (zs.length - (compact zs).length) 0).toArray) #[]) (some g) := grownBy_sortedI _
    have hO2 := ownsRow_sortedI (w := w) (n := q) (os := #[]) (ss := zs) (ts := compact zs ++ List.replicate (zs.length - (compact zs).length) 0) (by simp; omega) hg hh h1 h2 h3
    have e0 : ∀ W : World, grow W #[] = W := fun W => by simp [grow]
    rw [e0] at hG hO2
    have hO3 : Own (putRow (Value.int .i64) (Sort.ahead w q) g 0 (compact zs ++ List.replicate (zs.length - (compact zs).length) 0).toArray) B 3 1 eI (.slice (some ⟨g, 0, none⟩) zs.length cap) (compact zs ++ List.replicate (zs.length - (compact zs).length) 0) := by
      unfold Own
      rw [flat_eI]
      have : (compact zs ++ List.replicate (zs.length - (compact zs).length) 0).length = zs.length := by simp; omega
      rw [this]
      exact hO2
    refine ⟨⟨compact zs, rfl, fun k x hk => ?_, mem_compact zs, hlen⟩, (Below.refl B w).grown hG hB fun q' hq => by injection hq with hq; omega⟩
    have hk2 := (List.getElem?_eq_some_iff.1 hk).1
    exact (hO3.segA eI_len) k x (by rw [List.getElem?_append_left hk2]; exact hk)
end Go.Proofs.Ytcplneglfbdooaa
