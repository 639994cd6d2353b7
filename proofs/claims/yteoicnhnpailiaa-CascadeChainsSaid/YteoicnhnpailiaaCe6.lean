/- Sets that grow party by party, and what they come to; numbers out of a list of bytes. -/
import Derived.Test.YteoicnhnpailiaaCe5
import Derived.Test.YteoicnhnpailiaaOpE
namespace Go.Proofs.Yteoicnhnpailiaa
open Go.RowKit Go.Sort Go.Maps

theorem segU {w : World} {B : Nat} {A : Option Addr} {l : List Int} {k : Nat} {x : Int} (h : Seg w B 1 encU A l) (hx : l[k]? = some x) :
    ∃ b off, A = some ⟨b, off, none⟩ ∧ b < B ∧ w.cell? ⟨b, off + k, none⟩ = some (.int .u8 x) := by
  obtain ⟨b, off, e, hb, hc⟩ := h k x hx
  exact ⟨b, off, e, hb, by simpa using hc 0 _ rfl⟩
theorem pad_app {U : List Bool} (hU : U.length ≤ 12) : pad U = U ++ List.replicate (12 - U.length) false := by
  refine List.ext_getElem? fun i => ?_
  by_cases hi : i < 12
  · by_cases hk : i < U.length
    · rw [List.getElem?_append_left hk]; simp [pad, hi, hk]
    · rw [List.getElem?_append_right (by omega), List.getElem?_replicate, if_pos (by omega)]
      simp [pad, hi, List.getElem?_eq_none (by omega : U.length ≤ i)]
  · rw [List.getElem?_eq_none (by rw [pad_len]; omega), List.getElem?_eq_none (by simp; omega)]
theorem cnt_le {U : List Bool} (hU : U.length ≤ 12) : (pad U).count true ≤ U.length := by
  rw [pad_app hU, List.count_append, List.count_replicate]
  have := List.count_le_length (a := true) (l := U)
  simpa using this
theorem take_pad {U : List Bool} (hU : U.length ≤ 12) : (pad U).take U.length = U := by
  rw [pad_app hU, List.take_left' rfl]
theorem sub_none {n : Int} {N : Nat} (hN : N ≤ 12) (S : List Bool) : sub n (pad (List.replicate N false)) S := fun i h0 _ h => by
  rw [has_pad (by simpa using hN)] at h
  simp only [has, List.getD_eq_getElem?_getD, List.getElem?_replicate] at h
  split at h <;> cases h
theorem sub_set {p : Pf} (hp : VP p) {N K : Nat} (hN : p.n = N) {U : List Bool} (hU : U.length = N) (hK : SpOk p K) (ht : sub p.n (pad U) (Dk p K)) {j : Nat} (hj : j < N) (ho : ovr p (pad U) j = true) : sub p.n (pad (U.set j true)) (Dk p K) := fun i h0 h1 h => by
  have n12 := hp.n12
  rw [has_pad (by rw [List.length_set]; omega), has_set (by omega) _ _ h0] at h
  by_cases hij : i = (j : Int)
  · subst hij; exact grow_law hp hK ht h0 h1 ho
  · rw [if_neg hij] at h
    exact ht i h0 h1 (by rw [has_pad (by omega)]; exact h)
theorem any_eq {p : Pf} (hp : VP p) {N K : Nat} (hN : p.n = N) {U : List Bool} (hU : U.length = N) (hK : SpOk p K) (ht : sub p.n (pad U) (Dk p K)) (hc : ∀ i, i < N → ClAt p U i) : outD p K = U := by
  have n12 := hp.n12
  have e := any_law hp hK (T := pad U) (pad_len _) (fun i hi => by
    rw [has_pad (by omega)]
    simp only [has, List.getD_eq_getElem?_getD]
    rw [List.getElem?_eq_none (by omega)]; rfl) ht (fun i h0 h1 => by
    obtain ⟨j, rfl⟩ := Int.eq_ofNat_of_zero_le h0
    exact (hc j (by omega)).1) (fun i h0 h1 ho => by
    obtain ⟨j, rfl⟩ := Int.eq_ofNat_of_zero_le h0
    rw [has_pad (by omega)]
    exact has_of ((hc j (by omega)).2 ho))
  unfold outD
  rw [← e, show p.n.toNat = U.length by omega, take_pad (by omega)]
theorem tmod_nat {x : Int} {L : Nat} (hx : 0 ≤ x) (hL : 0 < L) : ∃ r : Nat, x.tmod (L : Int) = (r : Int) ∧ r < L := by
  obtain ⟨y, rfl⟩ := Int.eq_ofNat_of_zero_le hx
  exact ⟨y % L, by rw [Int.ofNat_tmod], Nat.mod_lt _ hL⟩
end Go.Proofs.Yteoicnhnpailiaa
