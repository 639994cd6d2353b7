/- A set of parties that a law makes for itself: its block, its cells, its size. -/
import Derived.Test.YteoicnhnpailiaaCf1
namespace Go.Proofs.Yteoicnhnpailiaa
open Go.RowKit Go.Sort Go.Maps

/-- a block of bools -/
abbrev Sb (W : World) (b : Nat) (l : List Bool) : Prop := Blk W b 4 (l.map Value.bool).toArray
theorem Sb.at_ {W : World} {b : Nat} {l : List Bool} (h : Sb W b l) {k : Nat} {x : Bool} (hx : l[k]? = some x) : W.cell? ⟨b, k, none⟩ = some (.bool x) := by
  have := h.cell k
  rw [this]; simp [hx]
theorem Sb.seg {W : World} {b : Nat} {l : List Bool} (h : Sb W b l) : Seg W W.heap.size 1 encB (some ⟨b, 0, none⟩) l := seg_of_blk (enc := encB) (size := 1) encB_len l h (by rw [flatB])
theorem Sb.put {W : World} {b : Nat} {l : List Bool} (h : Sb W b l) (k : Nat) (y : Bool) : Sb (W.setCell ⟨b, k, none⟩ (.bool y)) b (l.set k y) := by
  have := h.set_ k (.bool y)
  rw [List.setIfInBounds_toArray, ← List.map_set] at this
  exact this
def bv : Option Value → Bool
  | some (.bool b) => b
  | _ => false
/-- how many of the first twelve cells are true -/
def cntT (W : World) (b : Nat) : Nat := ((List.range 12).map fun (k : Nat) => bv (W.cell? ⟨b, k, none⟩)).count true
theorem cntT_eq {W : World} {b : Nat} {l : List Bool} (h : Sb W b l) : cntT W b = (pad l).count true := by
  unfold cntT pad
  congr 1
  refine List.map_congr_left fun k _ => ?_
  have := h.cell k
  rw [this]
  simp only [List.getElem?_toArray, List.getElem?_map, List.getD_eq_getElem?_getD]
  cases l[k]? <;> rfl
theorem pad_set {l : List Bool} {k : Nat} (hk : k < l.length) (y : Bool) : pad (l.set k y) = (pad l).set k y := by
  refine List.ext_getElem? fun i => ?_
  by_cases hi : i < 12
  · by_cases hik : k = i
    · subst hik
      rw [List.getElem?_set_self (by rw [pad_len]; exact hi)]
      simp [pad, hi, hk]
    · rw [List.getElem?_set_ne hik]
      simp [pad, hi, List.getElem?_set_ne hik]
  · rw [List.getElem?_eq_none (by rw [pad_len]; omega), List.getElem?_eq_none (by rw [List.length_set, pad_len]; omega)]
theorem cnt_set {l : List Bool} {k : Nat} (hl : l.length ≤ 12) (hx : l[k]? = some false) : (pad (l.set k true)).count true = (pad l).count true + 1 := by
  obtain ⟨hk, e⟩ := List.getElem?_eq_some_iff.1 hx
  rw [pad_set hk, List.count_set (by rw [pad_len]; omega)]
  have : (pad l)[k]'(by rw [pad_len]; omega) = false := by simp [pad, hx]
  rw [this]; simp
theorem has_set {l : List Bool} {k : Nat} (hk : k < l.length) (y : Bool) (i : Int) (h0 : 0 ≤ i) : has (l.set k y) i = if i = (k : Int) then y else has l i := by
  obtain ⟨j, rfl⟩ := Int.eq_ofNat_of_zero_le h0
  unfold has
  simp only [Int.toNat_natCast, List.getD_eq_getElem?_getD]
  by_cases hj : j = k
  · subst hj; rw [List.getElem?_set_self hk]; simp
  · rw [List.getElem?_set_ne (by omega), if_neg (by omega)]
/-- make([]bool, n) -/
theorem mk_any (n : Int) (h1 : 1 ≤ n) (h2 : n ≤ 12) (W : World) : (Instr.makeSlice 30 (.int .i64 n) (.int .i64 n)).run Try.prog W = .ok (.slice (some ⟨W.heap.size, 0, none⟩) n.toNat n.toNat) (W.alloc (.cells ((List.replicate n.toNat false).map Value.bool).toArray 4)) := by
  rcases (show n = 1 ∨ n = 2 ∨ n = 3 ∨ n = 4 ∨ n = 5 ∨ n = 6 ∨ n = 7 ∨ n = 8 ∨ n = 9 ∨ n = 10 ∨ n = 11 ∨ n = 12 by omega) with rfl | rfl | rfl | rfl | rfl | rfl | rfl | rfl | rfl | rfl | rfl | rfl <;> kernel_rfl
/-- over at a set of the law's own -/
theorem over_set (p : Pf) (m : Ms) {N : Nat} (hN : p.n = N) (T : List Bool) (hT : T.length = N) (k : Nat) (hk : k < N) (b : Nat) (W : World) (hv : VP p) (hm : Pm W p m) (hs : Sb W b T) :
    Calls Try.prog 15 #[.agg (pfA p m), .int .i64 k, .slice (some ⟨b, 0, none⟩) N N] W fun e w' => e = .returned (.tuple #[.bool (ovr p (pad T) k), .bool (ow p (pad T) k).isSome]) ∧ Below W.heap.size W w' := by
  have := over_any p m (k : Int) T (some ⟨b, 0, none⟩) N W hv hm ⟨by omega, by omega⟩ (by omega) hs.seg
  rwa [hT] at this
/-- closed at a party: no error, and who has to pay too much is in the set -/
def ClAt (p : Pf) (U : List Bool) (i : Nat) : Prop := (ow p (pad U) i).isSome = true ∧ (ovr p (pad U) i = true → U[i]? = some true)
theorem cl_least {p : Pf} (hp : VP p) {N : Nat} (hN : p.n = N) {U : List Bool} (hT : U.length = N) (hc : ∀ i, i < N → ClAt p U i) {K : Nat} {i : Nat} (h : (outD p K)[i]? = some true) : U[i]? = some true := by
  have n12 := hp.n12
  have hl := outD_len hp K
  have hi := (List.getElem?_eq_some_iff.1 h).1
  have h1 := has_of h
  rw [has_outD hp] at h1
  have h2 := Dk_least hp (T := pad U) (fun i h0 h1 => by
    obtain ⟨j, rfl⟩ := Int.eq_ofNat_of_zero_le h0
    exact (hc j (by omega)).1) (fun i h0 h1 ho => by
    obtain ⟨j, rfl⟩ := Int.eq_ofNat_of_zero_le h0
    rw [has_pad (by omega)]
    exact has_of ((hc j (by omega)).2 ho)) K (i : Int) (by omega) (by omega) h1
  rw [has_pad (by omega)] at h2
  have hu : i < U.length := by omega
  rw [has_of (List.getElem?_eq_getElem hu)] at h2
  rw [List.getElem?_eq_getElem hu, h2]
end Go.Proofs.Yteoicnhnpailiaa
