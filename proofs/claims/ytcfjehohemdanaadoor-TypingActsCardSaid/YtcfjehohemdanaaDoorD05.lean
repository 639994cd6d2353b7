/- The walks of the library's functions that package date calls: Index, Contains, BinarySearch. -/
import Derived.Test.YtcfjehohemdanaaDoorD01
import Derived.Deep.Cut
namespace Go.Proofs.YtcfjehohemdanaaDoor
open Go.RowKit Go.Sort

/-- the index of the first false, or -1 -/
def IdxP (wk : List Bool) (e : Ending) : Prop := ∃ r : Int, -1 ≤ r ∧ r ≤ 1000 ∧ e = .returned (.int .i64 r) ∧ decide (0 ≤ r) = wk.contains false
theorem take_contains {wk : List Bool} {k : Nat} {x : Bool} (hx : wk[k]? = some x) : (wk.take (k + 1)).contains false = ((wk.take k).contains false || !x) := by
  obtain ⟨hk, rfl⟩ := List.getElem?_eq_some_iff.1 hx
  rw [List.take_succ_eq_append_getElem hk]
  cases wk[k] <;> simp
theorem idx_any (g : Nat) (wk : List Bool) (w : World) (hl : wk.length ≤ 100) (hc : ∀ i x, wk[i]? = some x → w.cell? ⟨g, i, none⟩ = some (.bool x)) :
    Calls Tryd.prog 47 #[.slice (some ⟨g, 0, none⟩) wk.length wk.length, .bool false] w fun e w' => IdxP wk e ∧ w = w' := by
  have HC := Lib.hid hc
  clear hc
  go_enter Tryd.func47, Tryd.ntmps47
  go_wp2
  go_loop [8] (fun i => ∃ k : Nat, k ≤ wk.length ∧ i = .int .i64 k ∧ Hid ((wk.take k).contains false = false)) (fun i => wk.length - (intOf i).toNat)
  case atStart => exact ⟨0, by omega, rfl, by simp [Hid]⟩
  case round =>
    obtain ⟨k, hk, rfl, hN⟩ := hrel
    by_cases hlt : k < wk.length
    · obtain ⟨x, hx⟩ : ∃ x, wk[k]? = some x := ⟨_, List.getElem?_eq_getElem hlt⟩
      have c0 := HC.out k x hx
      have HT := Lib.hid (take_contains hx)
      have HX := Lib.hid hx
      clear hx
      cases x
      · go_wp2
        go_ret
        refine ⟨⟨k, by omega, by omega, rfl, ?_⟩, rfl⟩
        have : wk.contains false = true := by simpa using List.mem_of_getElem? HX.out
        rw [this]; simp
      · go_wp2
        go_round
        case rel => exact ⟨k + 1, by omega, by go_num, by rw [HT.out, hN.out]; rfl⟩
        case measure => simp [intOf]; omega
    · obtain rfl : k = wk.length := by omega
      go_wp2
      go_ret
      refine ⟨⟨-1, by omega, by omega, rfl, ?_⟩, rfl⟩
      have := hN.out
      rw [List.take_length] at this
      rw [this]; rfl
theorem contains_any (g : Nat) (wk : List Bool) (w : World) (hl : wk.length ≤ 100) (hc : ∀ i x, wk[i]? = some x → w.cell? ⟨g, i, none⟩ = some (.bool x)) :
    Calls Tryd.prog 35 #[.slice (some ⟨g, 0, none⟩) wk.length wk.length, .bool false] w fun e w' => e = .returned (.bool (wk.contains false)) ∧ w = w' := by
  have HI := Lib.hid (idx_any g wk w hl hc)
  clear hc
  go_enter Tryd.func35, Tryd.ntmps35
  go_wp2_with (go_at_call 47; refine HI.out.mono ?_; rintro e w1 ⟨⟨r, r1, r2, rfl, hr⟩, rfl⟩; have HR := Lib.hid hr; clear hr)
  go_ret
  exact ⟨ret_bool HR.out, rfl⟩
theorem hbb (b : Bool) : b = true ∨ b = false := by cases b <;> simp
theorem befN_is {t : Int} : ∀ {zs : List Int} {i : Nat}, i ≤ zs.length → (∀ k x, k < i → zs[k]? = some x → x < t) → (∀ k x, i ≤ k → zs[k]? = some x → t ≤ x) → befN t zs = i
  | [], i, h, _, _ => by simp at h; subst h; rfl
  | z :: zs, 0, _, _, h2 => by
    unfold befN
    rw [List.countP_eq_zero]
    intro x hx
    obtain ⟨k, hk, rfl⟩ := List.getElem_of_mem hx
    have := h2 k _ (by omega) (List.getElem?_eq_getElem hk)
    simp; omega
  | z :: zs, i + 1, h, h1, h2 => by
    have hz := h1 0 z (by omega) rfl
    have ih := befN_is (t := t) (zs := zs) (i := i) (by simpa using h) (fun k x hk hx => h1 (k + 1) x (by omega) (by simpa using hx)) (fun k x hk hx => h2 (k + 1) x (by omega) (by simpa using hx))
    unfold befN at ih ⊢
    rw [List.countP_cons, ih]
    simp [hz]
theorem sorted_lt {zs : List Int} (hp : zs.Pairwise (· < ·)) {i j : Nat} {x y : Int} (hx : zs[i]? = some x) (hy : zs[j]? = some y) (h : i < j) : x < y := by
  obtain ⟨h1, rfl⟩ := List.getElem?_eq_some_iff.1 hx
  obtain ⟨h2, rfl⟩ := List.getElem?_eq_some_iff.1 hy
  exact List.pairwise_iff_getElem.1 hp i j h1 h2 h
theorem tup_ib {a a' : Int} {b b' : Bool} (h1 : a = a') (h2 : b = b') : Ending.returned (.tuple #[.int .i64 a, .bool b]) = .returned (.tuple #[.int .i64 a', .bool b']) := by rw [h1, h2]
end Go.Proofs.YtcfjehohemdanaaDoor
