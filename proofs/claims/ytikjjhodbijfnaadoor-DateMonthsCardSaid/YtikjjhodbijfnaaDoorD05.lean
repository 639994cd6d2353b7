/- The walks of the library's functions that package date calls: Index, Contains, BinarySearch. -/
import Derived.Test.YtikjjhodbijfnaaDoorD01
import Derived.Deep.Cut
namespace Go.Proofs.YtikjjhodbijfnaaDoor
open Go.RowKit Go.Sort

/-- the index of the first false, or -1 -/
def IdxP (wk : List Bool) (e : Ending) : Prop := ∃ r : Int, -1 ≤ r ∧ r ≤ 1000 ∧ e = .returned (.int .i64 r) ∧ decide (0 ≤ r) = wk.contains false
theorem take_contains {wk : List Bool} {k : Nat} {x : Bool} (hx : wk[k]? = some x) : (wk.take (k + 1)).contains false = ((wk.take k).contains false || !x) := by
  obtain ⟨hk, rfl⟩ := List.getElem?_eq_some_iff.1 hx
  rw [List.take_succ_eq_append_getElem hk]
  cases wk[k] <;> simp
theorem idx_any (g : Nat) (wk : List Bool) (w : World) (hl : wk.length ≤ 100) (hc : ∀ i x, wk[i]? = some x → w.cell? ⟨g, i, none⟩ = some (.bool x)) :
    Calls Tryd.prog 35 #[.slice (some ⟨g, 0, none⟩) wk.length wk.length, .bool false] w fun e w' => IdxP wk e ∧ w = w' := by
  have HC := Lib.hid hc
  clear hc
  go_enter Tryd.func35, Tryd.ntmps35
  go_wp2
  go_loop [8] (fun i => ∃ k : Nat, k ≤ wk.length ∧ i = .int .i64 k ∧ Hid ((wk.take k).contains false = false)) (fun i => wk.length - (intOf i).toNat)
  case atStart => exact ⟨0, by omega, rfl, by simp [Hid]⟩
  case round =>
    obtain ⟨k, hk, rfl, hN⟩ := hrel
    by_cases hlt : k < wk.length
    · obtain ⟨x, hx⟩ : ∃ x, wk[k]? = some x := ⟨_, List.getElem?_eq_getElem hlt⟩
      have c0 := HC.out k x hx
      have HT := Lib.hid (take_contains hx)
      have HX := Lib.hid hx
      clear hx
      cases x
      · go_wp2
        go_ret
        refine ⟨⟨k, by omega, by omega, rfl, ?_⟩, rfl⟩
        have : wk.contains false = true := by simpa using List.mem_of_getElem? HX.out
        rw [this]; simp
      · go_wp2
        go_round
        case rel => exact ⟨k + 1, by omega, by go_num, by rw [HT.out, hN.out]; rfl⟩
        case measure => simp [intOf]; omega
    · obtain rfl : k = wk.length := by omega
      go_wp2
      go_ret
      refine ⟨⟨-1, by omega, by omega, rfl, ?_⟩, rfl⟩
      have := hN.out
      rw [List.take_length] at this
      rw [this]; rfl
theorem contains_any (g : Nat) (wk : List Bool) (w : World) (hl : wk.length ≤ 100) (hc : ∀ i x, wk[i]? = some x → w.cell? ⟨g, i, none⟩ = some (.bool x)) :
    Calls Tryd.prog 28 #[.slice (some ⟨g, 0, none⟩) wk.length wk.length, .bool false] w fun e w' => e = .returned (.bool (wk.contains false)) ∧ w = w' := by
  have HI := Lib.hid (idx_any g wk w hl hc)
  clear hc
  go_enter Tryd.func28, Tryd.ntmps28
  go_wp2_with (go_at_call 35; refine HI.out.mono ?_; rintro e w1 ⟨⟨r, r1, r2, rfl, hr⟩, rfl⟩; have HR := Lib.hid hr; clear hr)
  go_ret
  exact ⟨ret_bool HR.out, rfl⟩
theorem nan_any (x : Int) (w : World) : Calls Tryd.prog 32 #[.int .i64 x] w fun e w' => e = .returned (.bool false) ∧ w = w' := by
  go_enter Tryd.func32, Tryd.ntmps32
  go_wp2
  go_ret
  exact ⟨by simp, rfl⟩
theorem cnan_any (x : Int) (w : World) : Calls Tryd.prog 38 #[.int .i64 x] w fun e w' => e = .returned (.bool false) ∧ w = w' := by
  go_enter Tryd.func38, Tryd.ntmps38
  go_wp2
  go_ret
  exact ⟨by simp, rfl⟩
theorem less_any (x y : Int) (w : World) : Calls Tryd.prog 31 #[.int .i64 x, .int .i64 y] w fun e w' => e = .returned (.bool (decide (x < y))) ∧ w = w' := by
  go_enter Tryd.func31, Tryd.ntmps31
  go_wp2_with (go_at_call 38; refine (cnan_any _ _).mono ?_; rintro e w1 ⟨rfl, rfl⟩)
  go_ret
  exact ⟨rfl, rfl⟩

theorem hbb (b : Bool) : b = true ∨ b = false := by cases b <;> simp
theorem befN_is {t : Int} : ∀ {zs : List Int} {i : Nat}, i ≤ zs.length → (∀ k x, k < i → zs[k]? = some x → x < t) → (∀ k x, i ≤ k → zs[k]? = some x → t ≤ x) → befN t zs = i
  | [], i, h, _, _ => by simp at h; subst h; rfl
  | z :: zs, 0, _, _, h2 => by
    unfold befN
    rw [List.countP_eq_zero]
    intro x hx
    obtain ⟨k, hk, rfl⟩ := List.getElem_of_mem hx
    have := h2 k _ (by omega) (List.getElem?_eq_getElem hk)
    simp; omega
  | z :: zs, i + 1, h, h1, h2 => by
    have hz := h1 0 z (by omega) rfl
    have ih := befN_is (t := t) (zs := zs) (i := i) (by simpa using h) (fun k x hk hx => h1 (k + 1) x (by omega) (by simpa using hx)) (fun k x hk hx => h2 (k + 1) x (by omega) (by simpa using hx))
    unfold befN at ih ⊢
    rw [List.countP_cons, ih]
    simp [hz]
theorem sorted_lt {zs : List Int} (hp : zs.Pairwise (· < ·)) {i j : Nat} {x y : Int} (hx : zs[i]? = some x) (hy : zs[j]? = some y) (h : i < j) : x < y := by
  obtain ⟨h1, rfl⟩ := List.getElem?_eq_some_iff.1 hx
  obtain ⟨h2, rfl⟩ := List.getElem?_eq_some_iff.1 hy
  exact List.pairwise_iff_getElem.1 hp i j h1 h2 h
theorem tup_ib {a a' : Int} {b b' : Bool} (h1 : a = a') (h2 : b = b') : Ending.returned (.tuple #[.int .i64 a, .bool b]) = .returned (.tuple #[.int .i64 a', .bool b']) := by rw [h1, h2]
set_option maxHeartbeats 1600000 in
theorem bs_any (A : Option Addr) (zs : List Int) (c : Nat) (t : Int) (w : World) (hl : zs.length ≤ 1000) (hp : zs.Pairwise (· < ·)) (hm : Seg w w.heap.size 1 (fun x : Int => [Value.int .i64 x]) A zs) :
    Calls Tryd.prog 25 #[.slice A zs.length c, .int .i64 t] w fun e w' => e = .returned (.tuple #[.int .i64 (befN t zs), .bool (zs.contains t)]) ∧ w = w' := by
  have HM := Lib.hid hm
  have HP := Lib.hid hp
  clear hm hp
  go_enter Tryd.func25, Tryd.ntmps25
  go_wp2
  go_loop [7, 8] (fun a b => ∃ i j : Nat, i ≤ j ∧ j ≤ zs.length ∧ a = .int .i64 i ∧ b = .int .i64 j ∧ Hid ((∀ k x, k < i → zs[k]? = some x → x < t) ∧ (∀ k x, j ≤ k → zs[k]? = some x → t ≤ x))) (fun a b => (intOf b).toNat - (intOf a).toNat)
  case atStart => exact ⟨0, zs.length, by omega, by omega, rfl, rfl, ⟨fun k x hk _ => by omega, fun k x hk hx => by have := (List.getElem?_eq_some_iff.1 hx).1; omega⟩⟩
  case round =>
    obtain ⟨i, j, hij, hj, rfl, rfl, hN⟩ := hrel
    by_cases hlt : i < j
    · obtain ⟨h, hh⟩ : ∃ h : Nat, h = (i + j) / 2 := ⟨_, rfl⟩
      have q1 : i ≤ h := by omega
      have q2 : h < j := by omega
      have HE := Lib.hid (show ((i : Int) + (j : Int)) / 2 = (h : Int) by omega)
      clear hh
      obtain ⟨x, hx⟩ : ∃ x, zs[h]? = some x := ⟨_, List.getElem?_eq_getElem (by omega)⟩
      obtain ⟨b, off, rfl, hb, hcell⟩ := HM.out h x hx
      have c0 := hcell 0 _ rfl
      simp only [Nat.mul_one, Nat.add_zero] at c0
      have HX := Lib.hid hx
      have HC := Lib.hid hcell
      clear hx hcell
      go_upto_region 5 with (fail)
      rw [HE.out]
      rcases hbb (decide (x < t)) with ht | ht
      · go_wp2_with (go_at_call 31; refine (less_any _ _ _).mono ?_; rintro e w1 ⟨rfl, rfl⟩)
        go_round
        case rel =>
          refine ⟨h + 1, j, by omega, hj, by go_num, rfl, fun k y hk hy => ?_, hN.out.2⟩
          rcases Nat.lt_or_ge k h with q | q
          · have := sorted_lt HP.out hy HX.out q
            have := of_decide_eq_true ht
            omega
          · obtain rfl : k = h := by omega
            have := HX.out.symm.trans hy
            cases this
            exact of_decide_eq_true ht
        case measure => simp [intOf]; omega
      · go_wp2_with (go_at_call 31; refine (less_any _ _ _).mono ?_; rintro e w1 ⟨rfl, rfl⟩)
        go_round
        case rel =>
          refine ⟨i, h, by omega, by omega, rfl, rfl, hN.out.1, fun k y hk hy => ?_⟩
          have hx' := of_decide_eq_false ht
          rcases Nat.lt_or_ge h k with q | q
          · have := sorted_lt HP.out HX.out hy q
            omega
          · obtain rfl : k = h := by omega
            have := HX.out.symm.trans hy
            cases this
            omega
        case measure => simp [intOf]; omega
    · obtain rfl : i = j := by omega
      have hB := befN_is hj hN.out.1 hN.out.2
      by_cases hlt2 : i < zs.length
      · obtain ⟨x, hx⟩ : ∃ x, zs[i]? = some x := ⟨_, List.getElem?_eq_getElem (by omega)⟩
        obtain ⟨b, off, rfl, hb, hcell⟩ := HM.out i x hx
        have c0 := hcell 0 _ rfl
        simp only [Nat.mul_one, Nat.add_zero] at c0
        have HX := Lib.hid hx
        have HB := Lib.hid hB
        have HN := Lib.hid hN
        clear hx hcell hB
        rcases hbb (x == t) with ht | ht
        · go_wp2_with (go_at_call 32; refine (nan_any _ _).mono ?_; rintro e w1 ⟨rfl, rfl⟩)
          go_ret2
          refine ⟨?_, rfl⟩
          exact tup_ib (by rw [HB.out]) (by rw [eq_of_beq ht] at HX; exact (decide_eq_true (List.mem_of_getElem? HX.out)).symm)
        · go_wp2_with (go_at_call 32; refine (nan_any _ _).mono ?_; rintro e w1 ⟨rfl, rfl⟩)
          go_ret2
          have hno : t ∉ zs := fun hm => by
            obtain ⟨k, hk⟩ := List.getElem?_of_mem hm
            have hx' := HX.out
            rcases Nat.lt_trichotomy k i with q | q | q
            · have := HN.out.out.1 k t q hk; omega
            · subst q; rw [hk] at hx'; cases hx'; simp at ht
            · have h1 := sorted_lt HP.out hx' hk q
              have h2 := HN.out.out.2 i x (by omega) hx'
              omega
          exact ⟨tup_ib (by rw [HB.out]) (by first | exact (decide_eq_false hno).symm | (simp; exact hno)), rfl⟩
      · have HB := Lib.hid hB
        have HN := Lib.hid hN.out
        clear hB hN
        go_wp2
        go_ret2
        have hno : t ∉ zs := fun hm => by
          obtain ⟨k, hk⟩ := List.getElem?_of_mem hm
          have hl := (List.getElem?_eq_some_iff.1 hk).1
          have := HN.out.1 k t (by omega) hk
          omega
        exact ⟨tup_ib (by rw [HB.out]) (by first | exact (decide_eq_false hno).symm | (simp; exact hno)), rfl⟩
end Go.Proofs.YtikjjhodbijfnaaDoor
