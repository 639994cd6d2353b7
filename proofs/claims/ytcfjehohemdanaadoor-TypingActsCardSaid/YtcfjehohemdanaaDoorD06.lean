/- The walks over a calendar: Valid; a calendar's value and its cells. -/
import Derived.Test.YtcfjehohemdanaaDoorD05
namespace Go.Proofs.YtcfjehohemdanaaDoor
open Go.RowKit Go.Sort

/-- holidays that rise, from above p, up to the last day -/
def asc (p : Int) : List Int → Bool
  | [] => true
  | h :: r => decide (p < h ∧ h ≤ 73048) && asc h r
theorem asc_iff : ∀ {l : List Int} {p : Int}, asc p l = true ↔ (l.Pairwise (· < ·) ∧ ∀ x ∈ l, p < x ∧ x ≤ 73048)
  | [], p => by simp [asc]
  | h :: r, p => by
    rw [asc, Bool.and_eq_true, asc_iff, decide_eq_true_eq, List.pairwise_cons]
    constructor
    · rintro ⟨⟨h1, h2⟩, h3, h4⟩
      refine ⟨⟨fun x hx => (h4 x hx).1, h3⟩, fun x hx => ?_⟩
      rcases List.mem_cons.1 hx with rfl | hx
      · exact ⟨h1, h2⟩
      · have := h4 x hx; omega
    · rintro ⟨⟨h1, h2⟩, h3⟩
      exact ⟨h3 h (by simp), h2, fun x hx => ⟨h1 x hx, (h3 x (by simp [hx])).2⟩⟩
theorem asc_vld (c : Cld) : vldC c = (c.wk.contains false && (decide (c.hs.length ≤ 400) && asc (-1) c.hs)) := by
  unfold vldC
  congr 2
  rw [Bool.eq_iff_iff, asc_iff, Bool.and_eq_true, decide_eq_true_eq, List.all_eq_true]
  simp only [decide_eq_true_eq]
  exact ⟨fun h => ⟨h.1, fun x hx => by have := h.2 x hx; omega⟩, fun h => ⟨h.1, fun x hx => by have := h.2 x hx; omega⟩⟩

theorem drop_cons {α : Type} {l : List α} {k : Nat} {x : α} (h : l[k]? = some x) : l.drop k = x :: l.drop (k + 1) := by
  obtain ⟨hk, rfl⟩ := List.getElem?_eq_some_iff.1 h
  exact List.drop_eq_getElem_cons hk
abbrev encI : Int → List Value := fun x => [.int .i64 x]
/-- the cells of a calendar -/
abbrev calA (b0 b1 b2 b3 b4 b5 b6 : Bool) (s : Value) : Array Value := #[.bool b0, .bool b1, .bool b2, .bool b3, .bool b4, .bool b5, .bool b6, s]
theorem wkcells {X : World} {g : Nat} {b0 b1 b2 b3 b4 b5 b6 : Bool} {s : Value} (h : Blk X g 27 (calA b0 b1 b2 b3 b4 b5 b6 s)) :
    ∀ i x, [b0, b1, b2, b3, b4, b5, b6][i]? = some x → X.cell? ⟨g, i, none⟩ = some (.bool x) := by
  intro i x hx
  rw [h.cell]
  match i, hx with
  | 0, hx => cases hx; rfl
  | 1, hx => cases hx; rfl
  | 2, hx => cases hx; rfl
  | 3, hx => cases hx; rfl
  | 4, hx => cases hx; rfl
  | 5, hx => cases hx; rfl
  | 6, hx => cases hx; rfl
set_option maxHeartbeats 1600000 in
theorem calv_any (b0 b1 b2 b3 b4 b5 b6 : Bool) (A : Option Addr) (hs : List Int) (c : Nat) (w : World) (hl : hs.length < 100000000000000) (hm : Seg w w.heap.size 1 encI A hs) :
    Calls Tryd.prog 16 #[.agg (calA b0 b1 b2 b3 b4 b5 b6 (.slice A hs.length c))] w fun e w' => e = .returned (.bool (vldC ⟨[b0, b1, b2, b3, b4, b5, b6], hs⟩)) ∧ Below w.heap.size w w' := by
  obtain ⟨r, hr⟩ : ∃ r, r = vldC ⟨[b0, b1, b2, b3, b4, b5, b6], hs⟩ := ⟨_, rfl⟩
  rw [← hr]
  rw [asc_vld] at hr
  have HR := Lib.hid hr
  clear hr
  have HM := Lib.hid hm
  clear hm
  go_enter Tryd.func16, Tryd.ntmps16
  go_upto_region 1 with (fail)
  refine name_wp ?_
  intro X hX
  have gX : Blk X w.heap.size 27 (calA b0 b1 b2 b3 b4 b5 b6 (.slice A hs.length c)) := by rw [hX]; exact Blk.new _ _ _
  have hbX : Below w.heap.size w X := by rw [hX]; exact below_alloc (Below.refl _ _) _
  have HS := Lib.hid ((HM.out.keep (w' := X) (bcell hbX).1).more hbX.size)
  have HC := Lib.hid (contains_any w.heap.size [b0, b1, b2, b3, b4, b5, b6] X (by simp) (wkcells gX))
  have c7 : X.cell? ⟨w.heap.size, 7, none⟩ = some (.slice A hs.length c) := gX.cell 7
  clear hX HM gX
  obtain ⟨z, hz⟩ : ∃ z, [b0, b1, b2, b3, b4, b5, b6].contains false = z := ⟨_, rfl⟩
  rw [hz] at HC HR
  clear hz
  cases z
  · have HR' : r = false := by rw [HR.out]; rfl
    subst HR'
    go_wp2_with (go_at_call 35; refine HC.out.mono ?_; rintro e w1 ⟨rfl, rfl⟩)
    go_ret
    exact ⟨by simp, hbX⟩
  · rcases hbb (decide (hs.length ≤ 400)) with h4 | h4
    · rw [h4] at HR
      have h4' := of_decide_eq_true h4
      clear h4
      go_upto_region 4 with (go_at_call 35; refine HC.out.mono ?_; rintro e w1 ⟨rfl, rfl⟩)
      go_wp2
      go_loop [3, 19] (fun a b => ∃ (p : Int) (k : Nat), k ≤ hs.length ∧ a = .int .i64 p ∧ b = .int .i64 k ∧ Hid (asc p (hs.drop k) = r)) (fun _ b => hs.length - (intOf b).toNat)
      case atStart => exact ⟨-1, 0, by omega, rfl, rfl, HR.out.symm⟩
      case round =>
        obtain ⟨p, k, hk, rfl, rfl, hN⟩ := hrel
        by_cases hlt : k < hs.length
        · obtain ⟨x, hx⟩ : ∃ x, hs[k]? = some x := ⟨_, List.getElem?_eq_getElem hlt⟩
          have hasc : r = (decide (p < x ∧ x ≤ 73048) && asc x (hs.drop (k + 1))) := by rw [← hN.out, drop_cons hx]; rfl
          obtain ⟨b, off, rfl, hb, hcell⟩ := HS.out k x hx
          have c0 := hcell 0 _ rfl
          simp only [Nat.mul_one, Nat.add_zero] at c0
          have HA := Lib.hid hasc
          clear hcell hx hasc
          rcases hbb (decide (x ≤ p)) with q | q
          · go_wp2
            go_ret
            have q' := of_decide_eq_true q
            exact ⟨ret_bool (by rw [HA.out, show decide (p < x ∧ x ≤ 73048) = false from decide_eq_false (by omega)]; rfl), hbX⟩
          · rcases hbb (decide (73048 < x)) with q2 | q2
            · go_wp2
              go_ret
              have q' := of_decide_eq_true q2
              exact ⟨ret_bool (by rw [HA.out, show decide (p < x ∧ x ≤ 73048) = false from decide_eq_false (by omega)]; rfl), hbX⟩
            · go_wp2
              go_round
              case rel => exact ⟨x, k + 1, by omega, rfl, by go_num, by rw [HA.out, show decide (p < x ∧ x ≤ 73048) = true from decide_eq_true (by have := of_decide_eq_false q; have := of_decide_eq_false q2; omega)]; rfl⟩
              case measure => simp [intOf]; omega
        · obtain rfl : k = hs.length := by omega
          go_wp2
          go_ret
          exact ⟨ret_bool (by rw [← hN.out, List.drop_length]; rfl), hbX⟩
    · have HR' : r = false := by rw [HR.out, h4]; rfl
      subst HR'
      have h4' := of_decide_eq_false h4
      go_wp2_with (go_at_call 35; refine HC.out.mono ?_; rintro e w1 ⟨rfl, rfl⟩)
      go_ret
      exact ⟨by simp, hbX⟩
end Go.Proofs.YtcfjehohemdanaaDoor
