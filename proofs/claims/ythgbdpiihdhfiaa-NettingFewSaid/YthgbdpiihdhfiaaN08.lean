/- The walk of the reference's between. -/
import Derived.Test.YthgbdpiihdhfiaaN05
namespace Go.Proofs.Ythgbdpiihdhfiaa
open Go.RowKit Go.Sort

set_option maxHeartbeats 3200000 in
/-- the reference's between: the debts between two parties -/
theorem between_any (a b : Int) (A : Option Addr) (c : Nat) (l : List Db) (w : World) (hl : l.length ≤ 400) (hm : Seg w w.heap.size 4 encD A l) :
    Calls Try.prog 31 #[.slice A l.length c, .int .i64 a, .int .i64 b] w fun e w' => (∃ v, e = .returned v ∧ Own w' w.heap.size 38 4 encD v (btw a b l)) ∧ Below w.heap.size w w' := by
  obtain ⟨i0, hi, hz0, hz1, hz2⟩ := info_parts infoD
  have HM := Lib.hid hm
  clear hm
  go_enter Try.func31, Try.ntmps31
  go_wp2_with fail
  go_loopw [7, 8] (fun v i wr => ∃ k : Nat, k ≤ l.length ∧ i = .int .i64 k ∧ Own wr w.heap.size 38 4 encD v (btw a b (l.take k)) ∧ Below w.heap.size w wr) (fun _ i _ => l.length - (intOf i).toNat)
  case atStart => exact ⟨0, by omega, rfl, Own.nil .., Below.refl _ _⟩
  case round =>
    obtain ⟨k, hk, rfl, hO, hB⟩ := hrel
    have hle0 := hB.size
    by_cases hlt : k < l.length
    · obtain ⟨x, hx⟩ : ∃ x, l[k]? = some x := ⟨_, List.getElem?_eq_getElem hlt⟩
      obtain ⟨g, off, rfl, hb, c0, c1, c2, c3⟩ := segD (HM.out.below hB) hx
      have hbl : g < wr.heap.size := Nat.lt_of_lt_of_le hb hle0
      have H := btw_take (a := a) (b := b) hx
      have hlen := btw_len a b (l.take k)
      have hlen2 : (btw a b (l.take k)).length ≤ 400 := by rw [List.length_take] at hlen; omega
      clear hx hlen
      generalize btw a b (l.take k) = ys at hO H hlen2
      cases h1 : (x.f == a) <;> cases h2 : (x.t == b) <;> cases h3 : (x.f == b) <;> cases h4 : (x.t == a)
      all_goals
        simp only [h1, h2, h3, h4, Bool.and_true, Bool.and_false, Bool.or_false, Bool.or_true, Bool.false_eq_true, if_true, if_false, List.append_nil] at H
        have HH := Lib.hid H
        clear H
        go_wp2_with (at_builtin; go_loud (refine wpList_app _ rfl (.tmp 49) (.tmp 54) _ rfl w.heap.size 38 i0 _ 4 32 Try.underlying22 hi hz0 hz1 hz2 rfl (by omega) (by omega) encD encD_len encD_one _ ys rfl (hO.alloc _) (by omega) wr.heap.size 1 x rfl (Blk.new _ _ _) (by simp; omega) ?_); intro v4 w4 hO4 hb4 _)
        go_roundw
        case rel => first | exact ⟨k + 1, by omega, by go_num, by rw [HH.out]; exact hO, hB⟩ | exact ⟨k + 1, by omega, by go_num, by rw [HH.out]; exact hO4, (below_alloc hB _).trans hb4⟩
        case measure => simp [intOf]; omega
    · go_wp2
      go_ret
      obtain rfl : k = l.length := by omega
      rw [List.take_length] at hO
      exact ⟨⟨_, rfl, hO⟩, hB⟩
end Go.Proofs.Ythgbdpiihdhfiaa
