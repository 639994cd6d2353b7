/- The walks of package netting and its reference, first part: Valid. -/
import Derived.Test.YteoicnhnpailiaaR04
import Derived.Test.YteoicnhnpailiaaNet
namespace Go.Proofs.Yteoicnhnpailiaa
open Go.RowKit

/-- the cells of a debt -/
def encD (x : Db) : List Value := [.int .i64 x.f, .int .i64 x.t, .int .i64 x.n, .int .i64 x.d]

theorem segD {w : World} {B : Nat} {A : Option Addr} {l : List Db} {k : Nat} {x : Db} (h : Seg w B 4 encD A l) (hx : l[k]? = some x) :
    ∃ b off, A = some ⟨b, off, none⟩ ∧ b < B ∧ w.cell? ⟨b, off + k * 4, none⟩ = some (.int .i64 x.f) ∧ w.cell? ⟨b, off + k * 4 + 1, none⟩ = some (.int .i64 x.t) ∧
      w.cell? ⟨b, off + k * 4 + 2, none⟩ = some (.int .i64 x.n) ∧ w.cell? ⟨b, off + k * 4 + 3, none⟩ = some (.int .i64 x.d) := by
  obtain ⟨b, off, e, hb, hc⟩ := h k x hx
  exact ⟨b, off, e, hb, hc 0 _ rfl, hc 1 _ rfl, hc 2 _ rfl, hc 3 _ rfl⟩

set_option maxHeartbeats 1600000 in
/-- netting.Valid: every number of parties, every list -/
theorem nvalid_any (p : Int) (A : Option Addr) (c : Nat) (l : List Db) (w : World) (hp1 : -9223372036854775808 ≤ p) (hp2 : p ≤ 9223372036854775807) (hl : l.length ≤ 4611686018427387904)
    (hf : ∀ x ∈ l, fitD x) (hm : Seg w w.heap.size 4 encD A l) :
    Calls Try.prog 43 #[.int .i64 p, .slice A l.length c] w fun e w' => e = .returned (.bool (validD p l)) ∧ Below w.heap.size w w' := by
  by_cases h1 : 1 ≤ p ∧ p ≤ 12 ∧ l.length ≤ 400
  · have H1 := Lib.hid h1
    obtain ⟨g1, g2, g3⟩ := h1
    have HM := Lib.hid (And.intro hf hm)
    clear hf hm
    go_enter Try.func43, Try.ntmps43
    go_wp2_with fail
    go_loopw [20] (fun i wr => ∃ k : Nat, k ≤ l.length ∧ i = .int .i64 k ∧ Hid ((l.take k).all (okD p) = true) ∧ Below w.heap.size w wr) (fun i _ => l.length - (intOf i).toNat)
    case atStart => exact ⟨0, by omega, rfl, by simp [Hid], Below.refl _ _⟩
    case round =>
      obtain ⟨k, hk, rfl, hall, hB⟩ := hrel
      by_cases hlt : k < l.length
      · obtain ⟨x, hx⟩ : ∃ x, l[k]? = some x := ⟨_, List.getElem?_eq_getElem hlt⟩
        obtain ⟨b, off, rfl, hb, c0, c1, c2, c3⟩ := segD (HM.out.2.below hB) hx
        have hfit := HM.out.1 x (List.mem_of_getElem? hx)
        obtain ⟨⟨f1, f2⟩, ⟨f3, f4⟩, ⟨f5, f6⟩, ⟨f7, f8⟩⟩ := hfit
        have hbl : b < wr.heap.size := Nat.lt_of_lt_of_le hb hB.size
        have HX := Lib.hid hx
        clear hx
        by_cases hok : okD p x = true
        · have HO := Lib.hid hok
          obtain ⟨⟨a1, a2, a3, a4, a5⟩, a6, a7⟩ := okD_of hok
          have a5' : (x.f == x.t) = false := by simpa using a5
          clear hok a5
          go_wp2_with (go_at_call 32; refine (valid_any _ _ _ (by omega) (by omega) (by omega) (by omega)).mono ?_; rintro e w1 ⟨rfl, hb⟩; obtain ⟨hc, hf⟩ := bcell hb; have hz := hb.size; (try simp at hz); (have zl0 : wr.heap.size < w1.heap.size := by omega); (have ze0 : wr.heap.size ≤ w1.heap.size := by omega))
          go_roundw
          case rel => exact ⟨k + 1, by omega, by go_num, take_all HX.out hall.out HO.out, by (repeat (first | with_reducible assumption | with_reducible refine below_drewN ?_ _ | with_reducible refine Below.drew ?_ | with_reducible refine below_alloc ?_ _ | with_reducible refine Below.setCell ?_ (by first | omega | (simp; done) | (simp; omega)) _ | with_reducible refine below_then ?_ (by with_reducible assumption)))⟩
          case measure => simp [intOf]; omega
        · have HO := Lib.hid (validD_no (p := p) HX.out (by simpa using hok))
          have hc := okD_cases (p := p) (x := x) (by simpa using hok)
          clear hok
          rcases hc with a1 | ⟨a1, a2⟩ | ⟨a1, a2, a3⟩ | ⟨a1, a2, a3, a4⟩ | ⟨a1, a2, a3, a4, a5⟩ | ⟨a1, a2, a3, a4, a5, a6⟩ | ⟨a1, a2, a3, a4, a5, a6, a7⟩
          all_goals
            go_wp2_with (go_at_call 32; refine (valid_any _ _ _ (by omega) (by omega) (by omega) (by omega)).mono ?_; rintro e w1 ⟨rfl, hb⟩; obtain ⟨hc, hf⟩ := bcell hb; have hz := hb.size; (try simp at hz); (have zl0 : wr.heap.size < w1.heap.size := by omega); (have ze0 : wr.heap.size ≤ w1.heap.size := by omega))
            go_ret
            exact ⟨ret_bool HO.out.symm, by (repeat (first | with_reducible assumption | with_reducible refine below_drewN ?_ _ | with_reducible refine Below.drew ?_ | with_reducible refine below_alloc ?_ _ | with_reducible refine Below.setCell ?_ (by first | omega | (simp; done) | (simp; omega)) _ | with_reducible refine below_then ?_ (by with_reducible assumption)))⟩
      · go_wp2
        go_ret
        obtain rfl : k = l.length := by omega
        exact ⟨ret_bool (validD_yes H1.out hall.out).symm, hB⟩
  · have HO := Lib.hid (validD_out h1)
    have hc : p < 1 ∨ (1 ≤ p ∧ 12 < p) ∨ (1 ≤ p ∧ p ≤ 12 ∧ (400 : Int) < l.length) := by omega
    clear h1 hf hm
    rcases hc with a1 | ⟨a1, a2⟩ | ⟨a1, a2, a3⟩
    all_goals
      go_enter Try.func43, Try.ntmps43
      go_wp2
      go_ret
      exact ⟨ret_bool HO.out.symm, Below.refl _ _⟩

end Go.Proofs.Yteoicnhnpailiaa
