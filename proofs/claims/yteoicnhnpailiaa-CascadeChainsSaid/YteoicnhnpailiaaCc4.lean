/- The walks of the reference's helpers: Few, Bools. -/
import Derived.Test.YteoicnhnpailiaaCc3
namespace Go.Proofs.Yteoicnhnpailiaa
open Go.RowKit Go.Sort

/-- the lists of a portfolio are not too long for a machine -/
structure Lp (p : Pf) : Prop where
  l1 : p.as.length < 100000000000000
  l2 : p.du.length < 100000000000000
  l3 : p.la.length < 100000000000000
  l4 : p.gu.length < 100000000000000
  l5 : p.tr.length < 100000000000000
def fewP (p : Pf) (k : Nat) : Bool := decide (p.as.length ≤ 20 ∧ p.du.length ≤ k ∧ p.la.length ≤ k ∧ p.gu.length ≤ k ∧ p.tr.length ≤ k)
set_option maxRecDepth 100000 in
theorem few_any (p : Pf) (m : Ms) (k : Nat) (w : World) (hk : k ≤ 1000) (hl : Lp p) :
    Calls Try.prog 12 #[.agg (pfA p m), .int .i64 k] w fun e w' => e = .returned (.bool (fewP p k)) ∧ Below w.heap.size w w' := by
  obtain ⟨l1, l2, l3, l4, l5⟩ := hl
  obtain ⟨r, hr⟩ : ∃ r, fewP p k = r := ⟨_, rfl⟩
  have HR := Lib.hid hr
  have hc : (20 < p.as.length ∧ r = false) ∨ (p.as.length ≤ 20 ∧ k < p.du.length ∧ r = false) ∨ (p.as.length ≤ 20 ∧ p.du.length ≤ k ∧ k < p.la.length ∧ r = false) ∨ (p.as.length ≤ 20 ∧ p.du.length ≤ k ∧ p.la.length ≤ k ∧ k < p.gu.length ∧ r = false) ∨
      (p.as.length ≤ 20 ∧ p.du.length ≤ k ∧ p.la.length ≤ k ∧ p.gu.length ≤ k ∧ k < p.tr.length ∧ r = false) ∨ (p.as.length ≤ 20 ∧ p.du.length ≤ k ∧ p.la.length ≤ k ∧ p.gu.length ≤ k ∧ p.tr.length ≤ k ∧ r = true) := by
    by_cases h1 : p.as.length ≤ 20
    · by_cases h2 : p.du.length ≤ k
      · by_cases h3 : p.la.length ≤ k
        · by_cases h4 : p.gu.length ≤ k
          · by_cases h5 : p.tr.length ≤ k
            · exact .inr (.inr (.inr (.inr (.inr ⟨h1, h2, h3, h4, h5, by rw [← hr]; exact decide_eq_true ⟨h1, h2, h3, h4, h5⟩⟩))))
            · exact .inr (.inr (.inr (.inr (.inl ⟨h1, h2, h3, h4, by omega, by rw [← hr]; exact decide_eq_false (by omega)⟩))))
          · exact .inr (.inr (.inr (.inl ⟨h1, h2, h3, by omega, by rw [← hr]; exact decide_eq_false (by omega)⟩)))
        · exact .inr (.inr (.inl ⟨h1, h2, by omega, by rw [← hr]; exact decide_eq_false (by omega)⟩))
      · exact .inr (.inl ⟨h1, by omega, by rw [← hr]; exact decide_eq_false (by omega)⟩)
    · exact .inl ⟨by omega, by rw [← hr]; exact decide_eq_false (by omega)⟩
  clear hr
  go_enter Try.func12, Try.ntmps12
  go_upto_region 1 with (fail)
  refine name_wp ?_
  intro X hX
  have gP : Blk X w.heap.size 27 (pfA p m) := by rw [hX]; exact Blk.new _ _ _
  have hbX : Below w.heap.size w X := by rw [hX]; exact wa1 _ _
  obtain ⟨k0, k1, k2, k3, k4, k5⟩ := pfCells gP
  clear hX gP
  rcases hc with ⟨h1, rfl⟩ | ⟨h1, h2, rfl⟩ | ⟨h1, h2, h3, rfl⟩ | ⟨h1, h2, h3, h4, rfl⟩ | ⟨h1, h2, h3, h4, h5, rfl⟩ | ⟨h1, h2, h3, h4, h5, rfl⟩
  all_goals
    go_wp2
    go_ret
    exact ⟨ret_bool (by rw [HR.out] <;> first | rfl | (simp; omega)), hbX⟩
theorem take_eq {α : Type} {l m : List α} {k : Nat} {x y : α} (hl : l[k]? = some x) (hm : m[k]? = some y) (h : l.take k = m.take k) (hxy : x = y) : l.take (k + 1) = m.take (k + 1) := by
  obtain ⟨h1, rfl⟩ := List.getElem?_eq_some_iff.1 hl
  obtain ⟨h2, rfl⟩ := List.getElem?_eq_some_iff.1 hm
  rw [List.take_succ_eq_append_getElem h1, List.take_succ_eq_append_getElem h2, h, hxy]
set_option maxRecDepth 100000 in
set_option maxHeartbeats 1600000 in
theorem bools_any (a b : List Bool) (A B : Option Addr) (c d : Nat) (w : World) (ha : a.length ≤ 1000) (hb : b.length ≤ 1000) (hA : Seg w w.heap.size 1 encB A a) (hB : Seg w w.heap.size 1 encB B b) :
    Calls Try.prog 16 #[.slice A a.length c, .slice B b.length d] w fun e w' => e = .returned (.bool (decide (a = b))) ∧ Below w.heap.size w w' := by
  obtain ⟨r, hr⟩ : ∃ r, decide (a = b) = r := ⟨_, rfl⟩
  have HR := Lib.hid hr
  have HA := Lib.hid hA
  have HB := Lib.hid hB
  clear hr hA hB
  go_enter Try.func16, Try.ntmps16
  by_cases hl : a.length = b.length
  · have hl' : ((a.length : Int) != (b.length : Int)) = false := by simp [hl]
    have HLL := Lib.hid hl
    go_upto_region 4 with (fail)
    go_loopw [5] (fun x wr => ∃ k : Nat, k ≤ a.length ∧ x = .int .i64 k ∧ Hid (a.take k = b.take k) ∧ Below w.heap.size w wr) (fun x _ => 2000 - (intOf x).toNat)
    case atStart => exact ⟨0, by omega, rfl, by simp [Hid], Below.refl _ _⟩
    case round =>
      obtain ⟨k, hk, rfl, hT, hbr⟩ := hrel
      have HBR := Lib.hid hbr
      by_cases hlt : k < a.length
      · obtain ⟨x, hx⟩ : ∃ x, a[k]? = some x := ⟨_, List.getElem?_eq_getElem hlt⟩
        obtain ⟨y, hy⟩ : ∃ y, b[k]? = some y := ⟨_, List.getElem?_eq_getElem (by omega)⟩
        obtain ⟨b1, o1, ea, hb1, c1⟩ := segB (HA.out.below hbr) hx
        obtain ⟨b2, o2, eb, hb2, c2⟩ := segB (HB.out.below hbr) hy
        have hbl1 : b1 < wr.heap.size := Nat.lt_of_lt_of_le hb1 hbr.size
        have hbl2 : b2 < wr.heap.size := Nat.lt_of_lt_of_le hb2 hbr.size
        have hlb : k < b.length := by omega
        have HXX := Lib.hid hx
        have HYY := Lib.hid hy
        rw [ea, eb]
        clear hx hy ea eb hbr hl
        by_cases hxy : x = y
        · have hE := Lib.hid (take_eq HXX.out HYY.out hT.out hxy)
          subst hxy
          go_upto_region 6 with (fail)
          have rg0 := cell_regrown c1
          have rg1 := cell_regrown c2
          refine wp_region_qt [0, 1, 2, 3, 4, 5, 6, 7, 8] [] (by kernel_rfl) (by kernel_rfl) (by repeat (first | with_reducible refine panOk_then ?_ | with_reducible refine panOk_block ?_ | exact panOk_body)) ?_
          simp only [opsAt, List.getElem?_toArray, List.getElem?_cons_succ, List.getElem?_cons_zero, Option.toList_some, List.cons_append, List.nil_append]
          repeat (go_big_quiet_step (fail))
          refine wpQuiet_nil ?_
          intro W2 hw2
          have hbW2 := qt_world hw2
          clear hw2 rg0 rg1
          refine wpList_done ?_
          go_wp2
          go_roundw
          case rel => exact ⟨k + 1, by omega, by go_num, hE.out, HBR.out.trans (hbW2.mono HBR.out.size)⟩
          case measure => simp [intOf]; omega
        · have hE : Hid (decide (a = b) = false) := decide_eq_false fun e => by
            subst e
            exact hxy (Option.some.inj (HXX.out.symm.trans HYY.out))
          obtain rfl : y = !x := by cases x <;> cases y <;> simp_all
          clear hxy
          cases x
          all_goals
            simp only [Bool.not_true, Bool.not_false] at c2
            go_upto_region 6 with (fail)
            have rg0 := cell_regrown c1
            have rg1 := cell_regrown c2
            refine wp_region_qt [0, 1, 2, 3, 4, 5, 6, 7, 8] [] (by kernel_rfl) (by kernel_rfl) (by repeat (first | with_reducible refine panOk_then ?_ | with_reducible refine panOk_block ?_ | exact panOk_body)) ?_
            simp only [opsAt, List.getElem?_toArray, List.getElem?_cons_succ, List.getElem?_cons_zero, Option.toList_some, List.cons_append, List.nil_append]
            repeat (go_big_quiet_step (fail))
            refine wpQuiet_nil ?_
            intro W2 hw2
            have hbW2 := qt_world hw2
            clear hw2 rg0 rg1
            refine wpList_done ?_
            go_wp2
            go_ret
            exact ⟨ret_bool hE.out.symm, HBR.out.trans (hbW2.mono HBR.out.size)⟩
      · have hE : Hid (decide (a = b) = true) := decide_eq_true (by
          have := hT.out
          rwa [List.take_of_length_le (by omega), List.take_of_length_le (by omega)] at this)
        clear hl
        go_wp2
        go_ret
        exact ⟨ret_bool hE.out.symm, HBR.out⟩
  · have hl' : ((a.length : Int) != (b.length : Int)) = true := by simp; omega
    have hE : Hid (decide (a = b) = false) := decide_eq_false fun e => hl (by rw [e])
    clear hl
    go_wp2
    go_ret
    exact ⟨ret_bool hE.out.symm, Below.refl _ _⟩
end Go.Proofs.Yteoicnhnpailiaa
