/- The walks of the reference's extreme. -/
import Derived.Test.YthgbdpiihdhfiaaN11
namespace Go.Proofs.Ythgbdpiihdhfiaa
open Go.RowKit Go.Sort

set_option maxHeartbeats 1600000 in
/-- the reference's extreme with the sign 1 -/
theorem least_any (A : Option Addr) (c : Nat) (qs : List Rat) (w : World) (hn : 0 < qs.length) (hl : qs.length ≤ 12) (hq : ∀ q ∈ qs, inR q = true) (hm : Seg w w.heap.size 2 encR A qs) :
    Calls Try.prog 35 #[.slice A qs.length c, .int .i64 (1)] w fun e w' => e = .returned (.int .i64 (minI qs qs.length)) ∧ Below w.heap.size w w' := by
  have HM := Lib.hid (And.intro hm hq)
  obtain ⟨b, off, rfl, hb⟩ := hm.some_ hn
  clear hm hq
  go_enter Try.func35, Try.ntmps35
  go_wp2_with fail
  go_loopw [5, 6] (fun u i wr => ∃ k : Nat, 1 ≤ k ∧ k ≤ qs.length ∧ i = .int .i64 k ∧ u = .int .i64 (minI qs k) ∧ Below w.heap.size w wr) (fun _ i _ => qs.length - (intOf i).toNat)
  case atStart => exact ⟨1, by omega, by omega, rfl, by simp [minI, Rat.lt_irrefl], Below.refl _ _⟩
  case round =>
    obtain ⟨k, hk0, hk, rfl, rfl, hB⟩ := hrel
    have hle0 := hB.size
    by_cases hlt : k < qs.length
    · have hS := HM.out.1.below hB
      have hmk : minI qs k < qs.length := by have := minI_lt qs k hk0; omega
      obtain ⟨b1, off1, e1, _, c0, c1⟩ := segR hS (at0_some hlt)
      obtain ⟨b2, off2, e2, _, c2, c3⟩ := segR hS (at0_some hmk)
      cases e1; cases e2
      have hbl : b < wr.heap.size := by omega
      have i1 := HM.out.2 _ (at0_mem hlt)
      have i2 := HM.out.2 _ (at0_mem hmk)
      have hmin : minI qs (k + 1) = if at0 qs k < at0 qs (minI qs k) then k else minI qs k := rfl
      generalize at0 qs k = x at *
      generalize minI qs k = m at *
      generalize at0 qs m = y at *
      have HC := Lib.hid (fun W => rcmp_any x y W i1 i2)
      clear hS i1 i2
      have k0 : (0 : Int) ≤ (k : Int) := by omega
      have k1 : (k : Int) < (qs.length : Int) := by omega
      have m0 : (0 : Int) ≤ (m : Int) := by omega
      have m1 : (m : Int) < (qs.length : Int) := by omega
      have d1 := cmp_lt0 (q := x) (r := y)
      have d3 := cmp_bd x y
      by_cases g1 : x < y
      all_goals
        simp only [g1, decide_true, decide_false, if_true, if_false] at d1 hmin
        simp only [decide_eq_true_eq, decide_eq_false_iff_not] at d1
        have HMI := Lib.hid hmin
        clear hmin g1
        go_wp2_with fail
        have rg0 := cell_regrown c0
        have rg1 := cell_regrown c1
        have rg2 := cell_regrown c2
        have rg3 := cell_regrown c3
        refine wp_region_qt [0, 1, 2, 3, 4, 5, 6, 7, 8, 9, 10, 11] [] (by kernel_rfl) (by kernel_rfl) (by repeat (first | with_reducible refine panOk_then ?_ | with_reducible refine panOk_block ?_ | exact panOk_body)) ?_
        simp only [opsAt, List.getElem?_toArray, List.getElem?_cons_succ, List.getElem?_cons_zero, Option.toList_some, List.cons_append, List.nil_append]
        repeat (go_big_quiet_step ((go_at_call 36; exact qt_call (fun W' _ => HC.out W') _ _)))
        refine wpQuiet_nil ?_
        intro w2 hw2
        have hb := qt_world hw2
        clear hw2 rg0 rg1 rg2 rg3
        clear c0 c1 c2 c3
        go_wp2
        go_roundw
        case rel => exact ⟨k + 1, by omega, by omega, by go_num, by rw [HMI.out], below_then hB hb⟩
        case measure => simp [intOf]; omega
    · go_wp2
      go_ret
      obtain rfl : k = qs.length := by omega
      exact ⟨rfl, hB⟩

set_option maxHeartbeats 1600000 in
/-- the reference's extreme with the sign -1 -/
theorem greatest_any (A : Option Addr) (c : Nat) (qs : List Rat) (w : World) (hn : 0 < qs.length) (hl : qs.length ≤ 12) (hq : ∀ q ∈ qs, inR q = true) (hm : Seg w w.heap.size 2 encR A qs) :
    Calls Try.prog 35 #[.slice A qs.length c, .int .i64 (-1)] w fun e w' => e = .returned (.int .i64 (maxI qs qs.length)) ∧ Below w.heap.size w w' := by
  have HM := Lib.hid (And.intro hm hq)
  obtain ⟨b, off, rfl, hb⟩ := hm.some_ hn
  clear hm hq
  go_enter Try.func35, Try.ntmps35
  go_wp2_with fail
  go_loopw [5, 6] (fun u i wr => ∃ k : Nat, 1 ≤ k ∧ k ≤ qs.length ∧ i = .int .i64 k ∧ u = .int .i64 (maxI qs k) ∧ Below w.heap.size w wr) (fun _ i _ => qs.length - (intOf i).toNat)
  case atStart => exact ⟨1, by omega, by omega, rfl, by simp [maxI, Rat.lt_irrefl], Below.refl _ _⟩
  case round =>
    obtain ⟨k, hk0, hk, rfl, rfl, hB⟩ := hrel
    have hle0 := hB.size
    by_cases hlt : k < qs.length
    · have hS := HM.out.1.below hB
      have hmk : maxI qs k < qs.length := by have := maxI_lt qs k hk0; omega
      obtain ⟨b1, off1, e1, _, c0, c1⟩ := segR hS (at0_some hlt)
      obtain ⟨b2, off2, e2, _, c2, c3⟩ := segR hS (at0_some hmk)
      cases e1; cases e2
      have hbl : b < wr.heap.size := by omega
      have i1 := HM.out.2 _ (at0_mem hlt)
      have i2 := HM.out.2 _ (at0_mem hmk)
      have hmin : maxI qs (k + 1) = if at0 qs (maxI qs k) < at0 qs k then k else maxI qs k := rfl
      generalize at0 qs k = x at *
      generalize maxI qs k = m at *
      generalize at0 qs m = y at *
      have HC := Lib.hid (fun W => rcmp_any x y W i1 i2)
      clear hS i1 i2
      have k0 : (0 : Int) ≤ (k : Int) := by omega
      have k1 : (k : Int) < (qs.length : Int) := by omega
      have m0 : (0 : Int) ≤ (m : Int) := by omega
      have m1 : (m : Int) < (qs.length : Int) := by omega
      have d1 := cmp_gt0 (q := x) (r := y)
      have d3 := cmp_bd x y
      by_cases g1 : y < x
      all_goals
        simp only [g1, decide_true, decide_false, if_true, if_false] at d1 hmin
        simp only [decide_eq_true_eq, decide_eq_false_iff_not] at d1
        have HMI := Lib.hid hmin
        clear hmin g1
        go_wp2_with fail
        have rg0 := cell_regrown c0
        have rg1 := cell_regrown c1
        have rg2 := cell_regrown c2
        have rg3 := cell_regrown c3
        refine wp_region_qt [0, 1, 2, 3, 4, 5, 6, 7, 8, 9, 10, 11] [] (by kernel_rfl) (by kernel_rfl) (by repeat (first | with_reducible refine panOk_then ?_ | with_reducible refine panOk_block ?_ | exact panOk_body)) ?_
        simp only [opsAt, List.getElem?_toArray, List.getElem?_cons_succ, List.getElem?_cons_zero, Option.toList_some, List.cons_append, List.nil_append]
        repeat (go_big_quiet_step ((go_at_call 36; exact qt_call (fun W' _ => HC.out W') _ _)))
        refine wpQuiet_nil ?_
        intro w2 hw2
        have hb := qt_world hw2
        clear hw2 rg0 rg1 rg2 rg3
        clear c0 c1 c2 c3
        go_wp2
        go_roundw
        case rel => exact ⟨k + 1, by omega, by omega, by go_num, by rw [HMI.out], below_then hB hb⟩
        case measure => simp [intOf]; omega
    · go_wp2
      go_ret
      obtain rfl : k = qs.length := by omega
      exact ⟨rfl, hB⟩
end Go.Proofs.Ythgbdpiihdhfiaa
