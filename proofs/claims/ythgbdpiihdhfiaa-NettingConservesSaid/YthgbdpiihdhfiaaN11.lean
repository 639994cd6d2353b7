/- The walks of extremes and of the reference's extreme. -/
import Derived.Test.YthgbdpiihdhfiaaN05
import Derived.Test.YthgbdpiihdhfiaaNet3
import Derived.Test.YthgbdpiihdhfiaaQt
namespace Go.Proofs.Ythgbdpiihdhfiaa
open Go.RowKit Go.Sort

theorem segR {w : World} {B : Nat} {A : Option Addr} {l : List Rat} {k : Nat} {x : Rat} (h : Seg w B 2 encR A l) (hx : l[k]? = some x) :
    ∃ b off, A = some ⟨b, off, none⟩ ∧ b < B ∧ w.cell? ⟨b, off + k * 2, none⟩ = some (.int .i64 x.num) ∧ w.cell? ⟨b, off + k * 2 + 1, none⟩ = some (.int .i64 x.den) := by
  obtain ⟨b, off, e, hb, hc⟩ := h k x hx
  exact ⟨b, off, e, hb, hc 0 _ rfl, hc 1 _ rfl⟩
theorem at0_some {qs : List Rat} {k : Nat} (h : k < qs.length) : qs[k]? = some (at0 qs k) := by simp [at0, h]
theorem at0_mem {qs : List Rat} {k : Nat} (h : k < qs.length) : at0 qs k ∈ qs := by rw [at0_lt h]; exact List.getElem_mem h
theorem cmp_lt0 {q r : Rat} : decide (cmpN q r < 0) = decide (q < r) := by
  unfold cmpN
  by_cases h : q < r
  · simp [h]
  · by_cases h2 : r < q <;> simp [h, h2]
theorem cmp_gt0 {q r : Rat} : decide (0 < cmpN q r) = decide (r < q) := by
  unfold cmpN
  by_cases h : q < r
  · have : ¬ r < q := fun h3 => Rat.lt_irrefl (by grind : q < q)
    simp [h, this]
  · by_cases h2 : r < q <;> simp [h, h2]
theorem cmp_bd (q r : Rat) : -1 ≤ cmpN q r ∧ cmpN q r ≤ 1 := by
  unfold cmpN; split
  · omega
  · split <;> omega

set_option maxHeartbeats 1600000 in
/-- netting.extremes -/
theorem extremes_any (A : Option Addr) (c : Nat) (qs : List Rat) (w : World) (hn : 0 < qs.length) (hl : qs.length ≤ 12) (hq : ∀ q ∈ qs, inR q = true) (hm : Seg w w.heap.size 2 encR A qs) :
    Calls Try.prog 33 #[.slice A qs.length c] w fun e w' => e = .returned (.tuple #[.int .i64 (minI qs qs.length), .int .i64 (maxI qs qs.length)]) ∧ Below w.heap.size w w' := by
  have HM := Lib.hid (And.intro hm hq)
  obtain ⟨b, off, rfl, hb⟩ := hm.some_ hn
  clear hm hq
  go_enter Try.func33, Try.ntmps33
  go_wp2_with fail
  go_loopw [4, 5, 10] (fun u v i wr => ∃ k : Nat, k ≤ qs.length ∧ i = .int .i64 k ∧ u = .int .i64 (minI qs k) ∧ v = .int .i64 (maxI qs k) ∧ Below w.heap.size w wr) (fun _ _ i _ => qs.length - (intOf i).toNat)
  case atStart => exact ⟨0, by omega, rfl, rfl, rfl, Below.refl _ _⟩
  case round =>
    obtain ⟨k, hk, rfl, rfl, rfl, hB⟩ := hrel
    have hle0 := hB.size
    by_cases hlt : k < qs.length
    · have hS := HM.out.1.below hB
      have hmk : minI qs k < qs.length := by
        rcases Nat.eq_zero_or_pos k with rfl | h
        · simpa [minI] using hn
        · have := minI_lt qs k h; omega
      have hxk : maxI qs k < qs.length := by
        rcases Nat.eq_zero_or_pos k with rfl | h
        · simpa [maxI] using hn
        · have := maxI_lt qs k h; omega
      obtain ⟨b1, off1, e1, _, c0, c1⟩ := segR hS (at0_some hlt)
      obtain ⟨b2, off2, e2, _, c2, c3⟩ := segR hS (at0_some hmk)
      obtain ⟨b3, off3, e3, _, c4, c5⟩ := segR hS (at0_some hxk)
      cases e1; cases e2; cases e3
      have hbl : b < wr.heap.size := by omega
      have i1 := HM.out.2 _ (at0_mem hlt)
      have i2 := HM.out.2 _ (at0_mem hmk)
      have i3 := HM.out.2 _ (at0_mem hxk)
      have hmin : minI qs (k + 1) = if at0 qs k < at0 qs (minI qs k) then k else minI qs k := rfl
      have hmax : maxI qs (k + 1) = if at0 qs (maxI qs k) < at0 qs k then k else maxI qs k := rfl
      generalize at0 qs k = x at *
      generalize minI qs k = m at *
      generalize maxI qs k = n at *
      generalize at0 qs m = y at *
      generalize at0 qs n = z at *
      have HC := Lib.hid (And.intro (fun W => cmp_any x y W i1 i2) (fun W => cmp_any x z W i1 i3))
      clear hS i1 i2 i3
      have k0 : (0 : Int) ≤ (k : Int) := by omega
      have k1 : (k : Int) < (qs.length : Int) := by omega
      have m0 : (0 : Int) ≤ (m : Int) := by omega
      have m1 : (m : Int) < (qs.length : Int) := by omega
      have n0 : (0 : Int) ≤ (n : Int) := by omega
      have n1 : (n : Int) < (qs.length : Int) := by omega
      obtain ⟨f0, f1, _, _⟩ := (Blk.new wr 34 #[.int .i64 x.num, .int .i64 x.den]).two
      have hWA := wa1 wr (.cells #[.int .i64 x.num, .int .i64 x.den] 34)
      have f2 := (hWA.cell (p := ⟨b, off + m * 2, none⟩) hbl).trans c2
      have f3 := (hWA.cell (p := ⟨b, off + m * 2 + 1, none⟩) hbl).trans c3
      have f4 := (hWA.cell (p := ⟨b, off + n * 2, none⟩) hbl).trans c4
      have f5 := (hWA.cell (p := ⟨b, off + n * 2 + 1, none⟩) hbl).trans c5
      have d1 := cmp_lt0 (q := x) (r := y)
      have d2 := cmp_gt0 (q := x) (r := z)
      have hsz : wr.heap.size < (wr.alloc (.cells #[.int .i64 x.num, .int .i64 x.den] 34)).heap.size := by simp
      have hsz2 : b < (wr.alloc (.cells #[.int .i64 x.num, .int .i64 x.den] 34)).heap.size := by simp; omega
      have HSZ := Lib.hid (And.intro hsz hsz2)
      have HWA := Lib.hid hWA
      clear hsz hsz2 hWA
      by_cases g1 : x < y <;> by_cases g2 : z < x
      all_goals
        simp only [g1, g2, decide_true, decide_false, if_true, if_false] at d1 d2 hmin hmax
        simp only [decide_eq_true_eq, decide_eq_false_iff_not] at d1 d2
        have HMI := Lib.hid (And.intro hmin hmax)
        clear hmin hmax g1 g2
        go_wp2_with fail
        have rg0 := cell_regrown f0
        have rg1 := cell_regrown f1
        have rg2 := cell_regrown f2
        have rg3 := cell_regrown f3
        refine wp_region_qt [0, 1, 2, 3, 4, 5, 6] [] (by kernel_rfl) (by kernel_rfl) (by repeat (first | with_reducible refine panOk_then ?_ | with_reducible refine panOk_block ?_ | exact panOk_body)) ?_
        simp only [opsAt, List.getElem?_toArray, List.getElem?_cons_succ, List.getElem?_cons_zero, Option.toList_some, List.cons_append, List.nil_append]
        repeat (go_big_quiet_step ((go_at_call 24; exact qt_call (fun W' _ => HC.out.1 W') _ _)))
        refine wpQuiet_nil ?_
        intro w2 hw2
        have hb := qt_world hw2
        clear hw2 rg0 rg1 rg2 rg3
        have HB1 := hb
        have r0 := (hb.cell (p := ⟨wr.heap.size, 0, none⟩) HSZ.out.1).trans f0
        have r1 := (hb.cell (p := ⟨wr.heap.size, 1, none⟩) HSZ.out.1).trans f1
        have r2 := (hb.cell (p := ⟨b, off + n * 2, none⟩) HSZ.out.2).trans f4
        have r3 := (hb.cell (p := ⟨b, off + n * 2 + 1, none⟩) HSZ.out.2).trans f5
        clear hb f0 f1 f2 f3 f4 f5
        go_wp2_with fail
        have rg0 := cell_regrown r0
        have rg1 := cell_regrown r1
        have rg2 := cell_regrown r2
        have rg3 := cell_regrown r3
        refine wp_region_qt [0, 1, 2, 3, 4, 5, 6] [] (by kernel_rfl) (by kernel_rfl) (by repeat (first | with_reducible refine panOk_then ?_ | with_reducible refine panOk_block ?_ | exact panOk_body)) ?_
        simp only [opsAt, List.getElem?_toArray, List.getElem?_cons_succ, List.getElem?_cons_zero, Option.toList_some, List.cons_append, List.nil_append]
        repeat (go_big_quiet_step ((go_at_call 24; exact qt_call (fun W' _ => HC.out.2 W') _ _)))
        refine wpQuiet_nil ?_
        intro w2 hw2
        have hb := qt_world hw2
        clear hw2 rg0 rg1 rg2 rg3
        clear r0 r1 r2 r3
        go_wp2
        go_roundw
        case rel => exact ⟨k + 1, by omega, by go_num, by rw [HMI.out.1], by rw [HMI.out.2], below_then (below_then (below_alloc hB _) HB1) hb⟩
        case measure => simp [intOf]; omega
    · go_wp2
      go_ret2
      obtain rfl : k = qs.length := by omega
      exact ⟨rfl, hB⟩
end Go.Proofs.Ythgbdpiihdhfiaa
