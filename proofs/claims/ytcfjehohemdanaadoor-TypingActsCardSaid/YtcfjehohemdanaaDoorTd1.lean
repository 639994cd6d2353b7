/- estoppelref10.Faults (two lists of faults compared) and estoppellaw11.without. -/
import Derived.Test.YtcfjehohemdanaaDoorTc8
import Derived.Test.YtcfjehohemdanaaDoorQt
import Derived.Deep.Cut
import Derived.StillTail
namespace Go.Proofs.YtcfjehohemdanaaDoor
open Go.RowKit Go.Sort

theorem segF {w : World} {B : Nat} {A : Option Addr} {l : List (Int × Int)} {k : Nat} {x : Int × Int} (h : Seg w B 2 encF A l) (hx : l[k]? = some x) :
    ∃ b off, A = some ⟨b, off, none⟩ ∧ b < B ∧ w.cell? ⟨b, off + k * 2, none⟩ = some (.int .i64 x.1) ∧ w.cell? ⟨b, off + k * 2 + 1, none⟩ = some (.int .i64 x.2) := by
  obtain ⟨b, off, e, hb, hc⟩ := h k x hx
  exact ⟨b, off, e, hb, hc 0 _ rfl, hc 1 _ rfl⟩
theorem take_eq {α : Type} {a b : List α} {k : Nat} {x y : α} (hx : a[k]? = some x) (hy : b[k]? = some y) (h : a.take k = b.take k) (hxy : x = y) : a.take (k + 1) = b.take (k + 1) := by
  obtain ⟨h1, rfl⟩ := List.getElem?_eq_some_iff.1 hx
  obtain ⟨h2, rfl⟩ := List.getElem?_eq_some_iff.1 hy
  rw [List.take_succ_eq_append_getElem h1, List.take_succ_eq_append_getElem h2, h, hxy]
set_option maxRecDepth 100000 in
set_option maxHeartbeats 1600000 in
theorem faults_any (A B : Option Addr) (c d : Nat) (a b : List (Int × Int)) (w : World) (ha : a.length ≤ 1000000) (hb : b.length ≤ 1000000) (hA : Seg w w.heap.size 2 encF A a) (hB : Seg w w.heap.size 2 encF B b) :
    Calls Tryd.prog 13 #[.slice A a.length c, .slice B b.length d] w fun e w' => e = .returned (.bool (decide (a = b))) ∧ Below w.heap.size w w' := by
  have HA := Lib.hid hA
  have HB := Lib.hid hB
  clear hA hB
  obtain ⟨r, hr⟩ : ∃ r, decide (a = b) = r := ⟨_, rfl⟩
  rw [hr]
  have HR := Lib.hid hr
  clear hr
  by_cases hl : a.length = b.length
  · obtain ⟨n, hn⟩ : ∃ n, a.length = n := ⟨_, rfl⟩
    have hn' : b.length = n := by omega
    rw [hn, hn']
    have HN := Lib.hid (And.intro hn hn')
    rw [hn] at ha
    clear hl hn hn' hb
    go_enter Tryd.func13, Tryd.ntmps13
    go_upto_region 4 with (fail)
    go_loopw [5] (fun x wr => ∃ k : Nat, k ≤ n ∧ x = .int .i64 k ∧ Hid (a.take k = b.take k) ∧ Below w.heap.size w wr) (fun x _ => 2000000 - (intOf x).toNat)
    case atStart => exact ⟨0, by omega, rfl, by unfold Hid; simp, Below.refl _ _⟩
    case round =>
      obtain ⟨k, hk, rfl, hT, hbr⟩ := hrel
      have HBR := Lib.hid hbr
      by_cases hlt : k < n
      · obtain ⟨x, hx⟩ : ∃ x, a[k]? = some x := ⟨_, List.getElem?_eq_getElem (by rw [HN.out.1]; exact hlt)⟩
        obtain ⟨y, hy⟩ : ∃ y, b[k]? = some y := ⟨_, List.getElem?_eq_getElem (by rw [HN.out.2]; exact hlt)⟩
        obtain ⟨b1, o1, ea, hb1, c1, c1'⟩ := segF (HA.out.below hbr) hx
        obtain ⟨b2, o2, eb, hb2, c2, c2'⟩ := segF (HB.out.below hbr) hy
        have hbl1 : b1 < wr.heap.size := Nat.lt_of_lt_of_le hb1 hbr.size
        have hbl2 : b2 < wr.heap.size := Nat.lt_of_lt_of_le hb2 hbr.size
        have HX := Lib.hid (And.intro hx hy)
        rw [ea, eb]
        clear hx hy ea eb hbr
        obtain ⟨x1, x2⟩ := x
        obtain ⟨y1, y2⟩ := y
        by_cases h1 : x1 = y1
        · subst h1
          by_cases h2 : x2 = y2
          · subst h2
            go_upto_region 6 with (fail)
            have rg0 := cell_regrown c1
            have rg1 := cell_regrown c1'
            have rg2 := cell_regrown c2
            have rg3 := cell_regrown c2'
            refine wp_region_qt [0, 1, 2, 3, 4, 5, 6, 7, 8] [] (by kernel_rfl) (by kernel_rfl) (by repeat (first | with_reducible refine panOk_then ?_ | with_reducible refine panOk_block ?_ | exact panOk_body)) ?_
            simp only [opsAt, List.getElem?_toArray, List.getElem?_cons_succ, List.getElem?_cons_zero, Option.toList_some, List.cons_append, List.nil_append]
            repeat (go_big_quiet_step (fail))
            refine wpQuiet_nil ?_
            intro W2 hw2
            have hbW2 := qt_world hw2
            clear hw2 rg0 rg1 rg2 rg3
            go_wp2_with fail
            go_roundw
            case rel => exact ⟨k + 1, by omega, by go_num, take_eq HX.out.1 HX.out.2 hT.out rfl, below_then HBR.out hbW2⟩
            case measure => simp [intOf]; omega
          · have hne : Hid (r = false) := by
              unfold Hid; rw [← HR.out]
              exact decide_eq_false fun h => h2 (by have := HX.out.1; rw [h, HX.out.2] at this; cases this; rfl)
            have h2' : (x2 == y2) = false := by simpa using h2
            go_upto_region 6 with (fail)
            have rg0 := cell_regrown c1
            have rg1 := cell_regrown c1'
            have rg2 := cell_regrown c2
            have rg3 := cell_regrown c2'
            refine wp_region_qt [0, 1, 2, 3, 4, 5, 6, 7, 8] [] (by kernel_rfl) (by kernel_rfl) (by repeat (first | with_reducible refine panOk_then ?_ | with_reducible refine panOk_block ?_ | exact panOk_body)) ?_
            simp only [opsAt, List.getElem?_toArray, List.getElem?_cons_succ, List.getElem?_cons_zero, Option.toList_some, List.cons_append, List.nil_append]
            repeat (go_big_quiet_step (fail))
            refine wpQuiet_nil ?_
            intro W2 hw2
            have hbW2 := qt_world hw2
            clear hw2 rg0 rg1 rg2 rg3
            go_wp2_with fail
            go_ret
            exact ⟨ret_bool hne.out.symm, below_then HBR.out hbW2⟩
        · have hne : Hid (r = false) := by
            unfold Hid; rw [← HR.out]
            exact decide_eq_false fun h => h1 (by have := HX.out.1; rw [h, HX.out.2] at this; cases this; rfl)
          have h1' : (x1 == y1) = false := by simpa using h1
          go_upto_region 6 with (fail)
          have rg0 := cell_regrown c1
          have rg1 := cell_regrown c1'
          have rg2 := cell_regrown c2
          have rg3 := cell_regrown c2'
          refine wp_region_qt [0, 1, 2, 3, 4, 5, 6, 7, 8] [] (by kernel_rfl) (by kernel_rfl) (by repeat (first | with_reducible refine panOk_then ?_ | with_reducible refine panOk_block ?_ | exact panOk_body)) ?_
          simp only [opsAt, List.getElem?_toArray, List.getElem?_cons_succ, List.getElem?_cons_zero, Option.toList_some, List.cons_append, List.nil_append]
          repeat (go_big_quiet_step (fail))
          refine wpQuiet_nil ?_
          intro W2 hw2
          have hbW2 := qt_world hw2
          clear hw2 rg0 rg1 rg2 rg3
          go_wp2_with fail
          go_ret
          exact ⟨ret_bool hne.out.symm, below_then HBR.out hbW2⟩
      · have : a = b := by
          have h := hT.out
          rwa [List.take_of_length_le (by rw [HN.out.1]; omega), List.take_of_length_le (by rw [HN.out.2]; omega)] at h
        have hr : r = true := by rw [← HR.out]; simpa using this
        go_wp2
        go_ret
        exact ⟨ret_bool hr.symm, HBR.out⟩
  · have hne : Hid (r = false) := by
      unfold Hid
      rw [← HR.out]
      exact decide_eq_false fun h => hl (by rw [h])
    have hl' : ((a.length : Int) == (b.length : Int)) = false := by simp; omega
    go_enter Tryd.func13, Tryd.ntmps13
    go_wp2
    go_ret
    exact ⟨ret_bool hne.out.symm, Below.refl _ _⟩
end Go.Proofs.YtcfjehohemdanaaDoor
