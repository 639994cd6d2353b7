/- Contracts of functions and plain laws, joined: Krc, Kra, Krd. -/
import Derived.Test.YtplommmegkdhdaaGreatDoorMb19
import Derived.Test.YtplommmegkdhdaaGreatDoorMb11
/- The walk of estoppelref24.SameClauses. -/
namespace Go.Proofs.YtplommmegkdhdaaGreatDoor
open Go.RowKit

set_option maxRecDepth 100000 in
set_option maxHeartbeats 3200000 in
theorem rclauses_any (A1 A2 : Option Addr) (c1 c2 : Nat) (k1 k2 : List Km) (w : World) (h1 : Seg w w.heap.size 16 eK A1 k1) (h2 : Seg w w.heap.size 16 eK A2 k2) (t1 : ∀ x ∈ k1, KOk w x) (t2 : ∀ x ∈ k2, KOk w x) (n1 : k1.length ≤ 1000000) :
    Calls Tryz.prog 30 #[.slice A1 k1.length c1, .slice A2 k2.length c2] w fun e w' => e = .returned (.bool (decide (k1.map (·.k) = k2.map (·.k)))) ∧ Below w.heap.size w w' := by
  have H1 := Lib.hid h1
  have H2 := Lib.hid h2
  have T1 := Lib.hid t1
  have T2 := Lib.hid t2
  obtain ⟨R, hR⟩ : ∃ R, decide (k1.map (·.k) = k2.map (·.k)) = R := ⟨_, rfl⟩
  rw [hR]
  have HR := Lib.hid hR
  clear hR h1 h2 t1 t2
  by_cases hl : k1.length = k2.length
  · have tl : ((k1.length : Int) != (k2.length : Int)) = false := by simp [hl]
    have HL := Lib.hid hl
    clear hl
    go_enter Tryz.func30, Tryz.ntmps30
    go_upto_region 4 with (fail)
    go_loopw [5] (fun y WR => ∃ (i : Nat), i ≤ k1.length ∧ y = .int .i64 i ∧ Hid (∀ j, j < i → (k1.map (·.k))[j]? = (k2.map (·.k))[j]?) ∧ Hid (Below w.heap.size w WR)) (fun y _ => 2000000 - (intOf y).toNat)
    case atStart => exact ⟨0, by omega, rfl, fun j hj => by omega, Below.refl _ _⟩
    case round =>
      obtain ⟨i, hi', rfl, hpre, hB⟩ := hrel
      by_cases hlt : i < k1.length
      · have tn : decide ((i : Int) < (k1.length : Int)) = true := decide_eq_true (by omega)
        have hl2 : i < k2.length := by rw [← HL.out]; exact hlt
        obtain ⟨x, hx⟩ : ∃ x, k1[i]? = some x := ⟨_, List.getElem?_eq_getElem hlt⟩
        obtain ⟨y, hy⟩ : ∃ y, k2[i]? = some y := ⟨_, List.getElem?_eq_getElem hl2⟩
        obtain ⟨b1, o1, e1, hb1, hc1⟩ := segAt (H1.out.below hB.out) hx
        obtain ⟨b2, o2, e2, hb2, hc2⟩ := segAt (H2.out.below hB.out) hy
        have rx : Hid (wr.rangeAt b1 (o1 + i * 16) (kL x)) := fun j v hv => hc1 j v hv
        have ry : Hid (wr.rangeAt b2 (o2 + i * 16) (kL y)) := fun j v hv => hc2 j v hv
        have lw := hB.out.size
        have l1 : b1 < wr.heap.size := by omega
        have l2 : b2 < wr.heap.size := by omega
        have hix := fun W => idx_at (t := 25) (size := 16) (cap := c1) (len := k1.length) e1 hlt (by kernel_rfl) (fun W => by kernel_rfl) W
        have hiy := fun W => idx_at (t := 25) (size := 16) (cap := c2) (len := k2.length) e2 hl2 (by kernel_rfl) (fun W => by kernel_rfl) W
        have HX := Lib.hid hx
        have HY := Lib.hid hy
        have HC := Lib.hid (fun W (hb : Below wr.heap.size wr W) => rsame_any x y W ((T1.out x (List.mem_of_getElem? hx)).then_ (below_then hB.out hb)) ((T2.out y (List.mem_of_getElem? hy)).then_ (below_then hB.out hb)))
        have hwr := wrap_small (n := i) (by omega)
        clear hc1 hc2 hx hy e1 e2 lw
        by_cases he : x.k = y.k
        · have hd : decide (x.k = y.k) = true := decide_eq_true he
          rw [hd] at HC
          have hp2 : Hid (∀ j, j < i + 1 → (k1.map (·.k))[j]? = (k2.map (·.k))[j]?) := by
            intro j hj
            by_cases q : j = i
            · rw [q, List.getElem?_map, List.getElem?_map, HX.out, HY.out]; simp [he]
            · exact hpre.out j (by omega)
          clear hd he hpre
          go_upto_region 6 with (fail)
          refine wp_region_hb (fun w' => Below wr.heap.size wr w') [0, 1, 2, 3, 4, 5, 6, 7] [8, 9] (by kernel_rfl) (by kernel_rfl) (by repeat (first | with_reducible refine panOk_then ?_ | with_reducible refine panOk_block ?_ | exact panOk_body)) (Below.drew (Below.refl _ _)) (fun hdir hsel hpan hHeld => ?_)
          refine wpHB_take (i := 0) (oi := ⟨some 17, _, _, _, _, _⟩) (v := .slice A1 k1.length c1) hdir hsel hpan rfl (by kernel_rfl) (by kernel_rfl) (by kernel_rfl) (Or.inl ⟨by rfl, fun w hw => by rfl⟩) (by assumption) ?_
          try simp only [Act.put, List.setIfInBounds_toArray, List.set_cons_zero, List.set_cons_succ]
          refine wpHB_take (i := 1) (oi := ⟨some 18, _, _, _, _, _⟩) (v := .int .i64 i) hdir hsel hpan rfl (by kernel_rfl) (by kernel_rfl) (by kernel_rfl) (Or.inl ⟨by rfl, fun w hw => by rfl⟩) (by assumption) ?_
          try simp only [Act.put, List.setIfInBounds_toArray, List.set_cons_zero, List.set_cons_succ]
          refine wpHB_take (i := 2) (oi := ⟨some 19, _, _, _, _, _⟩) (v := .pointer (some ⟨b1, o1 + i * 16, none⟩)) hdir hsel hpan rfl (by kernel_rfl) (by kernel_rfl) (by kernel_rfl) (Or.inl ⟨by rfl, fun w hw => by have h := hix w; go_simp⟩) (by assumption) ?_
          try simp only [Act.put, List.setIfInBounds_toArray, List.set_cons_zero, List.set_cons_succ]
          refine wpHB_take (i := 3) (oi := ⟨some 20, _, _, _, _, _⟩) hdir hsel hpan rfl (by kernel_rfl) (by kernel_rfl) (by kernel_rfl) (yieldsIf_load_mid (by rfl) 32 _ rfl b1 _ rfl (kL x) _ (fun w hw => (fun j v hv => (hw.cell (p := ⟨b1, _, none⟩) l1).trans (rx.out j v hv))) Tryz.underlying32 rfl (by kernel_rfl)) (by assumption) ?_
          try simp only [Act.put, List.setIfInBounds_toArray, List.set_cons_zero, List.set_cons_succ]
          refine wpHB_take (i := 4) (oi := ⟨some 21, _, _, _, _, _⟩) (v := .slice A2 k2.length c2) hdir hsel hpan rfl (by kernel_rfl) (by kernel_rfl) (by kernel_rfl) (Or.inl ⟨by rfl, fun w hw => by rfl⟩) (by assumption) ?_
          try simp only [Act.put, List.setIfInBounds_toArray, List.set_cons_zero, List.set_cons_succ]
          refine wpHB_take (i := 5) (oi := ⟨some 22, _, _, _, _, _⟩) (v := .int .i64 i) hdir hsel hpan rfl (by kernel_rfl) (by kernel_rfl) (by kernel_rfl) (Or.inl ⟨by rfl, fun w hw => by rfl⟩) (by assumption) ?_
          try simp only [Act.put, List.setIfInBounds_toArray, List.set_cons_zero, List.set_cons_succ]
          refine wpHB_take (i := 6) (oi := ⟨some 23, _, _, _, _, _⟩) (v := .pointer (some ⟨b2, o2 + i * 16, none⟩)) hdir hsel hpan rfl (by kernel_rfl) (by kernel_rfl) (by kernel_rfl) (Or.inl ⟨by rfl, fun w hw => by have h := hiy w; go_simp⟩) (by assumption) ?_
          try simp only [Act.put, List.setIfInBounds_toArray, List.set_cons_zero, List.set_cons_succ]
          refine wpHB_take (i := 7) (oi := ⟨some 24, _, _, _, _, _⟩) hdir hsel hpan rfl (by kernel_rfl) (by kernel_rfl) (by kernel_rfl) (yieldsIf_load_mid (by rfl) 32 _ rfl b2 _ rfl (kL y) _ (fun w hw => (fun j v hv => (hw.cell (p := ⟨b2, _, none⟩) l2).trans (ry.out j v hv))) Tryz.underlying32 rfl (by kernel_rfl)) (by assumption) ?_
          try simp only [Act.put, List.setIfInBounds_toArray, List.set_cons_zero, List.set_cons_succ]
          refine wpHB_tail (by kernel_rfl) (by kernel_rfl) ?_
          clear hdir hsel hpan
          simp only [opsAt, List.getElem?_toArray, List.getElem?_cons_succ, List.getElem?_cons_zero, Option.toList_some, List.cons_append, List.nil_append]
          clear hix hiy
          go_wp2_with (go_at_call 14; (with_reducible refine (HC.out _ hHeld).mono ?_); rintro e w1 ⟨rfl, hb1⟩)
          go_roundw
          case rel => exact ⟨i + 1, by omega, by simp, hp2, below_then hB.out (below_then hHeld hb1)⟩
          case measure => simp [intOf]; omega
        · have hd : decide (x.k = y.k) = false := decide_eq_false he
          rw [hd] at HC
          have hf : Hid (R = false) := by
            unfold Hid
            rw [← HR.out]
            refine decide_eq_false fun h => he ?_
            have h3 := congrArg (fun l => l[i]?) h
            simp only [List.getElem?_map, HX.out, HY.out, Option.map_some, Option.some.injEq] at h3
            exact h3
          clear hd he hpre
          go_upto_region 6 with (fail)
          refine wp_region_hb (fun w' => Below wr.heap.size wr w') [0, 1, 2, 3, 4, 5, 6, 7] [8, 9] (by kernel_rfl) (by kernel_rfl) (by repeat (first | with_reducible refine panOk_then ?_ | with_reducible refine panOk_block ?_ | exact panOk_body)) (Below.drew (Below.refl _ _)) (fun hdir hsel hpan hHeld => ?_)
          refine wpHB_take (i := 0) (oi := ⟨some 17, _, _, _, _, _⟩) (v := .slice A1 k1.length c1) hdir hsel hpan rfl (by kernel_rfl) (by kernel_rfl) (by kernel_rfl) (Or.inl ⟨by rfl, fun w hw => by rfl⟩) (by assumption) ?_
          try simp only [Act.put, List.setIfInBounds_toArray, List.set_cons_zero, List.set_cons_succ]
          refine wpHB_take (i := 1) (oi := ⟨some 18, _, _, _, _, _⟩) (v := .int .i64 i) hdir hsel hpan rfl (by kernel_rfl) (by kernel_rfl) (by kernel_rfl) (Or.inl ⟨by rfl, fun w hw => by rfl⟩) (by assumption) ?_
          try simp only [Act.put, List.setIfInBounds_toArray, List.set_cons_zero, List.set_cons_succ]
          refine wpHB_take (i := 2) (oi := ⟨some 19, _, _, _, _, _⟩) (v := .pointer (some ⟨b1, o1 + i * 16, none⟩)) hdir hsel hpan rfl (by kernel_rfl) (by kernel_rfl) (by kernel_rfl) (Or.inl ⟨by rfl, fun w hw => by have h := hix w; go_simp⟩) (by assumption) ?_
          try simp only [Act.put, List.setIfInBounds_toArray, List.set_cons_zero, List.set_cons_succ]
          refine wpHB_take (i := 3) (oi := ⟨some 20, _, _, _, _, _⟩) hdir hsel hpan rfl (by kernel_rfl) (by kernel_rfl) (by kernel_rfl) (yieldsIf_load_mid (by rfl) 32 _ rfl b1 _ rfl (kL x) _ (fun w hw => (fun j v hv => (hw.cell (p := ⟨b1, _, none⟩) l1).trans (rx.out j v hv))) Tryz.underlying32 rfl (by kernel_rfl)) (by assumption) ?_
          try simp only [Act.put, List.setIfInBounds_toArray, List.set_cons_zero, List.set_cons_succ]
          refine wpHB_take (i := 4) (oi := ⟨some 21, _, _, _, _, _⟩) (v := .slice A2 k2.length c2) hdir hsel hpan rfl (by kernel_rfl) (by kernel_rfl) (by kernel_rfl) (Or.inl ⟨by rfl, fun w hw => by rfl⟩) (by assumption) ?_
          try simp only [Act.put, List.setIfInBounds_toArray, List.set_cons_zero, List.set_cons_succ]
          refine wpHB_take (i := 5) (oi := ⟨some 22, _, _, _, _, _⟩) (v := .int .i64 i) hdir hsel hpan rfl (by kernel_rfl) (by kernel_rfl) (by kernel_rfl) (Or.inl ⟨by rfl, fun w hw => by rfl⟩) (by assumption) ?_
          try simp only [Act.put, List.setIfInBounds_toArray, List.set_cons_zero, List.set_cons_succ]
          refine wpHB_take (i := 6) (oi := ⟨some 23, _, _, _, _, _⟩) (v := .pointer (some ⟨b2, o2 + i * 16, none⟩)) hdir hsel hpan rfl (by kernel_rfl) (by kernel_rfl) (by kernel_rfl) (Or.inl ⟨by rfl, fun w hw => by have h := hiy w; go_simp⟩) (by assumption) ?_
          try simp only [Act.put, List.setIfInBounds_toArray, List.set_cons_zero, List.set_cons_succ]
          refine wpHB_take (i := 7) (oi := ⟨some 24, _, _, _, _, _⟩) hdir hsel hpan rfl (by kernel_rfl) (by kernel_rfl) (by kernel_rfl) (yieldsIf_load_mid (by rfl) 32 _ rfl b2 _ rfl (kL y) _ (fun w hw => (fun j v hv => (hw.cell (p := ⟨b2, _, none⟩) l2).trans (ry.out j v hv))) Tryz.underlying32 rfl (by kernel_rfl)) (by assumption) ?_
          try simp only [Act.put, List.setIfInBounds_toArray, List.set_cons_zero, List.set_cons_succ]
          refine wpHB_tail (by kernel_rfl) (by kernel_rfl) ?_
          clear hdir hsel hpan
          simp only [opsAt, List.getElem?_toArray, List.getElem?_cons_succ, List.getElem?_cons_zero, Option.toList_some, List.cons_append, List.nil_append]
          clear hix hiy
          go_wp2_with (go_at_call 14; (with_reducible refine (HC.out _ hHeld).mono ?_); rintro e w1 ⟨rfl, hb1⟩)
          go_ret
          exact ⟨ret_bool hf.out.symm, below_then hB.out (below_then hHeld hb1)⟩
      · have tn : decide ((i : Int) < (k1.length : Int)) = false := decide_eq_false (by omega)
        have hf : Hid (R = true) := by
          unfold Hid
          rw [← HR.out]
          refine decide_eq_true (List.ext_getElem? fun j => ?_)
          by_cases hj : j < i
          · exact hpre.out j hj
          · rw [List.getElem?_eq_none (by rw [List.length_map]; omega), List.getElem?_eq_none (by rw [List.length_map]; have := HL.out; omega)]
        go_wp2
        go_ret
        exact ⟨ret_bool hf.out.symm, hB.out⟩
  · have tl : ((k1.length : Int) != (k2.length : Int)) = true := by simp; omega
    have hf : Hid (R = false) := by
      unfold Hid
      rw [← HR.out]
      exact decide_eq_false fun h => hl (by have := congrArg List.length h; simpa using this)
    clear hl
    go_enter Tryz.func30, Tryz.ntmps30
    go_wp2
    go_ret
    exact ⟨ret_bool hf.out.symm, Below.refl _ _⟩
end Go.Proofs.YtplommmegkdhdaaGreatDoor
/- The walk of estoppelref24.Ints. -/
namespace Go.Proofs.YtplommmegkdhdaaGreatDoor
open Go.RowKit

set_option maxRecDepth 100000 in
set_option maxHeartbeats 3200000 in
theorem ints_any (A1 A2 : Option Addr) (c1 c2 : Nat) (l1 l2 : List Int) (w : World) (h1 : Seg w w.heap.size 1 eI A1 l1) (h2 : Seg w w.heap.size 1 eI A2 l2) (n1 : l1.length ≤ 1000000) :
    Calls Tryz.prog 20 #[.slice A1 l1.length c1, .slice A2 l2.length c2] w fun e w' => e = .returned (.bool (decide (l1 = l2))) ∧ Below w.heap.size w w' := by
  have H1 := Lib.hid h1
  have H2 := Lib.hid h2
  obtain ⟨R, hR⟩ : ∃ R, decide (l1 = l2) = R := ⟨_, rfl⟩
  rw [hR]
  have HR := Lib.hid hR
  clear hR h1 h2
  by_cases hl : l1.length = l2.length
  · have tl : ((l1.length : Int) != (l2.length : Int)) = false := by simp [hl]
    have HL := Lib.hid hl
    clear hl
    go_enter Tryz.func20, Tryz.ntmps20
    go_upto_region 4 with (fail)
    go_loopw [5] (fun y WR => ∃ (i : Nat), i ≤ l1.length ∧ y = .int .i64 i ∧ Hid (∀ j, j < i → l1[j]? = l2[j]?) ∧ Hid (Below w.heap.size w WR)) (fun y _ => 2000000 - (intOf y).toNat)
    case atStart => exact ⟨0, by omega, rfl, fun j hj => by omega, by unfold Hid; (repeat (first | with_reducible assumption | with_reducible exact Below.refl _ _ | with_reducible refine below_drewN ?_ _ | with_reducible refine Below.drew ?_ | with_reducible refine below_alloc ?_ _ | with_reducible refine Below.setCell ?_ (by first | omega | (simp; done) | (simp; omega)) _ | with_reducible refine below_then ?_ (by with_reducible assumption) | (refine below_then (a := World.drew _) ?_ (by with_reducible assumption))))⟩
    case round =>
      obtain ⟨i, hi', rfl, hpre, hB⟩ := hrel
      by_cases hlt : i < l1.length
      · have tn : decide ((i : Int) < (l1.length : Int)) = true := decide_eq_true (by omega)
        have hl2 : i < l2.length := by rw [← HL.out]; exact hlt
        obtain ⟨x, hx⟩ : ∃ x, l1[i]? = some x := ⟨_, List.getElem?_eq_getElem hlt⟩
        obtain ⟨y, hy⟩ : ∃ y, l2[i]? = some y := ⟨_, List.getElem?_eq_getElem hl2⟩
        obtain ⟨b1, o1, e1, hb1, hc1⟩ := segAt (H1.out.below hB.out) hx
        obtain ⟨b2, o2, e2, hb2, hc2⟩ := segAt (H2.out.below hB.out) hy
        have x0 : wr.cell? ⟨b1, o1 + i, none⟩ = some (.int .i64 x) := by simpa using hc1 0 _ rfl
        have y0 : wr.cell? ⟨b2, o2 + i, none⟩ = some (.int .i64 y) := by simpa using hc2 0 _ rfl
        have hix := fun W => idx_at (t := 22) (size := 1) (cap := c1) (len := l1.length) e1 hlt (by kernel_rfl) (fun W => by kernel_rfl) W
        have hiy := fun W => idx_at (t := 22) (size := 1) (cap := c2) (len := l2.length) e2 hl2 (by kernel_rfl) (fun W => by kernel_rfl) W
        simp only [Nat.mul_one] at hix hiy
        have HX := Lib.hid hx
        have HY := Lib.hid hy
        have hwr := wrap_small (n := i) (by omega)
        clear hc1 hc2 hx hy e1 e2
        by_cases he : x = y
        · have hd : (x != y) = false := by simp [he]
          have hp2 : Hid (∀ j, j < i + 1 → l1[j]? = l2[j]?) := by
            intro j hj
            by_cases q : j = i
            · rw [q, HX.out, HY.out, he]
            · exact hpre.out j (by omega)
          clear he hpre
          go_upto_region 6 with (fail)
          have rg0 := cell_regrown x0
          have rg1 := cell_regrown y0
          refine wp_region_qt [0, 1, 2, 3, 4, 5, 6, 7, 8] [] (by kernel_rfl) (by kernel_rfl) (by repeat (first | with_reducible refine panOk_then ?_ | with_reducible refine panOk_block ?_ | exact panOk_body)) ?_
          simp only [opsAt, List.getElem?_toArray, List.getElem?_cons_succ, List.getElem?_cons_zero, Option.toList_some, List.cons_append, List.nil_append]
          repeat (go_big_quiet_step (fail))
          refine wpQuiet_nil ?_
          intro W2 hw2
          have hbW2 := qt_world hw2
          clear hw2 rg0 rg1
          refine wpList_done ?_
          go_wp2
          go_roundw
          case rel => exact ⟨i + 1, by omega, by simp, hp2, below_then hB.out hbW2⟩
          case measure => simp [intOf]; omega
        · have hd : (x != y) = true := by simpa using he
          have hf : Hid (R = false) := by
            unfold Hid
            rw [← HR.out]
            refine decide_eq_false fun h => he ?_
            have := HX.out
            rw [h, HY.out] at this
            exact (Option.some.inj this).symm
          clear he hpre
          go_upto_region 6 with (fail)
          have rg0 := cell_regrown x0
          have rg1 := cell_regrown y0
          refine wp_region_qt [0, 1, 2, 3, 4, 5, 6, 7, 8] [] (by kernel_rfl) (by kernel_rfl) (by repeat (first | with_reducible refine panOk_then ?_ | with_reducible refine panOk_block ?_ | exact panOk_body)) ?_
          simp only [opsAt, List.getElem?_toArray, List.getElem?_cons_succ, List.getElem?_cons_zero, Option.toList_some, List.cons_append, List.nil_append]
          repeat (go_big_quiet_step (fail))
          refine wpQuiet_nil ?_
          intro W2 hw2
          have hbW2 := qt_world hw2
          clear hw2 rg0 rg1
          refine wpList_done ?_
          go_wp2
          go_ret
          exact ⟨ret_bool hf.out.symm, below_then hB.out hbW2⟩
      · have tn : decide ((i : Int) < (l1.length : Int)) = false := decide_eq_false (by omega)
        have hf : Hid (R = true) := by
          unfold Hid
          rw [← HR.out]
          refine decide_eq_true (List.ext_getElem? fun j => ?_)
          by_cases hj : j < i
          · exact hpre.out j hj
          · rw [List.getElem?_eq_none (by omega), List.getElem?_eq_none (by have := HL.out; omega)]
        go_wp2
        go_ret
        exact ⟨ret_bool hf.out.symm, hB.out⟩
  · have tl : ((l1.length : Int) != (l2.length : Int)) = true := by simp; omega
    have hf : Hid (R = false) := by
      unfold Hid
      rw [← HR.out]
      exact decide_eq_false fun h => hl (by rw [h])
    clear hl
    go_enter Tryz.func20, Tryz.ntmps20
    go_wp2
    go_ret
    exact ⟨ret_bool hf.out.symm, Below.refl _ _⟩
end Go.Proofs.YtplommmegkdhdaaGreatDoor
/- The walk of estoppelref24.Same: two patches. -/
namespace Go.Proofs.YtplommmegkdhdaaGreatDoor
open Go.RowKit

/-- a guarded load from the middle of a block -/
theorem wpList_mid_w {P : Program} {ops : Array Oper} {Q : Exit → Act → World → Prop} {a : Act} {w : World} {rest : List Oper} {o : Oper} (hw : Region.wanted o (yielded ops a.tmps) = true) (ty : TypeId) (x : Operand) (ho : o.op = .load ty x)
    (b i : Nat) (hx : a.eval x = .pointer (some ⟨b, i, none⟩)) (cs : List Value) (d : TypeDesc) (hc : w.rangeAt b i cs) (hu : P.underlying ty = some d) (hd : d.isRow = true) (hi : (P.info? ty).map (·.size) = some cs.length)
    (h : wpList P ops Q rest (a.put o.dst (.agg cs.toArray)) w) : wpList P ops Q (o :: rest) a w :=
  wpList_wanted hw fun _ hK => wp_load_mid ty x ho b i hx cs d hc hu hd hi (hK _ _ h)
theorem pat_eq (p q : Pat) : p = q ↔ p.kind = q.kind ∧ p.days = q.days ∧ p.cls = q.cls ∧ p.new = q.new := by
  cases p; cases q; simp; exact fun _ => ⟨fun ⟨a, b, c⟩ => ⟨c, a, b⟩, fun ⟨a, b, c⟩ => ⟨b, c, a⟩⟩
set_option maxRecDepth 100000 in
set_option maxHeartbeats 3200000 in
theorem rpat_any (p q : Pat) (pm qm : Pm) (w : World) (hp : PatM w p pm) (hq : PatM w q qm) : Calls Tryz.prog 18 #[.agg (pL p pm), .agg (pL q qm)] w fun e w' => e = .returned (.bool (decide (p = q))) ∧ Below w.heap.size w w' := by
  obtain ⟨R, hR⟩ : ∃ R, decide (p = q) = R := ⟨_, rfl⟩
  rw [hR]
  have HI := Lib.hid (fun W (hb : Below w.heap.size w W) => ints_any pm.p qm.p pm.pc qm.pc p.cls q.cls W (hp.then_ hb).s (hq.then_ hb).s hp.n)
  have HC := Lib.hid (fun W (hb : Below w.heap.size w W) => rsame_any ⟨p.new, pm.A, pm.cap⟩ ⟨q.new, qm.A, qm.cap⟩ W (hp.then_ hb).k (hq.then_ hb).k)
  obtain ⟨e0, E0⟩ : ∃ b, (p.kind == q.kind) = b := ⟨_, rfl⟩
  obtain ⟨e1, E1⟩ : ∃ b, (p.days == q.days) = b := ⟨_, rfl⟩
  obtain ⟨e2, E2⟩ : ∃ b, decide (p.cls = q.cls) = b := ⟨_, rfl⟩
  obtain ⟨e3, E3⟩ : ∃ b, decide (p.new = q.new) = b := ⟨_, rfl⟩
  have HRR : Hid (R = (e0 && e1 && e2 && e3)) := by
    unfold Hid
    rw [← hR, ← E0, ← E1, ← E2, ← E3, Bool.eq_iff_iff]
    simp only [decide_eq_true_eq, Bool.and_eq_true, beq_iff_eq]
    rw [pat_eq]
    constructor
    · rintro ⟨a, b, c, d⟩; exact ⟨⟨⟨a, b⟩, c⟩, d⟩
    · rintro ⟨⟨⟨a, b⟩, c⟩, d⟩; exact ⟨a, b, c, d⟩
  simp only [E2] at HI
  simp only [E3] at HC
  clear hR hp hq E2 E3
  go_enter Tryz.func18, Tryz.ntmps18
  go_upto_region 1 with (fail)
  refine name_wp ?_
  intro X hX
  have gbp : Blk X w.heap.size 34 (pL p pm) := by rw [hX]; exact (blk_at (by simp)).alloc _
  have gbq : Blk X (w.heap.size + 1) 34 (pL q qm) := by rw [hX]; exact blk_at (by simp)
  have HB : Below w.heap.size w X := by rw [hX]; (repeat (first | with_reducible assumption | with_reducible exact Below.refl _ _ | with_reducible refine below_drewN ?_ _ | with_reducible refine Below.drew ?_ | with_reducible refine below_alloc ?_ _ | with_reducible refine Below.setCell ?_ (by first | omega | (simp; done) | (simp; omega)) _ | with_reducible refine below_then ?_ (by with_reducible assumption) | (refine below_then (a := World.drew _) ?_ (by with_reducible assumption))))
  clear hX
  obtain ⟨bq, ebq⟩ : ∃ b, w.heap.size + 1 = b := ⟨_, rfl⟩
  obtain ⟨bp, ebp⟩ : ∃ b, w.heap.size = b := ⟨_, rfl⟩
  have lbp : w.heap.size ≤ bp := by omega
  have lbq : w.heap.size ≤ bq := by omega
  have nbpbq : bp ≠ bq := by omega
  rw [ebq] at gbq ⊢
  rw [ebp] at gbp ⊢
  clear ebp ebq
  have p0 : X.cell? ⟨bp, 0, none⟩ = some (.int .i64 p.kind) := gbp.cell 0
  have p1 : X.cell? ⟨bp, 1, none⟩ = some (.slice pm.p p.cls.length pm.pc) := gbp.cell 1
  have p18 : X.cell? ⟨bp, 18, none⟩ = some (.int .i64 p.days) := gbp.cell 18
  have q0 : X.cell? ⟨bq, 0, none⟩ = some (.int .i64 q.kind) := gbq.cell 0
  have q1 : X.cell? ⟨bq, 1, none⟩ = some (.slice qm.p q.cls.length qm.pc) := gbq.cell 1
  have q18 : X.cell? ⟨bq, 18, none⟩ = some (.int .i64 q.days) := gbq.cell 18
  have HBX := Lib.hid HB
  clear HB
  cases e0
  · have hf : Hid (R = false) := by unfold Hid; rw [HRR.out]; rfl
    clear HRR
    go_wp2
    go_ret
    exact ⟨ret_bool hf.out.symm, HBX.out⟩
  cases e1
  · have hf : Hid (R = false) := by unfold Hid; rw [HRR.out]; rfl
    clear HRR
    go_wp2
    go_ret
    exact ⟨ret_bool hf.out.symm, HBX.out⟩
  cases e2
  · have hf : Hid (R = false) := by unfold Hid; rw [HRR.out]; rfl
    clear HRR
    go_wp2_with (go_at_call 20; (with_reducible refine (HI.out _ HBX.out).mono ?_); rintro e w1 ⟨rfl, hb1⟩)
    go_ret
    exact ⟨ret_bool hf.out.symm, below_then HBX.out hb1⟩
  · have hf : Hid (R = e3) := by unfold Hid; rw [HRR.out]; rfl
    clear HRR
    go_wp2_with (first | (go_at_call 20; (with_reducible refine (HI.out _ HBX.out).mono ?_); rintro e w1 ⟨rfl, hb1⟩) | (refine wpList_mid_w (by rfl) 32 _ rfl bp _ rfl (kL ⟨p.new, pm.A, pm.cap⟩) _ (Blk.range (pre := [.int .i64 p.kind, .slice pm.p p.cls.length pm.pc]) (mid := kL ⟨p.new, pm.A, pm.cap⟩) (post := [.int .i64 p.days]) (gbp.then_ hb1)) Tryz.underlying32 rfl (by kernel_rfl) ?_; simp only [Act.put, List.setIfInBounds_toArray, List.set_cons_succ, List.set_cons_zero]) | (refine wpList_mid_w (by rfl) 32 _ rfl bq _ rfl (kL ⟨q.new, qm.A, qm.cap⟩) _ (Blk.range (pre := [.int .i64 q.kind, .slice qm.p q.cls.length qm.pc]) (mid := kL ⟨q.new, qm.A, qm.cap⟩) (post := [.int .i64 q.days]) (gbq.then_ hb1)) Tryz.underlying32 rfl (by kernel_rfl) ?_; simp only [Act.put, List.setIfInBounds_toArray, List.set_cons_succ, List.set_cons_zero]) | (go_at_call 14; (with_reducible refine (HC.out _ (below_then HBX.out hb1)).mono ?_); rintro e w2 ⟨rfl, hb2⟩))
    go_ret
    exact ⟨ret_bool hf.out.symm, below_then (below_then HBX.out hb1) hb2⟩
end Go.Proofs.YtplommmegkdhdaaGreatDoor
