/- Contracts of functions and plain laws, joined: Krn, Kre, Kro, Str. -/
import Derived.Test.YtcplneglfbdooaaMb23
import Derived.Test.YtcplneglfbdooaaMb2
import Derived.Test.YtcplneglfbdooaaMb15
import Derived.Test.YtcplneglfbdooaaMb9
/- The walk of the law's common. -/
namespace Go.Proofs.Ytcplneglfbdooaa
open Go.RowKit

def comI (a b : List Int) : Bool := a.any fun x => b.any fun y => x == y
theorem comI_no {a b : List Int} (h : ∀ (i k : Nat) (x y : Int), a[i]? = some x → b[k]? = some y → (x == y) = false) : comI a b = false := by
  refine Bool.eq_false_iff.2 fun e => ?_
  obtain ⟨x, hx, e⟩ := List.any_eq_true.1 e
  obtain ⟨y, hy, e⟩ := List.any_eq_true.1 e
  obtain ⟨i, hi, ei⟩ := List.getElem_of_mem hx
  obtain ⟨k, hk, ek⟩ := List.getElem_of_mem hy
  rw [h i k x y (by rw [← ei]; exact List.getElem?_eq_getElem hi) (by rw [← ek]; exact List.getElem?_eq_getElem hk)] at e
  cases e
theorem comI_yes {a b : List Int} {i k : Nat} {x : Int} (h1 : a[i]? = some x) (h2 : b[k]? = some x) : comI a b = true :=
  List.any_eq_true.2 ⟨x, List.mem_of_getElem? h1, List.any_eq_true.2 ⟨x, List.mem_of_getElem? h2, by simp⟩⟩
set_option maxRecDepth 100000 in
set_option maxHeartbeats 3200000 in
theorem common_any (a b : List Int) (A1 A2 : Option Addr) (c1 c2 : Nat) (w : World) (h1 : Seg w w.heap.size 1 eI A1 a) (h2 : Seg w w.heap.size 1 eI A2 b) (n1 : a.length ≤ 1000000) (n2 : b.length ≤ 1000000) :
    Calls Try.prog 20 #[.slice A1 a.length c1, .slice A2 b.length c2] w fun e w' => e = .returned (.bool (comI a b)) ∧ Below w.heap.size w w' := by
  have H1 := Lib.hid h1
  have H2 := Lib.hid h2
  clear h1 h2
  go_enter Try.func20, Try.ntmps20
  go_upto_region 2 with (fail)
  go_loopw [5] (fun v WR => ∃ (i : Nat), i ≤ a.length ∧ v = .int .i64 i ∧ Hid (∀ (j k : Nat) (x y : Int), j < i → a[j]? = some x → b[k]? = some y → (x == y) = false) ∧ Hid (Below w.heap.size w WR)) (fun v _ => 2000000 - (intOf v).toNat)
  case atStart => exact ⟨0, by omega, rfl, (fun j k x y hj => by omega), Below.refl _ _⟩
  case round =>
    obtain ⟨i, hi', rfl, hpre, hB⟩ := hrel
    by_cases hlt : i < a.length
    · have tn : decide ((i : Int) < (a.length : Int)) = true := decide_eq_true (by omega)
      obtain ⟨x, hx⟩ : ∃ x, a[i]? = some x := ⟨_, List.getElem?_eq_getElem hlt⟩
      have HX := Lib.hid hx
      have hwi := wrap_small (n := i) (by omega)
      clear hx
      go_upto_region 5 with (fail)
      go_loopw [6] (fun v WR => ∃ (k : Nat), k ≤ b.length ∧ v = .int .i64 k ∧ Hid (∀ (j : Nat) (y : Int), j < k → b[j]? = some y → (x == y) = false) ∧ Hid (Below w.heap.size w WR)) (fun v _ => 2000000 - (intOf v).toNat)
      case atStart => exact ⟨0, by omega, rfl, (fun j y hj => by omega), hB.out⟩
      case round =>
        obtain ⟨k, hk', rfl, hpk, hB2⟩ := hrel
        by_cases hlk : k < b.length
        · have tk : decide ((k : Int) < (b.length : Int)) = true := decide_eq_true (by omega)
          obtain ⟨y, hy⟩ : ∃ y, b[k]? = some y := ⟨_, List.getElem?_eq_getElem hlk⟩
          obtain ⟨b1, o1, e1, hb1, hc1⟩ := segAt (H1.out.below hB2.out) HX.out
          obtain ⟨b2, o2, e2, hb2, hc2⟩ := segAt (H2.out.below hB2.out) hy
          have x0 : wr.cell? ⟨b1, o1 + i, none⟩ = some (.int .i64 x) := by simpa using hc1 0 _ rfl
          have y0 : wr.cell? ⟨b2, o2 + k, none⟩ = some (.int .i64 y) := by simpa using hc2 0 _ rfl
          have hix := fun W => idx_at (t := 22) (size := 1) (cap := c1) (len := a.length) e1 hlt (by kernel_rfl) (fun W => by kernel_rfl) W
          have hiy := fun W => idx_at (t := 22) (size := 1) (cap := c2) (len := b.length) e2 hlk (by kernel_rfl) (fun W => by kernel_rfl) W
          simp only [Nat.mul_one] at hix hiy
          have HY := Lib.hid hy
          have hwk := wrap_small (n := k) (by omega)
          clear hc1 hc2 hy e1 e2
          cases ht : (x == y) with
          | true =>
            have hf : Hid (comI a b = true) := comI_yes HX.out (by rw [HY.out, eq_of_beq ht])
            clear hpre hpk
            go_upto_region 7 with (fail)
            have rg0 := cell_regrown x0
            have rg1 := cell_regrown y0
            refine wp_region_qt [0, 1, 2, 3, 4, 5, 6, 7, 8] [] (by kernel_rfl) (by kernel_rfl) (by repeat (first | with_reducible refine panOk_then ?_ | with_reducible refine panOk_block ?_ | exact panOk_body)) ?_
            simp only [opsAt, List.getElem?_toArray, List.getElem?_cons_succ, List.getElem?_cons_zero, Option.toList_some, List.cons_append, List.nil_append]
            repeat (go_big_quiet_step (fail))
            refine wpQuiet_nil ?_
            intro W2 hw2
            have hbW2 := qt_world hw2
            clear hw2 rg0 rg1
            refine wpList_done ?_
            go_wp2
            go_ret
            exact ⟨ret_bool hf.out.symm, below_then hB2.out hbW2⟩
          | false =>
            have hp2 : Hid (∀ (j : Nat) (y : Int), j < k + 1 → b[j]? = some y → (x == y) = false) := by
              intro j z hj hz
              by_cases q : j = k
              · rw [q, HY.out] at hz
                cases hz
                exact ht
              · exact hpk.out j z (by omega) hz
            clear hpre hpk
            go_upto_region 7 with (fail)
            have rg0 := cell_regrown x0
            have rg1 := cell_regrown y0
            refine wp_region_qt [0, 1, 2, 3, 4, 5, 6, 7, 8] [] (by kernel_rfl) (by kernel_rfl) (by repeat (first | with_reducible refine panOk_then ?_ | with_reducible refine panOk_block ?_ | exact panOk_body)) ?_
            simp only [opsAt, List.getElem?_toArray, List.getElem?_cons_succ, List.getElem?_cons_zero, Option.toList_some, List.cons_append, List.nil_append]
            repeat (go_big_quiet_step (fail))
            refine wpQuiet_nil ?_
            intro W2 hw2
            have hbW2 := qt_world hw2
            clear hw2 rg0 rg1
            refine wpList_done ?_
            go_wp2
            go_roundw
            case rel => exact ⟨k + 1, by omega, by simp, hp2, below_then hB2.out hbW2⟩
            case measure => simp [intOf]; omega
        · have tk : decide ((k : Int) < (b.length : Int)) = false := decide_eq_false (by omega)
          have hp2 : Hid (∀ (j k : Nat) (x y : Int), j < i + 1 → a[j]? = some x → b[k]? = some y → (x == y) = false) := by
            intro j l z y hj h1 h2
            by_cases q : j = i
            · rw [q, HX.out] at h1
              cases h1
              exact hpk.out l y (by have := (List.getElem?_eq_some_iff.1 h2).1; omega) h2
            · exact hpre.out j l z y (by omega) h1 h2
          clear hpre hpk
          go_wp2
          go_roundw
          case rel => exact ⟨i + 1, by omega, by simp, hp2, hB2.out⟩
          case measure => simp [intOf]; omega
    · have tn : decide ((i : Int) < (a.length : Int)) = false := decide_eq_false (by omega)
      have hf : Hid (comI a b = false) := comI_no fun j k x y h1 h2 => hpre.out j k x y (by have := (List.getElem?_eq_some_iff.1 h1).1; omega) h1 h2
      clear hpre
      go_wp2
      go_ret
      exact ⟨ret_bool hf.out.symm, hB.out⟩
end Go.Proofs.Ytcplneglfbdooaa
/- The walk of estoppelref26.Same: two lists of patches. -/
namespace Go.Proofs.Ytcplneglfbdooaa
open Go.RowKit

set_option maxRecDepth 100000 in
set_option maxHeartbeats 3200000 in
theorem rpats_any (A1 A2 : Option Addr) (c1 c2 : Nat) (k1 k2 : List Pk) (w : World) (h1 : Seg w w.heap.size 19 eP A1 k1) (h2 : Seg w w.heap.size 19 eP A2 k2) (t1 : ∀ x ∈ k1, PatM w x.p x.m) (t2 : ∀ x ∈ k2, PatM w x.p x.m) (n1 : k1.length ≤ 1000000) :
    Calls Try.prog 14 #[.slice A1 k1.length c1, .slice A2 k2.length c2] w fun e w' => e = .returned (.bool (decide (k1.map (·.p) = k2.map (·.p)))) ∧ Below w.heap.size w w' := by
  have H1 := Lib.hid h1
  have H2 := Lib.hid h2
  have T1 := Lib.hid t1
  have T2 := Lib.hid t2
  obtain ⟨R, hR⟩ : ∃ R, decide (k1.map (·.p) = k2.map (·.p)) = R := ⟨_, rfl⟩
  rw [hR]
  have HR := Lib.hid hR
  clear hR h1 h2 t1 t2
  by_cases hl : k1.length = k2.length
  · have tl : ((k1.length : Int) != (k2.length : Int)) = false := by simp [hl]
    have HL := Lib.hid hl
    clear hl
    go_enter Try.func14, Try.ntmps14
    go_upto_region 4 with (fail)
    go_loopw [5] (fun y WR => ∃ (i : Nat), i ≤ k1.length ∧ y = .int .i64 i ∧ Hid (∀ j, j < i → (k1.map (·.p))[j]? = (k2.map (·.p))[j]?) ∧ Hid (Below w.heap.size w WR)) (fun y _ => 2000000 - (intOf y).toNat)
    case atStart => exact ⟨0, by omega, rfl, fun j hj => by omega, Below.refl _ _⟩
    case round =>
      obtain ⟨i, hi', rfl, hpre, hB⟩ := hrel
      by_cases hlt : i < k1.length
      · have tn : decide ((i : Int) < (k1.length : Int)) = true := decide_eq_true (by omega)
        have hl2 : i < k2.length := by rw [← HL.out]; exact hlt
        obtain ⟨x, hx⟩ : ∃ x, k1[i]? = some x := ⟨_, List.getElem?_eq_getElem hlt⟩
        obtain ⟨y, hy⟩ : ∃ y, k2[i]? = some y := ⟨_, List.getElem?_eq_getElem hl2⟩
        obtain ⟨b1, o1, e1, hb1, hc1⟩ := segAt (H1.out.below hB.out) hx
        obtain ⟨b2, o2, e2, hb2, hc2⟩ := segAt (H2.out.below hB.out) hy
        have rx : Hid (wr.rangeAt b1 (o1 + i * 19) (eP x)) := fun j v hv => hc1 j v hv
        have ry : Hid (wr.rangeAt b2 (o2 + i * 19) (eP y)) := fun j v hv => hc2 j v hv
        have lw := hB.out.size
        have l1 : b1 < wr.heap.size := by omega
        have l2 : b2 < wr.heap.size := by omega
        have hix := fun W => idx_at (t := 28) (size := 19) (cap := c1) (len := k1.length) e1 hlt (by kernel_rfl) (fun W => by kernel_rfl) W
        have hiy := fun W => idx_at (t := 28) (size := 19) (cap := c2) (len := k2.length) e2 hl2 (by kernel_rfl) (fun W => by kernel_rfl) W
        have HX := Lib.hid hx
        have HY := Lib.hid hy
        have HC := Lib.hid (fun W (hb : Below wr.heap.size wr W) => rpat_any x.p y.p x.m y.m W ((T1.out x (List.mem_of_getElem? hx)).then_ (below_then hB.out hb)) ((T2.out y (List.mem_of_getElem? hy)).then_ (below_then hB.out hb)))
        have hwr := wrap_small (n := i) (by omega)
        clear hc1 hc2 hx hy e1 e2 lw
        by_cases he : x.p = y.p
        · have hd : decide (x.p = y.p) = true := decide_eq_true he
          rw [hd] at HC
          have hp2 : Hid (∀ j, j < i + 1 → (k1.map (·.p))[j]? = (k2.map (·.p))[j]?) := by
            intro j hj
            by_cases q : j = i
            · rw [q, List.getElem?_map, List.getElem?_map, HX.out, HY.out]; simp [he]
            · exact hpre.out j (by omega)
          clear hd he hpre
          go_upto_region 6 with (fail)
          refine wp_region_hb (fun w' => Below wr.heap.size wr w') [0, 1, 2, 3, 4, 5, 6, 7] [8, 9] (by kernel_rfl) (by kernel_rfl) (by repeat (first | with_reducible refine panOk_then ?_ | with_reducible refine panOk_block ?_ | exact panOk_body)) (Below.drew (Below.refl _ _)) (fun hdir hsel hpan hHeld => ?_)
          refine wpHB_take (i := 0) (oi := ⟨some 17, _, _, _, _, _⟩) (v := .slice A1 k1.length c1) hdir hsel hpan rfl (by kernel_rfl) (by kernel_rfl) (by kernel_rfl) (Or.inl ⟨by rfl, fun w hw => by rfl⟩) (by assumption) ?_
          try simp only [Act.put, List.setIfInBounds_toArray, List.set_cons_zero, List.set_cons_succ]
          refine wpHB_take (i := 1) (oi := ⟨some 18, _, _, _, _, _⟩) (v := .int .i64 i) hdir hsel hpan rfl (by kernel_rfl) (by kernel_rfl) (by kernel_rfl) (Or.inl ⟨by rfl, fun w hw => by rfl⟩) (by assumption) ?_
          try simp only [Act.put, List.setIfInBounds_toArray, List.set_cons_zero, List.set_cons_succ]
          refine wpHB_take (i := 2) (oi := ⟨some 19, _, _, _, _, _⟩) (v := .pointer (some ⟨b1, o1 + i * 19, none⟩)) hdir hsel hpan rfl (by kernel_rfl) (by kernel_rfl) (by kernel_rfl) (Or.inl ⟨by rfl, fun w hw => by have h := hix w; go_simp⟩) (by assumption) ?_
          try simp only [Act.put, List.setIfInBounds_toArray, List.set_cons_zero, List.set_cons_succ]
          refine wpHB_take (i := 3) (oi := ⟨some 20, _, _, _, _, _⟩) hdir hsel hpan rfl (by kernel_rfl) (by kernel_rfl) (by kernel_rfl) (yieldsIf_load_mid (by rfl) 49 _ rfl b1 _ rfl (eP x) _ (fun w hw => (fun j v hv => (hw.cell (p := ⟨b1, _, none⟩) l1).trans (rx.out j v hv))) Try.underlying49 rfl (by kernel_rfl)) (by assumption) ?_
          try simp only [Act.put, List.setIfInBounds_toArray, List.set_cons_zero, List.set_cons_succ]
          refine wpHB_take (i := 4) (oi := ⟨some 21, _, _, _, _, _⟩) (v := .slice A2 k2.length c2) hdir hsel hpan rfl (by kernel_rfl) (by kernel_rfl) (by kernel_rfl) (Or.inl ⟨by rfl, fun w hw => by rfl⟩) (by assumption) ?_
          try simp only [Act.put, List.setIfInBounds_toArray, List.set_cons_zero, List.set_cons_succ]
          refine wpHB_take (i := 5) (oi := ⟨some 22, _, _, _, _, _⟩) (v := .int .i64 i) hdir hsel hpan rfl (by kernel_rfl) (by kernel_rfl) (by kernel_rfl) (Or.inl ⟨by rfl, fun w hw => by rfl⟩) (by assumption) ?_
          try simp only [Act.put, List.setIfInBounds_toArray, List.set_cons_zero, List.set_cons_succ]
          refine wpHB_take (i := 6) (oi := ⟨some 23, _, _, _, _, _⟩) (v := .pointer (some ⟨b2, o2 + i * 19, none⟩)) hdir hsel hpan rfl (by kernel_rfl) (by kernel_rfl) (by kernel_rfl) (Or.inl ⟨by rfl, fun w hw => by have h := hiy w; go_simp⟩) (by assumption) ?_
          try simp only [Act.put, List.setIfInBounds_toArray, List.set_cons_zero, List.set_cons_succ]
          refine wpHB_take (i := 7) (oi := ⟨some 24, _, _, _, _, _⟩) hdir hsel hpan rfl (by kernel_rfl) (by kernel_rfl) (by kernel_rfl) (yieldsIf_load_mid (by rfl) 49 _ rfl b2 _ rfl (eP y) _ (fun w hw => (fun j v hv => (hw.cell (p := ⟨b2, _, none⟩) l2).trans (ry.out j v hv))) Try.underlying49 rfl (by kernel_rfl)) (by assumption) ?_
          try simp only [Act.put, List.setIfInBounds_toArray, List.set_cons_zero, List.set_cons_succ]
          refine wpHB_tail (by kernel_rfl) (by kernel_rfl) ?_
          clear hdir hsel hpan
          simp only [opsAt, List.getElem?_toArray, List.getElem?_cons_succ, List.getElem?_cons_zero, Option.toList_some, List.cons_append, List.nil_append]
          clear hix hiy
          go_wp2_with (go_at_call 35; (with_reducible refine (HC.out _ hHeld).mono ?_); rintro e w1 ⟨rfl, hb1⟩)
          go_roundw
          case rel => exact ⟨i + 1, by omega, by simp, hp2, below_then hB.out (below_then hHeld hb1)⟩
          case measure => simp [intOf]; omega
        · have hd : decide (x.p = y.p) = false := decide_eq_false he
          rw [hd] at HC
          have hf : Hid (R = false) := by
            unfold Hid
            rw [← HR.out]
            refine decide_eq_false fun h => he ?_
            have h3 := congrArg (fun l => l[i]?) h
            simp only [List.getElem?_map, HX.out, HY.out, Option.map_some, Option.some.injEq] at h3
            exact h3
          clear hd he hpre
          go_upto_region 6 with (fail)
          refine wp_region_hb (fun w' => Below wr.heap.size wr w') [0, 1, 2, 3, 4, 5, 6, 7] [8, 9] (by kernel_rfl) (by kernel_rfl) (by repeat (first | with_reducible refine panOk_then ?_ | with_reducible refine panOk_block ?_ | exact panOk_body)) (Below.drew (Below.refl _ _)) (fun hdir hsel hpan hHeld => ?_)
          refine wpHB_take (i := 0) (oi := ⟨some 17, _, _, _, _, _⟩) (v := .slice A1 k1.length c1) hdir hsel hpan rfl (by kernel_rfl) (by kernel_rfl) (by kernel_rfl) (Or.inl ⟨by rfl, fun w hw => by rfl⟩) (by assumption) ?_
          try simp only [Act.put, List.setIfInBounds_toArray, List.set_cons_zero, List.set_cons_succ]
          refine wpHB_take (i := 1) (oi := ⟨some 18, _, _, _, _, _⟩) (v := .int .i64 i) hdir hsel hpan rfl (by kernel_rfl) (by kernel_rfl) (by kernel_rfl) (Or.inl ⟨by rfl, fun w hw => by rfl⟩) (by assumption) ?_
          try simp only [Act.put, List.setIfInBounds_toArray, List.set_cons_zero, List.set_cons_succ]
          refine wpHB_take (i := 2) (oi := ⟨some 19, _, _, _, _, _⟩) (v := .pointer (some ⟨b1, o1 + i * 19, none⟩)) hdir hsel hpan rfl (by kernel_rfl) (by kernel_rfl) (by kernel_rfl) (Or.inl ⟨by rfl, fun w hw => by have h := hix w; go_simp⟩) (by assumption) ?_
          try simp only [Act.put, List.setIfInBounds_toArray, List.set_cons_zero, List.set_cons_succ]
          refine wpHB_take (i := 3) (oi := ⟨some 20, _, _, _, _, _⟩) hdir hsel hpan rfl (by kernel_rfl) (by kernel_rfl) (by kernel_rfl) (yieldsIf_load_mid (by rfl) 49 _ rfl b1 _ rfl (eP x) _ (fun w hw => (fun j v hv => (hw.cell (p := ⟨b1, _, none⟩) l1).trans (rx.out j v hv))) Try.underlying49 rfl (by kernel_rfl)) (by assumption) ?_
          try simp only [Act.put, List.setIfInBounds_toArray, List.set_cons_zero, List.set_cons_succ]
          refine wpHB_take (i := 4) (oi := ⟨some 21, _, _, _, _, _⟩) (v := .slice A2 k2.length c2) hdir hsel hpan rfl (by kernel_rfl) (by kernel_rfl) (by kernel_rfl) (Or.inl ⟨by rfl, fun w hw => by rfl⟩) (by assumption) ?_
          try simp only [Act.put, List.setIfInBounds_toArray, List.set_cons_zero, List.set_cons_succ]
          refine wpHB_take (i := 5) (oi := ⟨some 22, _, _, _, _, _⟩) (v := .int .i64 i) hdir hsel hpan rfl (by kernel_rfl) (by kernel_rfl) (by kernel_rfl) (Or.inl ⟨by rfl, fun w hw => by rfl⟩) (by assumption) ?_
          try simp only [Act.put, List.setIfInBounds_toArray, List.set_cons_zero, List.set_cons_succ]
          refine wpHB_take (i := 6) (oi := ⟨some 23, _, _, _, _, _⟩) (v := .pointer (some ⟨b2, o2 + i * 19, none⟩)) hdir hsel hpan rfl (by kernel_rfl) (by kernel_rfl) (by kernel_rfl) (Or.inl ⟨by rfl, fun w hw => by have h := hiy w; go_simp⟩) (by assumption) ?_
          try simp only [Act.put, List.setIfInBounds_toArray, List.set_cons_zero, List.set_cons_succ]
          refine wpHB_take (i := 7) (oi := ⟨some 24, _, _, _, _, _⟩) hdir hsel hpan rfl (by kernel_rfl) (by kernel_rfl) (by kernel_rfl) (yieldsIf_load_mid (by rfl) 49 _ rfl b2 _ rfl (eP y) _ (fun w hw => (fun j v hv => (hw.cell (p := ⟨b2, _, none⟩) l2).trans (ry.out j v hv))) Try.underlying49 rfl (by kernel_rfl)) (by assumption) ?_
          try simp only [Act.put, List.setIfInBounds_toArray, List.set_cons_zero, List.set_cons_succ]
          refine wpHB_tail (by kernel_rfl) (by kernel_rfl) ?_
          clear hdir hsel hpan
          simp only [opsAt, List.getElem?_toArray, List.getElem?_cons_succ, List.getElem?_cons_zero, Option.toList_some, List.cons_append, List.nil_append]
          clear hix hiy
          go_wp2_with (go_at_call 35; (with_reducible refine (HC.out _ hHeld).mono ?_); rintro e w1 ⟨rfl, hb1⟩)
          go_ret
          exact ⟨ret_bool hf.out.symm, below_then hB.out (below_then hHeld hb1)⟩
      · have tn : decide ((i : Int) < (k1.length : Int)) = false := decide_eq_false (by omega)
        have hf : Hid (R = true) := by
          unfold Hid
          rw [← HR.out]
          refine decide_eq_true (List.ext_getElem? fun j => ?_)
          by_cases hj : j < i
          · exact hpre.out j hj
          · rw [List.getElem?_eq_none (by rw [List.length_map]; omega), List.getElem?_eq_none (by rw [List.length_map]; have := HL.out; omega)]
        go_wp2
        go_ret
        exact ⟨ret_bool hf.out.symm, hB.out⟩
  · have tl : ((k1.length : Int) != (k2.length : Int)) = true := by simp; omega
    have hf : Hid (R = false) := by
      unfold Hid
      rw [← HR.out]
      exact decide_eq_false fun h => hl (by have := congrArg List.length h; simpa using this)
    clear hl
    go_enter Try.func14, Try.ntmps14
    go_wp2
    go_ret
    exact ⟨ret_bool hf.out.symm, Below.refl _ _⟩
end Go.Proofs.Ytcplneglfbdooaa
/- What the law's head needs. -/
namespace Go.Proofs.Ytcplneglfbdooaa
open Go.RowKit

theorem name_k {K : Act → World → Prop} {a : Act} {w : World} (h : ∀ V, V = w → K a V) : K a w := h _ rfl
theorem pats_new {W V : World} {t : TypeId} (x : Pk) (h : V = W.alloc (.cells (eP x).toArray t)) (hp : PatM W x.p x.m) : Pats V (some ⟨W.heap.size, 0, none⟩) [x] ∧ Below W.heap.size W V := by
  have hb : Below W.heap.size W V := by rw [h]; exact wa1 _ _
  refine ⟨⟨blk_seg (xs := [x]) eP_len (by rw [h]; exact Blk.new _ _ _), fun y hy => ?_, by show 1 ≤ 1000000; decide⟩, hb⟩
  rcases List.mem_cons.1 hy with rfl | hy
  · exact hp.then_ hb
  · cases hy
theorem pats_new2 {W V : World} {t : TypeId} (x y : Pk) (h : V = W.alloc (.cells (eP x ++ eP y).toArray t)) (hp : PatM W x.p x.m) (hq : PatM W y.p y.m) : Pats V (some ⟨W.heap.size, 0, none⟩) [x, y] ∧ Below W.heap.size W V := by
  have hb : Below W.heap.size W V := by rw [h]; exact wa1 _ _
  refine ⟨⟨blk_seg (xs := [x, y]) eP_len (by rw [h]; exact Blk.new _ _ _), fun z hz => ?_, by show 2 ≤ 1000000; decide⟩, hb⟩
  rcases List.mem_cons.1 hz with rfl | hz
  · exact hp.then_ hb
  · rcases List.mem_cons.1 hz with rfl | hz
    · exact hq.then_ hb
    · cases hz
theorem pair_new {W V : World} {t : TypeId} (h : V = W.alloc (.cells (pairA 0 0) t)) : Blk V W.heap.size t (pairA 0 0) ∧ Below W.heap.size W V := by
  rw [h]
  exact ⟨Blk.new _ _ _, wa1 _ _⟩
theorem Upd.same {w w' : World} {g : Nat} {t : TypeId} {cs : Array Value} (u : Upd w w' g) (h1 : Blk w g t cs) (h2 : Blk w' g t cs) (x : Nat) : w'.heap[x]? = w.heap[x]? := by
  by_cases q : x = g
  · rw [q]; exact Eq.trans h2 (Eq.symm h1)
  · exact u.f x q
theorem Seg.same {α : Type} {w w' : World} {B size : Nat} {enc : α → List Value} {A : Option Addr} {xs : List α} (h : Seg w B size enc A xs) (hs : ∀ x : Nat, w'.heap[x]? = w.heap[x]?) : Seg w' B size enc A xs := fun k x hx => by
  obtain ⟨b, off, e, hb, hc⟩ := h k x hx
  exact ⟨b, off, e, hb, fun j v hv => (World.cell?_of_block (hs b)).trans (hc j v hv)⟩
theorem Pats.same {w w' : World} {g : Nat} {t : TypeId} {cs : Array Value} {A : Option Addr} {L : List Pk} (h : Pats w A L) (u : Upd w w' g) (h1 : Blk w g t cs) (h2 : Blk w' g t cs) : Pats w' A L :=
  ⟨by rw [u.s]; exact h.s.same (u.same h1 h2), fun x hx => ⟨by rw [u.s]; exact (h.t x hx).s.same (u.same h1 h2), (h.t x hx).n, (h.t x hx).c, ⟨by rw [u.s]; exact (h.t x hx).k.s.same (u.same h1 h2), (h.t x hx).k.v, (h.t x hx).k.n, (h.t x hx).k.c⟩⟩, h.n⟩
def Pat.plus (n : Int) : Pat := { kind := 1, cls := [], new := Cla.at n, days := 0 }
def Pat.repl (i n : Int) : Pat := { kind := 2, cls := [i], new := Cla.at n, days := 0 }
theorem kok_at (n : Int) (w : World) : KOk w ⟨Cla.at n, none, 0⟩ := ⟨Seg.nil _ _ _ _ _, (by show I64 0 ∧ I64 1; decide), Nat.zero_le _, Nat.zero_le _⟩
theorem mrg_at (c : Con) (m : Cm) (L R : List Pk) (A1 A2 : Option Addr) (nL nR : Nat) (W : World) (E : Int) (i j : Nat) (l : List Pat) (h : Cont W c m) (hL : Pats W A1 L) (hR : Pats W A2 R) (n1 : L.length = nL) (n2 : R.length = nR) (he : c.mrE (pats L) (pats R) = (E, i, j)) (hl : (if E = 0 then c.mrL (pats L) (pats R) else []) = l) :
    Calls Try.prog 13 #[.agg (coA c m), .slice A1 nL nL, .slice A2 nR nR] W fun e w' => (∃ A cap M, e = .returned (.tuple #[.slice A (M : List Pk).length cap, .agg (pairA i j), .int .i64 E]) ∧ pats M = l ∧ Pats w' A M ∧ M.length ≤ cap) ∧ Below W.heap.size W w' := by
  subst n1
  subst n2
  refine (merge_any (Lib.hid same_any) c m L R A1 A2 _ _ W h hL hR (Nat.le_refl _)).mono ?_
  rintro e w' ⟨⟨A, cap, M, rfl, h1, h2, h3⟩, hb⟩
  rw [he] at h1
  exact ⟨⟨A, cap, M, by rw [he], by rw [h1, ← hl], h2, h3⟩, hb⟩
theorem ex6 : Con.ex.mrE [Pat.waive 0] [Pat.span 1 5] = (0, 0, 0) := by decide
theorem ex6L : Con.ex.mrL [Pat.waive 0] [Pat.span 1 5] = [Pat.waive 0, Pat.span 1 5] := by decide
theorem ex7 : Con.ex.mrE [Pat.span 0 5] [Pat.span 0 6] = (16, 0, 0) := by decide
theorem ex8 : Con.ex.mrE [Pat.plus 7] [Pat.plus 7, Pat.waive 2] = (0, 0, 0) := by decide
theorem ex8L : Con.ex.mrL [Pat.plus 7] [Pat.plus 7, Pat.waive 2] = [Pat.plus 7, Pat.plus 7, Pat.waive 3] := by decide
theorem ex9 : Con.ex.mrE [Pat.waive 1, Pat.waive 0] [Pat.repl 0 5] = (16, 1, 0) := by decide
theorem ex10 : Con.ex.allE [Pat.plus 7, Pat.plus 7, Pat.waive 3] = 0 := by decide
/-- the example after the merged patches -/
def Con.exd : Con := { Con.ex with cl := [Cla.at 3, Cla.at 4, Cla.at 7, { Cla.at 7 with waived := true }] }
theorem ex10C : Con.ex.allC [Pat.plus 7, Pat.plus 7, Pat.waive 3] = Con.exd := by decide
theorem all_at (m : Cm) (L : List Pk) (A : Option Addr) (cap : Nat) (W : World) (h : Cont W Con.ex m) (hL : Pats W A L) (he : pats L = [Pat.plus 7, Pat.plus 7, Pat.waive 3]) :
    Calls Try.prog 11 #[.agg (coA Con.ex m), .slice A L.length cap] W fun e w' => (∃ m', e = .returned (.tuple #[.agg (coA Con.exd m'), .int .i64 0]) ∧ Cont w' Con.exd m') ∧ Below W.heap.size W w' := by
  refine (all_any Con.ex m L A cap W h hL).mono ?_
  rintro e w' ⟨⟨m', rfl, hc⟩, hb⟩
  rw [he, ex10C] at hc
  exact ⟨⟨m', by rw [he, ex10C, ex10], hc⟩, hb⟩
theorem con_new {W V : World} {t : TypeId} (h : V = W.alloc (.cells coZ t)) : Blk V W.heap.size t coZ ∧ Below W.heap.size W V := by
  rw [h]
  exact ⟨Blk.new _ _ _, wa1 _ _⟩
/-- the example's clauses 2 and 3 in memory -/
structure ExD (w : World) (b : Nat) (m : Cm) (kb ko : Nat) : Prop where
  g : Blk w b 27 (coA Con.exd m)
  k : m.k = some ⟨kb, ko, none⟩
  c3 : w.cell? ⟨kb, ko + 48 + 15, none⟩ = some (.bool true)
  c2 : w.cell? ⟨kb, ko + 32 + 15, none⟩ = some (.bool false)
  l : kb < w.heap.size
theorem ExD.then_ {w w' : World} {b : Nat} {m : Cm} {kb ko : Nat} (h : ExD w b m kb ko) (hb : Below w.heap.size w w') : ExD w' b m kb ko :=
  ⟨h.g.then_ hb, h.k, (hb.cell (p := ⟨kb, _, none⟩) h.l).trans h.c3, (hb.cell (p := ⟨kb, _, none⟩) h.l).trans h.c2, Nat.lt_of_lt_of_le h.l hb.size⟩
theorem exd_cells {w : World} {m : Cm} (h : Cont w Con.exd m) : ∃ kb ko, m.k = some ⟨kb, ko, none⟩ ∧ kb < w.heap.size ∧ w.cell? ⟨kb, ko + 48 + 15, none⟩ = some (.bool true) ∧ w.cell? ⟨kb, ko + 32 + 15, none⟩ = some (.bool false) := by
  obtain ⟨x, hx, ex⟩ := km_at h.e (i := 3) (k := { Cla.at 7 with waived := true }) rfl
  obtain ⟨y, hy, ey⟩ := km_at h.e (i := 2) (k := Cla.at 7) rfl
  obtain ⟨b, o, e, hb, hc⟩ := segAt h.k hx
  obtain ⟨b', o', e', hb', hc'⟩ := segAt h.k hy
  have hv := hc 15 (.bool true) (by show some (Value.bool x.k.waived) = _; rw [ex])
  have hv' := hc' 15 (.bool false) (by show some (Value.bool y.k.waived) = _; rw [ey]; rfl)
  obtain ⟨rfl, rfl⟩ : b = b' ∧ o = o' := by rw [e] at e'; injection e' with e'; injection e' with e1 e2 e3; exact ⟨e1, e2⟩
  exact ⟨b, o, e, hb, hv, hv'⟩
theorem same_at (L R : List Pk) (A1 A2 : Option Addr) (c1 c2 nL nR : Nat) (W : World) (hL : Pats W A1 L) (hR : Pats W A2 R) (n1 : L.length = nL) (n2 : R.length = nR) (he : pats L = pats R) :
    Calls Try.prog 14 #[.slice A1 nL c1, .slice A2 nR c2] W fun e w' => e = .returned (.bool true) ∧ Below W.heap.size W w' := by
  subst n1
  subst n2
  refine (rpats_any A1 A2 c1 c2 L R W hL.s hR.s hL.t hR.t hL.n).mono ?_
  rintro e w' ⟨rfl, hb⟩
  exact ⟨by rw [decide_eq_true he], hb⟩
theorem pats_new3 {W V : World} {t : TypeId} (x y z : Pk) (h : V = W.alloc (.cells (eP x ++ eP y ++ eP z).toArray t)) (hp : PatM W x.p x.m) (hq : PatM W y.p y.m) (hr : PatM W z.p z.m) : Pats V (some ⟨W.heap.size, 0, none⟩) [x, y, z] ∧ Below W.heap.size W V := by
  have hb : Below W.heap.size W V := by rw [h]; exact wa1 _ _
  refine ⟨⟨blk_seg (xs := [x, y, z]) eP_len (by rw [h]; exact Blk.new _ _ _), fun u hu => ?_, by show 3 ≤ 1000000; decide⟩, hb⟩
  rcases List.mem_cons.1 hu with rfl | hu
  · exact hp.then_ hb
  · rcases List.mem_cons.1 hu with rfl | hu
    · exact hq.then_ hb
    · rcases List.mem_cons.1 hu with rfl | hu
      · exact hr.then_ hb
      · cases hu
theorem com_at (c : Con) (m : Cm) (p q : Pat) (pm qm : Pm) (w : World) (R : Bool) (h : Cont w c m) (hp : PatM w p pm) (hq : PatM w q qm) (hr : c.com p q = R) :
    Calls Try.prog 18 #[.agg (coA c m), .agg (pL p pm), .agg (pL q qm)] w fun e w' => e = .returned (.bool R) ∧ Below w.heap.size w w' := by
  subst hr
  exact com_any (Lib.hid same_any) c m p q pm qm w h hp hq
theorem exC1 : Con.ex.com (Pat.plus 7) (Pat.plus 7) = true := by decide
theorem exC2 : Con.ex.com (Pat.waive 0) (Pat.span 0 9) = true := by decide
theorem exC3 : Con.ex.com (Pat.repl 0 5) (Pat.span 0 9) = false := by decide
theorem exC4 : Con.ex.com (Pat.repl 0 5) (Pat.span 0 5) = true := by decide
theorem exC5 : Con.ex.com (Pat.waive 2) (Pat.waive 2) = false := by decide
theorem yieldsIf_arr {P : Program} {ops : Array Oper} {S : World → Prop} {op : Oper} {a : Act} (hw : Region.wanted op (yielded ops a.tmps) = true) (ty : TypeId) (x : Operand) (ho : op.op = .load ty x) (g : Nat) (hx : a.eval x = .pointer (some ⟨g, 0, none⟩)) (t : TypeId) (cs : Array Value) (hS : ∀ w, S w → Blk w g t cs) {n : Nat} {e : TypeId}
    (hu : P.underlying ty = some (.array n e)) (hi : (P.info? ty).map (·.size) = some cs.size) : YieldsIf P ops S op (.agg cs) a := by
  refine .inl ⟨hw, fun w hs => ?_⟩
  have h1 := run_loadVar_row w g t ty cs (0, 0) _ (hS w hs) hu rfl hi
  unfold execOp
  simp only [ho, hx, Instr.loadAt, Instr.sureAddr, Sem.run_bind, Sem.run_pure, Result.andThen_ok]
  rw [h1]
  rfl
end Go.Proofs.Ytcplneglfbdooaa
/- A region of a function by its number: so that the walk of one region may be a theorem of its own. -/
namespace Go.Proofs.Ytcplneglfbdooaa
open Go.RowKit

def findR (n : Nat) : Code → Option Code
  | .region i o d => if i = n then some (.region i o d) else none
  | .seq a b => match findR n a with
    | some c => some c
    | none => findR n b
  | .cond _ a b => match findR n a with
    | some c => some c
    | none => findR n b
  | .block _ a => findR n a
  | .loop a => findR n a
  | .scope a => findR n a
  | _ => none
def atR (f : Func) (n : Nat) : Code := match f.body with
  | some c => match findR n c with
    | some r => r
    | none => .skip
  | none => .skip
theorem wpHB_tk {P : Program} {md : Region.Mode} {ops : Array Oper} {Q : Exit → Act → World → Prop} {S : World → Prop} {hs ts : List Nat} {i : Nat} {oi : Oper} {v : Value} {f : Nat} {listed : Array Bool} {a : Act} {w : World} (hd : dirB md ops hs = true) (hsel : Region.noSelect ops = true) (hQ : PanOk Q) (hi : ops[i]? = some oi)
    (hk : (hs.contains i && Region.free md ops listed i && (Region.ready md ops listed).contains i) = true) (hy : YieldsIf P ops S oi v a) (hS : S w)
    (h : wpHB P md ops Q S hs ts f (listed.setIfInBounds i true) (a.put oi.dst v) w) : wpHB P md ops Q S hs ts (f + 1) listed a w := by
  simp only [Bool.and_eq_true] at hk
  exact wpHB_take hd hsel hQ hi hk.1.1 hk.1.2 hk.2 hy hS h
end Go.Proofs.Ytcplneglfbdooaa
