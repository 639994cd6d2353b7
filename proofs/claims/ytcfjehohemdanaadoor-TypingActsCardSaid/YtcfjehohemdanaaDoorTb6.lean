/- quantity.Covers at lists of one ratio; isPositive; the checks badFactor, badLot. -/
import Derived.Test.YtcfjehohemdanaaDoorTb5
import Derived.Test.YtcfjehohemdanaaDoorQt
namespace Go.Proofs.YtcfjehohemdanaaDoor
open Go.RowKit Go.Sort

set_option maxRecDepth 100000 in
set_option maxHeartbeats 3200000 in
/-- two lists of one valid ratio -/
theorem cov_one (b1 b2 c d : Nat) (q r : Rat) (w : World) (hq : inR q = true) (hr : inR r = true) (x0 : w.cell? ⟨b1, 0, none⟩ = some (.int .i64 q.num)) (x1 : w.cell? ⟨b1, 1, none⟩ = some (.int .i64 q.den)) (y0 : w.cell? ⟨b2, 0, none⟩ = some (.int .i64 r.num)) (y1 : w.cell? ⟨b2, 1, none⟩ = some (.int .i64 r.den)) :
    Calls Tryd.prog 48 #[.slice (some ⟨b1, 0, none⟩) 1 c, .slice (some ⟨b2, 0, none⟩) 1 d] w fun e w' => e = .returned (.bool (decide (0 ≤ cmpN q r))) ∧ Below w.heap.size w w' := by
  have bq := inR_bd hq
  have br := inR_bd hr
  have HV : Hid (∀ (n d : Int) (W : World), ((n = q.num ∧ d = q.den) ∨ (n = r.num ∧ d = r.den)) → Calls Tryd.prog 51 #[.agg #[.int .i64 n, .int .i64 d]] W fun e w' => e = .returned (.bool true) ∧ Below W.heap.size W w') := fun n d W h => by
    have := valid_any n d W (by omega) (by omega) (by omega) (by omega)
    rcases h with ⟨rfl, rfl⟩ | ⟨rfl, rfl⟩
    · rwa [inR_vld hq] at this
    · rwa [inR_vld hr] at this
  have HC0 := Lib.hid (fun W => cmp_any q r W hq hr)
  obtain ⟨z, hz⟩ : ∃ z, cmpN q r = z := ⟨_, rfl⟩
  rw [hz] at HC0
  have HC : Hid (∀ W, Calls Tryd.prog 52 #[.agg #[.int .i64 q.num, .int .i64 q.den], .agg #[.int .i64 r.num, .int .i64 r.den]] W fun e w' => e = .returned (.int .i64 z) ∧ Below W.heap.size W w') := HC0
  rw [hz]
  have l1 : b1 < w.heap.size := block_lt_of_cell x0
  have l2 : b2 < w.heap.size := block_lt_of_cell y0
  clear hz bq br hq hr HC0
  generalize q.num = qn at HV HC x0
  generalize (q.den : Int) = qd at HV HC x1
  generalize r.num = rn at HV HC y0
  generalize (r.den : Int) = rd at HV HC y1
  go_enter Tryd.func48, Tryd.ntmps48
  go_upto_region 4 with (fail)
  go_loopw [13] (fun x WR => ((x = .int .i64 0 ∧ WR = w) ∨ (x = .int .i64 1 ∧ ¬ z < 0)) ∧ Below w.heap.size w WR) (fun x _ => 2000 - (intOf x).toNat)
  case atStart => exact ⟨.inl ⟨rfl, rfl⟩, Below.refl _ _⟩
  case round =>
    obtain ⟨⟨rfl, rfl⟩ | ⟨rfl, hz⟩, hbr⟩ := hrel
    · by_cases h0 : z < 0
      · have hf : Hid (decide (0 ≤ z) = false) := decide_eq_false (by omega)
        have h0' : decide (z < 0) = true := decide_eq_true h0
        go_upto_region 6 with (fail)
        have rg0 := cell_regrown x0
        have rg1 := cell_regrown x1
        have rg2 := cell_regrown y0
        have rg3 := cell_regrown y1
        refine wp_region_qt [0, 1, 2, 3, 4, 5, 6, 7, 8, 9, 10, 11, 12, 13, 14, 15, 16, 17, 18, 19, 20, 21, 22, 23, 24, 25] [] (by kernel_rfl) (by kernel_rfl) (by repeat (first | with_reducible refine panOk_then ?_ | with_reducible refine panOk_block ?_ | exact panOk_body)) ?_
        simp only [opsAt, List.getElem?_toArray, List.getElem?_cons_succ, List.getElem?_cons_zero, Option.toList_some, List.cons_append, List.nil_append]
        repeat (go_big_quiet_step ((first | (go_at_call 51; exact qt_call (fun W' _ => HV.out _ _ W' (by first | exact .inl ⟨rfl, rfl⟩ | exact .inr ⟨rfl, rfl⟩)) _ _) | (go_at_call 52; exact qt_call (fun W' _ => HC.out W') _ _))))
        refine wpQuiet_nil ?_
        intro W2 hw2
        have hbW2 := qt_world hw2
        clear hw2 rg0 rg1 rg2 rg3
        refine wpList_done ?_
        go_wp2
        go_ret
        exact ⟨ret_bool hf.out.symm, hbW2⟩
      · have h0' : decide (z < 0) = false := decide_eq_false h0
        go_upto_region 6 with (fail)
        have rg0 := cell_regrown x0
        have rg1 := cell_regrown x1
        have rg2 := cell_regrown y0
        have rg3 := cell_regrown y1
        refine wp_region_qt [0, 1, 2, 3, 4, 5, 6, 7, 8, 9, 10, 11, 12, 13, 14, 15, 16, 17, 18, 19, 20, 21, 22, 23, 24, 25] [] (by kernel_rfl) (by kernel_rfl) (by repeat (first | with_reducible refine panOk_then ?_ | with_reducible refine panOk_block ?_ | exact panOk_body)) ?_
        simp only [opsAt, List.getElem?_toArray, List.getElem?_cons_succ, List.getElem?_cons_zero, Option.toList_some, List.cons_append, List.nil_append]
        repeat (go_big_quiet_step ((first | (go_at_call 51; exact qt_call (fun W' _ => HV.out _ _ W' (by first | exact .inl ⟨rfl, rfl⟩ | exact .inr ⟨rfl, rfl⟩)) _ _) | (go_at_call 52; exact qt_call (fun W' _ => HC.out W') _ _))))
        refine wpQuiet_nil ?_
        intro W2 hw2
        have hbW2 := qt_world hw2
        clear hw2 rg0 rg1 rg2 rg3
        refine wpList_done ?_
        go_wp2
        go_roundw
        case rel => exact ⟨.inr ⟨by go_num, h0⟩, hbW2⟩
        case measure => simp [intOf]
    · have hf : Hid (decide (0 ≤ z) = true) := decide_eq_true (by omega)
      have HBR := Lib.hid hbr
      go_wp2
      go_ret
      exact ⟨ret_bool (by first | rfl | exact hf.out.symm), HBR.out⟩
set_option maxRecDepth 100000 in
set_option maxHeartbeats 3200000 in
/-- the first list's ratio is not valid -/
theorem cov_bad (b1 b2 c d : Nat) (n k : Int) (w : World) (hv : vld n k = false) (hn1 : -9223372036854775808 ≤ n) (hn2 : n ≤ 9223372036854775807) (hd1 : -9223372036854775808 ≤ k) (hd2 : k ≤ 9223372036854775807) (x0 : w.cell? ⟨b1, 0, none⟩ = some (.int .i64 n)) (x1 : w.cell? ⟨b1, 1, none⟩ = some (.int .i64 k)) :
    Calls Tryd.prog 48 #[.slice (some ⟨b1, 0, none⟩) 1 c, .slice (some ⟨b2, 0, none⟩) 1 d] w fun e w' => e = .returned (.bool false) ∧ Below w.heap.size w w' := by
  have HV1 : Hid (∀ W, Calls Tryd.prog 51 #[.agg #[.int .i64 n, .int .i64 k]] W fun e w' => e = .returned (.bool false) ∧ Below W.heap.size W w') := fun W => by
    have := valid_any n k W hn1 hn2 hd1 hd2
    rwa [hv] at this
  have l1 : b1 < w.heap.size := block_lt_of_cell x0
  clear hv hn1 hn2 hd1 hd2
  go_enter Tryd.func48, Tryd.ntmps48
  go_upto_region 4 with (fail)
  go_loopw [13] (fun x WR => x = .int .i64 0 ∧ WR = w) (fun x _ => 2000 - (intOf x).toNat)
  case atStart => exact ⟨rfl, rfl⟩
  case round =>
    obtain ⟨rfl, rfl⟩ := hrel
    go_upto_region 6 with (fail)
    have rg0 := cell_regrown x0
    have rg1 := cell_regrown x1
    refine wp_region_qt [0, 1, 2, 3, 4, 5, 6, 7, 8, 9, 10, 11, 12, 13, 14, 15, 16, 17, 18, 19, 20, 21, 22, 23, 24, 25] [] (by kernel_rfl) (by kernel_rfl) (by repeat (first | with_reducible refine panOk_then ?_ | with_reducible refine panOk_block ?_ | exact panOk_body)) ?_
    simp only [opsAt, List.getElem?_toArray, List.getElem?_cons_succ, List.getElem?_cons_zero, Option.toList_some, List.cons_append, List.nil_append]
    repeat (go_big_quiet_step ((go_at_call 51; exact qt_call (fun W' _ => HV1.out W') _ _)))
    refine wpQuiet_nil ?_
    intro W2 hw2
    have hbW2 := qt_world hw2
    clear hw2 rg0 rg1
    refine wpList_done ?_
    go_wp2
    go_ret
    exact ⟨rfl, hbW2⟩
theorem rat0_in : inR 0 = true := by decide
/-- numbers of 64 bits -/
def b64 (n : Int) : Prop := -9223372036854775808 ≤ n ∧ n ≤ 9223372036854775807
theorem psv_pos {r : Rat} (hr : inR r = true) : psv (r.num, r.den) = (decide (0 ≤ cmpN r 0) && !decide (0 ≤ cmpN 0 r)) := by
  have h1 : (r < 0 ↔ r.num < 0) := by rw [Rat.lt_iff]; simp
  have h2 : (0 < r ↔ 0 < r.num) := by rw [Rat.lt_iff]; simp
  simp only [psv, inR_vld hr, Bool.true_and]
  by_cases h3 : r < 0
  · have e1 : cmpN r 0 = -1 := by unfold cmpN; rw [if_pos h3]
    have := h1.1 h3
    rw [e1]; simp; omega
  · by_cases h4 : 0 < r
    · have e1 : cmpN r 0 = 1 := by unfold cmpN; rw [if_neg h3, if_pos h4]
      have e2 : cmpN 0 r = -1 := by unfold cmpN; rw [if_pos h4]
      have := h2.1 h4
      rw [e1, e2]; simp; omega
    · have e2 : cmpN 0 r = 0 := by unfold cmpN; rw [if_neg h4, if_neg h3]
      have : ¬ 0 < r.num := fun h => h4 (h2.2 h)
      rw [e2]; simp; omega
theorem three_cells (w : World) (c0 c1 c2 : Array Value) (t0 t1 t2 : TypeId) (X : World) (hX : X = ((w.alloc (.cells c0 t0)).alloc (.cells c1 t1)).alloc (.cells c2 t2)) :
    Blk X (w.heap.size + 1) t1 c1 ∧ Blk X (w.heap.size + 1 + 1) t2 c2 ∧ Below w.heap.size w X := by
  subst hX
  refine ⟨?_, ?_, below_alloc (below_alloc (below_alloc (Below.refl _ _) _) _) _⟩
  · have := (Blk.new (w.alloc (.cells c0 t0)) t1 c1).alloc (.cells c2 t2)
    simpa using this
  · have := Blk.new ((w.alloc (.cells c0 t0)).alloc (.cells c1 t1)) t2 c2
    simpa using this
set_option maxRecDepth 100000 in
set_option maxHeartbeats 3200000 in
theorem isPos_any (n k : Int) (w : World) (hn : b64 n) (hk : b64 k) : Calls Tryd.prog 43 #[.agg #[.int .i64 n, .int .i64 k]] w fun e w' => e = .returned (.bool (psv (n, k))) ∧ Below w.heap.size w w' := by
  obtain ⟨hn1, hn2⟩ := hn
  obtain ⟨hk1, hk2⟩ := hk
  cases hv : vld n k with
  | false =>
    have hp : Hid (psv (n, k) = false) := by simp [Hid, psv, hv]
    have HC := Lib.hid (fun (b1 b2 c d : Nat) (W : World) => cov_bad b1 b2 c d n k W hv hn1 hn2 hk1 hk2)
    clear hv hn1 hn2 hk1 hk2
    go_enter Tryd.func43, Tryd.ntmps43
    go_upto_region 2 with (fail)
    refine name_wp ?_
    intro X hX
    obtain ⟨g1, g2, hbX⟩ := three_cells w _ _ _ _ _ _ X hX
    clear hX
    have C1 := HC.out _ (w.heap.size + 1 + 1) 1 1 X (g1.cell 0) (g1.cell 1)
    have HB := Lib.hid hbX
    clear g1 g2 hbX HC
    go_wp2_with (go_at_call 48; (with_reducible refine C1.mono ?_); rintro e w1 ⟨rfl, hb⟩)
    go_ret
    exact ⟨ret_bool hp.out.symm, below_then HB.out hb⟩
  | true =>
    obtain ⟨r, r1, r2, r3⟩ := rat_of_vld hv
    have hp := Lib.hid (psv_pos r1)
    rw [r2, r3] at hp
    have HC := Lib.hid (fun (b1 b2 c d : Nat) (W : World) => cov_one b1 b2 c d r 0 W r1 rat0_in)
    have HD := Lib.hid (fun (b1 b2 c d : Nat) (W : World) => cov_one b1 b2 c d 0 r W rat0_in r1)
    rw [r2, r3] at HC HD
    obtain ⟨x, hx⟩ : ∃ x, decide (0 ≤ cmpN r 0) = x := ⟨_, rfl⟩
    obtain ⟨y, hy⟩ : ∃ y, decide (0 ≤ cmpN 0 r) = y := ⟨_, rfl⟩
    rw [hx, hy] at hp
    rw [hx] at HC
    rw [hy] at HD
    clear hv hn1 hn2 hk1 hk2 hx hy r1 r2 r3
    go_enter Tryd.func43, Tryd.ntmps43
    go_upto_region 2 with (fail)
    refine name_wp ?_
    intro X hX
    obtain ⟨g1, g2, hbX⟩ := three_cells w _ _ _ _ _ _ X hX
    clear hX
    have C1 := HC.out _ _ 1 1 X (g1.cell 0) (g1.cell 1) (g2.cell 0) (g2.cell 1)
    have G1 := Lib.hid g1
    have G2 := Lib.hid g2
    have HB := Lib.hid hbX
    clear g1 g2 hbX HC
    cases x with
    | false =>
      go_wp2_with (go_at_call 48; (with_reducible refine C1.mono ?_); rintro e w1 ⟨rfl, hb⟩)
      go_ret
      exact ⟨ret_bool hp.out.symm, below_then HB.out hb⟩
    | true =>
      go_wp2_with (go_at_call 48; first | ((with_reducible refine C1.mono ?_); rintro e w1 ⟨rfl, hb⟩; have D1 := HD.out _ _ 1 1 w1 ((G2.out.then_ hb).cell 0) ((G2.out.then_ hb).cell 1) ((G1.out.then_ hb).cell 0) ((G1.out.then_ hb).cell 1)) | ((with_reducible refine D1.mono ?_); rintro e w2 ⟨rfl, hb2⟩))
      go_ret
      exact ⟨ret_bool (by rw [hp.out]; rfl), below_then (below_then HB.out (by assumption)) (by assumption)⟩
end Go.Proofs.YtcfjehohemdanaaDoor
