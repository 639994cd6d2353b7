/- The walks of package date, third part: the exported functions on dates. -/
import Derived.Test.YtcfjehohemdanaaDoorD02
namespace Go.Proofs.YtcfjehohemdanaaDoor
open Go.RowKit Go.Sort

theorem nyB (y : Int) (w : World) (h0 : 1990 ≤ y) (h1 : y ≤ 10000) : Calls Tryd.prog 46 #[.int .i64 y] w fun e w' => e = .returned (.int .i64 (ny y)) ∧ Below w.heap.size w w' := (ny_any y w h0 h1).mono fun _ _ ⟨a, b⟩ => ⟨a, b ▸ Below.refl _ _⟩
theorem dbfB (y m : Int) (w : World) (h0 : 0 ≤ y) (h1 : y ≤ 100000) (hm0 : 1 ≤ m) (hm1 : m ≤ 13) (ht : Tb w) : Calls Tryd.prog 45 #[.int .i64 y, .int .i64 m] w fun e w' => e = .returned (.int .i64 (dbm y m)) ∧ Below w.heap.size w w' := (dbf_any y m w h0 h1 hm0 hm1 ht).mono fun _ _ ⟨a, b⟩ => ⟨a, b ▸ Below.refl _ _⟩
theorem lenB (y m : Int) (w : World) (h0 : 0 ≤ y) (h1 : y ≤ 100000) (hm0 : 1 ≤ m) (hm1 : m ≤ 12) (ht : Tb w) : Calls Tryd.prog 33 #[.int .i64 y, .int .i64 m] w fun e w' => e = .returned (.int .i64 (len y m)) ∧ Below w.heap.size w w' := (len_any y m w h0 h1 hm0 hm1 ht).mono fun _ _ ⟨a, b⟩ => ⟨a, b ▸ Below.refl _ _⟩
theorem number_any (y m d : Int) (w : World) (h : okC y m d = true) (ht : Tb w) :
    Calls Tryd.prog 34 #[.agg #[.int .i64 y, .int .i64 m, .int .i64 d]] w fun e w' => e = .returned (.int .i64 (num y m d)) ∧ Below w.heap.size w w' := by
  obtain ⟨h1, h2, h3, h4, h5, h6⟩ := okC_of h
  have a := num_bd h
  have b1 := dbm_bd y m h3 (by omega)
  have b2 := ny_mono 1990 y h1
  have b3 := ny_mono y 2190 (by omega)
  rw [ny_1990] at b2
  rw [ny_2190] at b3
  have b4 := len_bd y m h3 h4
  have HT := Lib.hid ht
  have HN : Hid (num y m d = ny y + dbm y m + d - 1) := rfl
  clear ht h
  go_enter Tryd.func34, Tryd.ntmps34
  go_wp2_with fail
  have HTa := Lib.hid (HT.out.below (wa1 w (.cells #[.int .i64 y, .int .i64 m, .int .i64 d] 23)))
  obtain ⟨k0, k1, k2, _⟩ := blk_three (Blk.new w 23 #[.int .i64 y, .int .i64 m, .int .i64 d])
  have rg0 := cell_regrown k0
  have rg1 := cell_regrown k1
  have rg2 := cell_regrown k2
  refine wp_region_qt [0, 1, 2, 3, 4, 5, 6, 7, 8, 9, 10, 11, 12, 13] [] (by kernel_rfl) (by kernel_rfl) (by repeat (first | with_reducible refine panOk_then ?_ | with_reducible refine panOk_block ?_ | exact panOk_body)) ?_
  simp only [opsAt, List.getElem?_toArray, List.getElem?_cons_succ, List.getElem?_cons_zero, Option.toList_some, List.cons_append, List.nil_append]
  repeat (go_big_quiet_step ((first | (go_at_call 46; exact qt_call (fun W' _ => nyB y W' h1 (by omega)) _ _) | (go_at_call 45; exact qt_call (fun W' hW => dbfB y m W' (by omega) (by omega) h3 (by omega) (HTa.out.below hW)) _ _))))
  refine wpQuiet_nil ?_
  intro we hw2
  have hbwe := qt_world hw2
  clear hw2 rg0 rg1 rg2
  refine wpList_done ?_
  go_wp2_with fail
  go_ret
  exact ⟨ret_int (by rw [HN.out]), below_then (wa1 _ _) hbwe⟩
def nuN (y m d : Int) : Int := if okC y m d then num y m d else 0
def nuE (y m d : Int) : Int := if okC y m d then 0 else 1
theorem tup_ii {a b a' b' : Int} (h1 : a = a') (h2 : b = b') : Ending.returned (.tuple #[.int .i64 a, .int .i64 b]) = .returned (.tuple #[.int .i64 a', .int .i64 b']) := by rw [h1, h2]
theorem okC_cases {y m d : Int} (h : okC y m d = false) : y < 1990 ∨ (1990 ≤ y ∧ 2189 < y) ∨ (1990 ≤ y ∧ y ≤ 2189 ∧ m < 1) ∨ (1990 ≤ y ∧ y ≤ 2189 ∧ 1 ≤ m ∧ 12 < m) ∨ (1990 ≤ y ∧ y ≤ 2189 ∧ 1 ≤ m ∧ m ≤ 12 ∧ d < 1) ∨ (1990 ≤ y ∧ y ≤ 2189 ∧ 1 ≤ m ∧ m ≤ 12 ∧ 1 ≤ d ∧ len y m < d) := by
  simp only [okC, decide_eq_false_iff_not] at h
  omega
set_option maxHeartbeats 1600000 in
theorem nNumber_any (y m d : Int) (w : World) (ht : Tb w) :
    Calls Tryd.prog 15 #[.agg #[.int .i64 y, .int .i64 m, .int .i64 d]] w fun e w' => e = .returned (.tuple #[.int .i64 (nuN y m d), .int .i64 (nuE y m d)]) ∧ Below w.heap.size w w' := by
  have HT := Lib.hid ht
  have HTa := Lib.hid (ht.below (wa1 w (.cells #[.int .i64 y, .int .i64 m, .int .i64 d] 23)))
  obtain ⟨k0, k1, k2, _⟩ := blk_three (Blk.new w 23 #[.int .i64 y, .int .i64 m, .int .i64 d])
  clear ht
  cases h : okC y m d with
  | false =>
    have H := Lib.hid (show nuN y m d = 0 ∧ nuE y m d = 1 by simp [nuN, nuE, h])
    have hc := okC_cases h
    clear h
    rcases hc with c1 | ⟨c1, c2⟩ | ⟨c1, c2, c3⟩ | ⟨c1, c2, c3, c4⟩ | ⟨c1, c2, c3, c4, c5⟩ | ⟨c1, c2, c3, c4, c5, c6⟩
    · clear k0 k1 k2
      go_enter Tryd.func15, Tryd.ntmps15
      go_wp2
      go_ret2
      exact ⟨tup_ii H.out.1.symm H.out.2.symm, wa1 _ _⟩
    · clear k0 k1 k2
      go_enter Tryd.func15, Tryd.ntmps15
      go_wp2
      go_ret2
      exact ⟨tup_ii H.out.1.symm H.out.2.symm, wa1 _ _⟩
    · clear k0 k1 k2
      go_enter Tryd.func15, Tryd.ntmps15
      go_wp2
      go_ret2
      exact ⟨tup_ii H.out.1.symm H.out.2.symm, wa1 _ _⟩
    · clear k0 k1 k2
      go_enter Tryd.func15, Tryd.ntmps15
      go_wp2
      go_ret2
      exact ⟨tup_ii H.out.1.symm H.out.2.symm, wa1 _ _⟩
    · have e1 : decide (d < 1) = true := by simpa using c5
      go_enter Tryd.func15, Tryd.ntmps15
      go_wp2_with fail
      have rg0 := cell_regrown k0
      have rg1 := cell_regrown k1
      have rg2 := cell_regrown k2
      refine wp_region_qt [0, 1, 2, 3, 4, 5, 6, 7, 8, 9, 10, 11, 12] [] (by kernel_rfl) (by kernel_rfl) (by repeat (first | with_reducible refine panOk_then ?_ | with_reducible refine panOk_block ?_ | exact panOk_body)) ?_
      simp only [opsAt, List.getElem?_toArray, List.getElem?_cons_succ, List.getElem?_cons_zero, Option.toList_some, List.cons_append, List.nil_append]
      repeat (go_big_quiet_step (fail))
      refine wpQuiet_nil ?_
      intro we hw2
      have hbwe := qt_world hw2
      clear hw2 rg0 rg1 rg2
      refine wpList_done ?_
      go_wp2_with fail
      go_ret2
      exact ⟨tup_ii H.out.1.symm H.out.2.symm, below_then (wa1 _ _) hbwe⟩
    · have e1 : decide (d < 1) = false := by simp; omega
      have b4 := len_bd y m c3 c4
      go_enter Tryd.func15, Tryd.ntmps15
      go_wp2_with fail
      have rg0 := cell_regrown k0
      have rg1 := cell_regrown k1
      have rg2 := cell_regrown k2
      refine wp_region_qt [0, 1, 2, 3, 4, 5, 6, 7, 8, 9, 10, 11, 12] [] (by kernel_rfl) (by kernel_rfl) (by repeat (first | with_reducible refine panOk_then ?_ | with_reducible refine panOk_block ?_ | exact panOk_body)) ?_
      simp only [opsAt, List.getElem?_toArray, List.getElem?_cons_succ, List.getElem?_cons_zero, Option.toList_some, List.cons_append, List.nil_append]
      repeat (go_big_quiet_step ((go_at_call 33; exact qt_call (fun W' hW => lenB y m W' (by omega) (by omega) c3 c4 (HTa.out.below hW)) _ _)))
      refine wpQuiet_nil ?_
      intro we hw2
      have hbwe := qt_world hw2
      clear hw2 rg0 rg1 rg2
      refine wpList_done ?_
      go_wp2_with fail
      go_ret2
      exact ⟨tup_ii H.out.1.symm H.out.2.symm, below_then (wa1 _ _) hbwe⟩
  | true =>
    have H := Lib.hid (show nuN y m d = num y m d ∧ nuE y m d = 0 by simp [nuN, nuE, h])
    have HV := Lib.hid h
    obtain ⟨h1, h2, h3, h4, h5, h6⟩ := okC_of h
    clear h
    have e1 : decide (d < 1) = false := by simp; omega
    have b4 := len_bd y m h3 h4
    go_enter Tryd.func15, Tryd.ntmps15
    go_wp2_with fail
    have rg0 := cell_regrown k0
    have rg1 := cell_regrown k1
    have rg2 := cell_regrown k2
    refine wp_region_qt [0, 1, 2, 3, 4, 5, 6, 7, 8, 9, 10, 11, 12] [] (by kernel_rfl) (by kernel_rfl) (by repeat (first | with_reducible refine panOk_then ?_ | with_reducible refine panOk_block ?_ | exact panOk_body)) ?_
    simp only [opsAt, List.getElem?_toArray, List.getElem?_cons_succ, List.getElem?_cons_zero, Option.toList_some, List.cons_append, List.nil_append]
    repeat (go_big_quiet_step ((go_at_call 33; exact qt_call (fun W' hW => lenB y m W' (by omega) (by omega) h3 h4 (HTa.out.below hW)) _ _)))
    refine wpQuiet_nil ?_
    intro we hw2
    have hbwe := qt_world hw2
    clear hw2 rg0 rg1 rg2
    refine wpList_done ?_
    have q0 := (hbwe.cell (block_lt_of_cell k0)).trans k0
    have q1 := (hbwe.cell (block_lt_of_cell k1)).trans k1
    have q2 := (hbwe.cell (block_lt_of_cell k2)).trans k2
    go_wp2_with (go_at_call 34; refine (number_any y m d _ HV.out (HTa.out.below hbwe)).mono ?_; rintro e wn ⟨rfl, hbn⟩)
    go_ret2
    exact ⟨tup_ii H.out.1.symm H.out.2.symm, below_then (below_then (wa1 _ _) hbwe) hbn⟩
end Go.Proofs.YtcfjehohemdanaaDoor
