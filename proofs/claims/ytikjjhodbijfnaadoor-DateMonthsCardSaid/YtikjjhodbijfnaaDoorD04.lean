/- The walk of date.Months. -/
import Derived.Test.YtikjjhodbijfnaaDoorD03
import Derived.Deep.Cut
namespace Go.Proofs.YtikjjhodbijfnaaDoor
open Go.RowKit Go.Sort

theorem Tb.belowB {w w' : World} {B : Nat} (h : Tb w) (h0 : 0 < B) (hb : Below B w w') : Tb w' := fun i hi => (hb.cell (p := ⟨0, i, none⟩) h0).trans (h i hi)
theorem Tb.set {w : World} (h : Tb w) {p : Addr} (hp : 1 ≤ p.block) (v : Value) : Tb (w.setCell p v) := h.belowB (B := 1) (by omega) ((Below.refl 1 w).setCell hp v)
theorem months_bad (n k : Int) (w : World) (h : isD n = false ∨ k < -2400 ∨ 2400 < k) :
    Calls Tryd.prog 13 #[.int .i64 n, .int .i64 k] w fun e w' => e = .returned (.tuple #[.int .i64 0, .int .i64 1]) ∧ Below w.heap.size w w' := by
  cases hd : isD n with
  | false =>
    have HD := Lib.hid hd
    clear h hd
    go_enter Tryd.func13, Tryd.ntmps13
    go_wp2_with (go_at_call 23; refine (isDay_any n _).mono ?_; rw [HD.out]; rintro e w1 ⟨rfl, rfl⟩)
    go_ret2
    exact ⟨rfl, Below.refl _ _⟩
  | true =>
    have HD := Lib.hid hd
    have hc : k < -2400 ∨ (-2400 ≤ k ∧ 2400 < k) := by
      rcases h with h | h | h
      · rw [hd] at h; cases h
      · exact .inl h
      · exact .inr ⟨by omega, h⟩
    clear h hd
    rcases hc with h | ⟨h, h'⟩
    all_goals
      go_enter Tryd.func13, Tryd.ntmps13
      go_wp2_with (go_at_call 23; refine (isDay_any n _).mono ?_; rw [HD.out]; rintro e w1 ⟨rfl, rfl⟩)
      go_ret2
      exact ⟨rfl, Below.refl _ _⟩
set_option maxHeartbeats 1600000 in
theorem months_any (y m d k : Int) (w : World) (h : okC y m d = true) (hk1 : -2400 ≤ k) (hk2 : k ≤ 2400) (ht : Tb w) :
    Calls Tryd.prog 13 #[.int .i64 (num y m d), .int .i64 k] w fun e w' =>
      e = .returned (.tuple #[.int .i64 (if tot y m k < 23880 ∨ 2189 < mY y m k then 0 else num (mY y m k) (mM y m k) (mD y m d k)), .int .i64 (if tot y m k < 23880 ∨ 2189 < mY y m k then 2 else 0)]) ∧ Below w.heap.size w w' := by
  obtain ⟨h1, h2, h3, h4, h5, h6⟩ := okC_of h
  have b := num_bd h
  have lb := len_bd y m h3 h4
  have HC := Lib.hid (fun W hW => civil_any y m d W h (ht.below hW))
  have HD := Lib.hid (isD_yes b)
  have HV := Lib.hid h
  have HT := Lib.hid ht
  clear h ht
  generalize num y m d = n at *
  have tb : 20000 ≤ tot y m k ∧ tot y m k ≤ 30000 := by unfold tot; omega
  have HM : Hid (mY y m k = tot y m k / 12 ∧ mM y m k = tot y m k % 12 + 1) := ⟨rfl, rfl⟩
  have HTt : Hid (tot y m k = y * 12 + m - 1 + k) := rfl
  have mb := mM_bd y m k
  by_cases hr : tot y m k < 23880 ∨ 2189 < mY y m k
  · have hc : y * 12 + m - 1 + k < 23880 ∨ (23880 ≤ y * 12 + m - 1 + k ∧ 2189 < (y * 12 + m - 1 + k) / 12) := by
      have := HM.out.1
      have := HTt.out
      rcases hr with hr | hr
      · left; omega
      · by_cases q : y * 12 + m - 1 + k < 23880
        · left; exact q
        · right; exact ⟨by omega, by omega⟩
    have HR := Lib.hid hr
    clear hr
    rcases hc with hc | ⟨hc, hc'⟩
    all_goals
      go_enter Tryd.func13, Tryd.ntmps13
      go_wp2_with (first | (go_at_call 23; refine (isDay_any n _).mono ?_; rw [HD.out]; rintro e w1 ⟨rfl, rfl⟩) | (go_at_call 24; refine (HC.out _ (Below.refl _ _)).mono ?_; rintro e w2 ⟨rfl, hb⟩))
      go_ret2
      exact ⟨tup_ii (by first | rfl | exact (if_pos HR.out).symm) (by first | rfl | exact (if_pos HR.out).symm), by (repeat (first | with_reducible assumption | with_reducible refine below_drewN ?_ _ | with_reducible refine Below.drew ?_ | with_reducible refine below_alloc ?_ _ | with_reducible refine Below.setCell ?_ (by first | omega | (simp; done) | (simp; omega)) _ | with_reducible refine below_then ?_ (by with_reducible assumption) | (refine below_then (a := World.drew _) ?_ (by with_reducible assumption))))⟩
  · have hok := mD_ok (d := d) (k := k) HV.out (by omega) (by omega)
    have HO := Lib.hid hok
    have HR := Lib.hid hr
    have hy1 : 1990 ≤ mY y m k := by have := HM.out.1; omega
    have hy2 : mY y m k ≤ 2189 := by omega
    have lb2 := len_bd (mY y m k) (mM y m k) mb.1 mb.2
    have eY := Lib.hid (show (y * 12 + m - 1 + k) / 12 = mY y m k by rw [HM.out.1, HTt.out])
    have eM := Lib.hid (show (y * 12 + m - 1 + k) % 12 + 1 = mM y m k by rw [HM.out.2, HTt.out])
    have c1 : 23880 ≤ y * 12 + m - 1 + k := by have := HTt.out; omega
    have c2 : (y * 12 + m - 1 + k) / 12 ≤ 2189 := by rw [eY.out]; exact hy2
    clear hok hr
    go_enter Tryd.func13, Tryd.ntmps13
    go_upto_region 6 with (first | (go_at_call 23; refine (isDay_any n _).mono ?_; rw [HD.out]; rintro e w1 ⟨rfl, rfl⟩) | (go_at_call 24; refine (HC.out _ (Below.refl _ _)).mono ?_; rintro e w2 ⟨rfl, hb⟩))
    rw [eY.out, eM.out]
    refine name_wp ?_
    intro W1 hW1
    have B1 : Below w.heap.size w W1 := by rw [hW1]; (repeat (first | with_reducible assumption | with_reducible refine below_drewN ?_ _ | with_reducible refine Below.drew ?_ | with_reducible refine below_alloc ?_ _ | with_reducible refine Below.setCell ?_ (by first | omega | (simp; done) | (simp; omega)) _ | with_reducible refine below_then ?_ (by with_reducible assumption) | (refine below_then (a := World.drew _) ?_ (by with_reducible assumption))))
    have K1 : Blk W1 w2.heap.size 23 #[.int .i64 (mY y m k), .int .i64 (mM y m k), .int .i64 d] := by rw [hW1]; exact Blk.new _ _ _
    have T1 := Lib.hid (HT.out.below B1)
    have hww : w.heap.size ≤ w2.heap.size := hb.size
    clear hW1 hb HC
    obtain ⟨k0, k1, k2, k3, k4, k5⟩ := blk_three K1
    have e0 : decide (y * 12 + m - 1 + k < 23880) = false := by simp; omega
    generalize hP : mY y m k = P at *
    generalize hN : mM y m k = N at *
    go_wp2_with fail
    have rg0 := cell_regrown k0
    have rg1 := cell_regrown k1
    have rg2 := cell_regrown k2
    refine wp_region_qt [0, 1, 2, 3, 4, 5, 6, 7, 8] [9] (by kernel_rfl) (by kernel_rfl) (by repeat (first | with_reducible refine panOk_then ?_ | with_reducible refine panOk_block ?_ | exact panOk_body)) ?_
    simp only [opsAt, List.getElem?_toArray, List.getElem?_cons_succ, List.getElem?_cons_zero, Option.toList_some, List.cons_append, List.nil_append]
    repeat (go_big_quiet_step ((go_at_call 21; exact qt_call (fun W' hW => lenB P N W' (by omega) (by omega) mb.1 mb.2 (T1.out.below hW)) _ _)))
    refine wpQuiet_nil ?_
    intro W2 hw2
    have hbW2 := qt_world hw2
    clear hw2 rg0 rg1 rg2
    have K2 := K1.then_ hbW2
    obtain ⟨q0, q1, q2, q3, q4, q5⟩ := blk_three K2
    have hl2 := K2.lt
    clear k0 k1 k2 k3 k4 k5 K1
    have eA : (if len P N < d then len P N else d) = mD y m d k := by
      unfold mD
      rw [hP, hN]
      split <;> split <;> omega
    rw [eA]
    have HO2 := HO.out
    have T2 := Lib.hid (T1.out.below hbW2)
    have hw1 : 1 ≤ w2.heap.size := by have := HT.out.lt; omega
    have B2 := below_then B1 hbW2
    go_wp2_with (go_at_call 22; refine (number_any P N (mD y m d k) _ HO2 (by exact T2.out.set (by simp; omega) _)).mono ?_; rintro e wn ⟨rfl, hbn⟩)
    go_ret2
    exact ⟨tup_ii (by first | rfl | exact (if_neg HR.out).symm) (by first | rfl | exact (if_neg HR.out).symm), below_then (B2.setCell (by simp; omega) _) hbn⟩
end Go.Proofs.YtikjjhodbijfnaaDoor
