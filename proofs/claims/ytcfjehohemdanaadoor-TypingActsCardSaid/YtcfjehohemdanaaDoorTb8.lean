/- The check badBeginning at a subject. -/
import Derived.Test.YtcfjehohemdanaaDoorTb5
import Derived.Test.YtcfjehohemdanaaDoorD03
import Derived.DeepKeys
namespace Go.Proofs.YtcfjehohemdanaaDoor
open Go.RowKit Go.Sort

set_option maxRecDepth 100000 in
theorem eqv7 (y0 y1 y2 y3 y4 y5 y6 : Bool) (w : World) : (Op.equalIn 10000 24 (.agg #[.bool y0, .bool y1, .bool y2, .bool y3, .bool y4, .bool y5, .bool y6]) (.agg #[.bool true, .bool true, .bool true, .bool true, .bool true, .bool true, .bool true])).run Tryd.prog w = .ok (decide ([y0, y1, y2, y3, y4, y5, y6] = [true, true, true, true, true, true, true])) w := by
  obtain ⟨r, h1, h2⟩ := run_equalIn_deep (P := Tryd.prog) 9998 2 24 (by kernel_rfl) w 3 3 (.agg #[.bool y0, .bool y1, .bool y2, .bool y3, .bool y4, .bool y5, .bool y6]) (.agg #[.bool true, .bool true, .bool true, .bool true, .bool true, .bool true, .bool true]) ([y0, y1, y2, y3, y4, y5, y6].map Lit.bool) ([true, true, true, true, true, true, true].map Lit.bool) (by kernel_rfl) (by kernel_rfl) (by kernel_rfl) (by kernel_rfl)
  refine h1.trans ?_
  congr 1
  have h3 : ([y0, y1, y2, y3, y4, y5, y6].map Lit.bool = [true, true, true, true, true, true, true].map Lit.bool) ↔ ([y0, y1, y2, y3, y4, y5, y6] = [true, true, true, true, true, true, true]) := by simp
  cases r
  · exact (decide_eq_false (fun e => by simpa using h2.2 (h3.2 e))).symm
  · exact (decide_eq_true (h3.1 (h2.1 rfl))).symm
set_option maxRecDepth 100000 in
set_option maxHeartbeats 3200000 in
theorem badBg_any (s : Sy) (m : Sm) (i : Int) (w : World) (ht : Tb w) :
    Calls Tryd.prog 22 #[.agg (sbA s m i)] w fun e w' => e = .returned (.bool (badBg s)) ∧ Below w.heap.size w w' := by
  have HN := Lib.hid (fun W (hb : Below w.heap.size w W) => nNumber_any s.y s.mo s.dd W (ht.below hb))
  clear ht
  cases hok : okC s.y s.mo s.dd with
  | false =>
    have hp : Hid (badBg s = true) := by simp [Hid, badBg, hok]
    have H := Lib.hid (show nuN s.y s.mo s.dd = 0 ∧ nuE s.y s.mo s.dd = 1 by simp [nuN, nuE, hok])
    simp only [H.out.1, H.out.2] at HN
    clear hok
    go_enter Tryd.func22, Tryd.ntmps22
    go_wp2_with (go_at_call 15; (with_reducible refine (HN.out _ (wa1 _ _)).mono ?_); rintro e w1 ⟨rfl, hb⟩)
    go_ret
    exact ⟨ret_bool hp.out.symm, below_then (wa1 _ _) hb⟩
  | true =>
    obtain ⟨N, hN⟩ : ∃ N, num s.y s.mo s.dd = N := ⟨_, rfl⟩
    have hN0 : Hid (0 ≤ N ∧ N ≤ 73048) := by rw [← hN]; exact num_bd hok
    have H := Lib.hid (show nuN s.y s.mo s.dd = N ∧ nuE s.y s.mo s.dd = 0 by simp [nuN, nuE, hok, hN])
    simp only [H.out.1, H.out.2] at HN
    have hp : Hid (badBg s = (!(inn s.days 1 2000) || decide (73048 < N + s.days) || allW s)) := by simp [Hid, badBg, hok, hN]
    clear hok hN
    cases hd : inn s.days 1 2000 with
    | false =>
      rw [hd] at hp
      have hI := Lib.hid (inn_any s.days 1 2000)
      rw [hd] at hI
      clear hd
      go_enter Tryd.func22, Tryd.ntmps22
      go_wp2_with (first | (go_at_call 15; (with_reducible refine (HN.out _ (wa1 _ _)).mono ?_); rintro e w1 ⟨rfl, hb⟩; obtain ⟨hc, hf⟩ := bcell hb; have hz := hb.size; (try simp at hz); (have zl0 : w.heap.size < w1.heap.size := by omega); (have ze0 : w.heap.size ≤ w1.heap.size := by omega)) | (go_at_call 42; (with_reducible refine (hI.out _).mono ?_); rintro e w2 ⟨rfl, rfl⟩))
      go_ret
      exact ⟨ret_bool (by rw [hp.out]; rfl), below_then (wa1 _ _) hb⟩
    | true =>
      rw [hd] at hp
      have hI := Lib.hid (inn_any s.days 1 2000)
      rw [hd] at hI
      have hdd : 1 ≤ s.days ∧ s.days ≤ 2000 := by simpa [inn] using hd
      have n0 := hN0.out.1
      have n1 := hN0.out.2
      have d0 := hdd.1
      have d1 := hdd.2
      clear hd
      by_cases hb9 : 73048 < N + s.days
      · have hb9' : decide (73048 < N + s.days) = true := decide_eq_true hb9
        go_enter Tryd.func22, Tryd.ntmps22
        go_wp2_with (first | (go_at_call 15; (with_reducible refine (HN.out _ (wa1 _ _)).mono ?_); rintro e w1 ⟨rfl, hb⟩; obtain ⟨hc, hf⟩ := bcell hb; have hz := hb.size; (try simp at hz); (have zl0 : w.heap.size < w1.heap.size := by omega); (have ze0 : w.heap.size ≤ w1.heap.size := by omega)) | (go_at_call 42; (with_reducible refine (hI.out _).mono ?_); rintro e w2 ⟨rfl, rfl⟩))
        go_ret
        exact ⟨ret_bool (by rw [hp.out, hb9']; rfl), below_then (wa1 _ _) hb⟩
      · have hb9' : decide (73048 < N + s.days) = false := decide_eq_false hb9
        have hq := fun W => eqv7 s.wk.1 s.wk.2.1 s.wk.2.2.1 s.wk.2.2.2.1 s.wk.2.2.2.2.1 s.wk.2.2.2.2.2.1 s.wk.2.2.2.2.2.2 W
        have hw : Hid (allW s = decide ([s.wk.1, s.wk.2.1, s.wk.2.2.1, s.wk.2.2.2.1, s.wk.2.2.2.2.1, s.wk.2.2.2.2.2.1, s.wk.2.2.2.2.2.2] = [true, true, true, true, true, true, true])) := by
          unfold Hid allW
          rw [Bool.eq_iff_iff]
          simp [Prod.ext_iff]
        obtain ⟨z, hz⟩ : ∃ z, z = decide ([s.wk.1, s.wk.2.1, s.wk.2.2.1, s.wk.2.2.2.1, s.wk.2.2.2.2.1, s.wk.2.2.2.2.2.1, s.wk.2.2.2.2.2.2] = [true, true, true, true, true, true, true]) := ⟨_, rfl⟩
        rw [← hz] at hw
        simp only [← hz] at hq
        clear hz
        go_enter Tryd.func22, Tryd.ntmps22
        go_wp2_with (first | (go_at_call 15; (with_reducible refine (HN.out _ (wa1 _ _)).mono ?_); rintro e w1 ⟨rfl, hb⟩; obtain ⟨hc, hf⟩ := bcell hb; have hz := hb.size; (try simp at hz); (have zl0 : w.heap.size < w1.heap.size := by omega); (have ze0 : w.heap.size ≤ w1.heap.size := by omega)) | (go_at_call 42; (with_reducible refine (hI.out _).mono ?_); rintro e w2 ⟨rfl, rfl⟩))
        go_ret
        exact ⟨ret_bool (by rw [hp.out, hb9', hw.out]; rfl), below_then (wa1 _ _) hb⟩
end Go.Proofs.YtcfjehohemdanaaDoor
