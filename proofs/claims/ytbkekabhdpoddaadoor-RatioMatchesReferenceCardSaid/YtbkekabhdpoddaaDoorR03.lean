/- The contracts of the functions of package ratio, third part: Add, Sub, Div at valid ratios. -/
import Derived.Test.YtbkekabhdpoddaaDoorR02
namespace Go.Proofs.YtbkekabhdpoddaaDoor
open Go.RowKit

theorem add_bd {q r : Rat} (hq : inR q = true) (hr : inR r = true) :
    -1000000000000000000 ≤ q.num * r.den ∧ q.num * r.den ≤ 1000000000000000000 ∧ -1000000000000000000 ≤ r.num * q.den ∧ r.num * q.den ≤ 1000000000000000000 ∧ 1 ≤ (q.den : Int) * r.den ∧ (q.den : Int) * r.den ≤ 1000000000000 := by
  obtain ⟨a1, a2, a3, a4⟩ := inR_bd hq
  obtain ⟨b1, b2, b3, b4⟩ := inR_bd hr
  have e1 := mul_bd a1 a2 (show -1000000 ≤ (r.den : Int) by omega) b4
  have e2 := mul_bd b1 b2 (show -1000000 ≤ (q.den : Int) by omega) a4
  have e3 := mul_bd (show -1000000 ≤ (q.den : Int) by omega) a4 (show -1000000 ≤ (r.den : Int) by omega) b4
  have e4 : 0 < (q.den : Int) * r.den := Int.mul_pos (by omega) (by omega)
  omega

/-- ratio.checked at two valid ratios: what the operation gives -/
theorem checked_any (q r : Rat) (k : Nat) (cap : Array Value) (x y z : Int) (w : World) (hq : inR q = true) (hr : inR r = true)
    (hcf : ∀ W, (callFunc k cap).run Tryd.prog W = .ok (.enter k cap) W) (hk : ∀ W, Below w.heap.size w W → Calls Tryd.prog k cap W fun e W' => e = .returned (.tuple #[.agg #[.int .i64 x, .int .i64 y], .int .i64 z]) ∧ Below W.heap.size W W') :
    Calls Tryd.prog 40 #[.agg #[.int .i64 q.num, .int .i64 q.den], .agg #[.int .i64 r.num, .int .i64 r.den], .func (.func k) #[] cap] w fun e w' =>
      e = .returned (.tuple #[.agg #[.int .i64 x, .int .i64 y], .int .i64 z]) ∧ Below w.heap.size w w' := by
  have b1 := inR_bd hq
  have b2 := inR_bd hr
  have v1 := inR_vld hq
  have v2 := inR_vld hr
  have HK := Lib.hid hk
  clear hq hr hk
  go_enter Tryd.func40, Tryd.ntmps40
  go_wp2_with (first | (go_at_call 15; refine (valid_any _ _ _ (by omega) (by omega) (by omega) (by omega)).mono ?_; rintro e w1 ⟨rfl, hb⟩; obtain ⟨hc, hf⟩ := bcell hb; have hz := hb.size; (try simp at hz); (have zl0 : w.heap.size < w1.heap.size := by omega); (have ze0 : w.heap.size ≤ w1.heap.size := by omega); (have zl1 : w.heap.size + 1 < w1.heap.size := by omega); (have ze1 : w.heap.size + 1 ≤ w1.heap.size := by omega); (have zl2 : w.heap.size + 1 + 1 < w1.heap.size := by omega); (have ze2 : w.heap.size + 1 + 1 ≤ w1.heap.size := by omega)) | (with_reducible refine (HK.out _ ?_).mono ?_; case refine_1 => (repeat (first | exact Below.refl _ _ | refine below_drewN ?_ _ | refine Below.drew ?_ | refine below_alloc ?_ _ | refine Below.setCell ?_ (by first | omega | (simp; done) | (simp; omega)) _ | refine below_then ?_ (by assumption))); rintro e w1 ⟨rfl, hb⟩; obtain ⟨hc, hf⟩ := bcell hb; have hz := hb.size; (try simp at hz); (have zl0 : w.heap.size < w1.heap.size := by omega); (have ze0 : w.heap.size ≤ w1.heap.size := by omega); (have zl1 : w.heap.size + 1 < w1.heap.size := by omega); (have ze1 : w.heap.size + 1 ≤ w1.heap.size := by omega); (have zl2 : w.heap.size + 1 + 1 < w1.heap.size := by omega); (have ze2 : w.heap.size + 1 + 1 ≤ w1.heap.size := by omega)))
  refine (HK.out _ ?_).mono ?_
  · (repeat (first | exact Below.refl _ _ | refine below_drewN ?_ _ | refine Below.drew ?_ | refine below_alloc ?_ _ | refine Below.setCell ?_ (by first | omega | (simp; done) | (simp; omega)) _ | refine below_then ?_ (by assumption)))
  rintro e w1 ⟨rfl, hb⟩
  obtain ⟨hc, hf⟩ := bcell hb; have hz := hb.size; (try simp at hz); (have zl0 : w.heap.size < w1.heap.size := by omega); (have ze0 : w.heap.size ≤ w1.heap.size := by omega); (have zl1 : w.heap.size + 1 < w1.heap.size := by omega); (have ze1 : w.heap.size + 1 ≤ w1.heap.size := by omega); (have zl2 : w.heap.size + 1 + 1 < w1.heap.size := by omega); (have ze2 : w.heap.size + 1 + 1 ≤ w1.heap.size := by omega)
  go_wp2
  refine bodyPost_ret (by simp [results, Tryd.results40, go_sem, *]; rfl) rfl ⟨?_, ?_⟩
  · rfl
  · (repeat (first | exact Below.refl _ _ | refine below_drewN ?_ _ | refine Below.drew ?_ | refine below_alloc ?_ _ | refine Below.setCell ?_ (by first | omega | (simp; done) | (simp; omega)) _ | refine below_then ?_ (by assumption)))

theorem add1_any (q r : Rat) (b1 b2 : Nat) (w : World) (hq : inR q = true) (hr : inR r = true) (l1 : b1 < w.heap.size) (l2 : b2 < w.heap.size)
    (c1 : w.cell? ⟨b1, 0, none⟩ = some (.int .i64 q.num)) (c2 : w.cell? ⟨b1, 1, none⟩ = some (.int .i64 q.den)) (c3 : w.cell? ⟨b2, 0, none⟩ = some (.int .i64 r.num)) (c4 : w.cell? ⟨b2, 1, none⟩ = some (.int .i64 r.den)) :
    Calls Tryd.prog 41 #[.pointer (some ⟨b1, 0, none⟩), .pointer (some ⟨b2, 0, none⟩)] w fun e w' =>
      e = .returned (.tuple #[.agg #[.int .i64 (oN (q + r)), .int .i64 (oD (q + r))], .int .i64 (oE (q + r))]) ∧ Below w.heap.size w w' := by
  have bd := add_bd hq hr
  have H := Lib.hid (add_divInt q r)
  clear hq hr
  go_enter Tryd.func41, Tryd.ntmps41
  go_wp2_with (go_at_call 13; refine (make_any _ _ _ (by omega) (by omega) (by omega) (by omega) (by omega)).mono ?_; rintro e w1 ⟨rfl, hb⟩; obtain ⟨hc, hf⟩ := bcell hb; have hz := hb.size; (try simp at hz); (have zl0 : w.heap.size < w1.heap.size := by omega); (have ze0 : w.heap.size ≤ w1.heap.size := by omega))
  refine bodyPost_ret (by simp [results, Tryd.results41, go_sem, *]; rfl) rfl ⟨?_, ?_⟩
  · rw [H.out]
  · (repeat (first | exact Below.refl _ _ | refine below_drewN ?_ _ | refine Below.drew ?_ | refine below_alloc ?_ _ | refine Below.setCell ?_ (by first | omega | (simp; done) | (simp; omega)) _ | refine below_then ?_ (by assumption)))
theorem sub1_any (q r : Rat) (b1 b2 : Nat) (w : World) (hq : inR q = true) (hr : inR r = true) (l1 : b1 < w.heap.size) (l2 : b2 < w.heap.size)
    (c1 : w.cell? ⟨b1, 0, none⟩ = some (.int .i64 q.num)) (c2 : w.cell? ⟨b1, 1, none⟩ = some (.int .i64 q.den)) (c3 : w.cell? ⟨b2, 0, none⟩ = some (.int .i64 r.num)) (c4 : w.cell? ⟨b2, 1, none⟩ = some (.int .i64 r.den)) :
    Calls Tryd.prog 52 #[.pointer (some ⟨b1, 0, none⟩), .pointer (some ⟨b2, 0, none⟩)] w fun e w' =>
      e = .returned (.tuple #[.agg #[.int .i64 (oN (q - r)), .int .i64 (oD (q - r))], .int .i64 (oE (q - r))]) ∧ Below w.heap.size w w' := by
  have bd := add_bd hq hr
  have H := Lib.hid (sub_divInt q r)
  clear hq hr
  go_enter Tryd.func52, Tryd.ntmps52
  go_wp2_with (go_at_call 13; refine (make_any _ _ _ (by omega) (by omega) (by omega) (by omega) (by omega)).mono ?_; rintro e w1 ⟨rfl, hb⟩; obtain ⟨hc, hf⟩ := bcell hb; have hz := hb.size; (try simp at hz); (have zl0 : w.heap.size < w1.heap.size := by omega); (have ze0 : w.heap.size ≤ w1.heap.size := by omega))
  refine bodyPost_ret (by simp [results, Tryd.results52, go_sem, *]; rfl) rfl ⟨?_, ?_⟩
  · rw [H.out]
  · (repeat (first | exact Below.refl _ _ | refine below_drewN ?_ _ | refine Below.drew ?_ | refine below_alloc ?_ _ | refine Below.setCell ?_ (by first | omega | (simp; done) | (simp; omega)) _ | refine below_then ?_ (by assumption)))
theorem div1_any (q r : Rat) (b1 b2 : Nat) (w : World) (hq : inR q = true) (hr : inR r = true) (h0 : r.num ≠ 0) (l1 : b1 < w.heap.size) (l2 : b2 < w.heap.size)
    (c1 : w.cell? ⟨b1, 0, none⟩ = some (.int .i64 q.num)) (c2 : w.cell? ⟨b1, 1, none⟩ = some (.int .i64 q.den)) (c3 : w.cell? ⟨b2, 0, none⟩ = some (.int .i64 r.num)) (c4 : w.cell? ⟨b2, 1, none⟩ = some (.int .i64 r.den)) :
    Calls Tryd.prog 53 #[.pointer (some ⟨b1, 0, none⟩), .pointer (some ⟨b2, 0, none⟩)] w fun e w' =>
      e = .returned (.tuple #[.agg #[.int .i64 (oN (q / r)), .int .i64 (oD (q / r))], .int .i64 (oE (q / r))]) ∧ Below w.heap.size w w' := by
  have bd := add_bd hq hr
  have bd2 := inR_bd hr
  have bd3 := inR_bd hq
  have e5 := mul_bd (show -1000000 ≤ (q.den : Int) by omega) bd3.2.2.2 bd2.1 bd2.2.1
  have e6 : (q.den : Int) * r.num ≠ 0 := Int.mul_ne_zero (by omega) h0
  have H := Lib.hid (div_divInt q r)
  clear hq hr h0
  go_enter Tryd.func53, Tryd.ntmps53
  go_wp2_with (go_at_call 13; refine (make_any _ _ _ (by omega) (by omega) (by omega) (by omega) (by omega)).mono ?_; rintro e w1 ⟨rfl, hb⟩; obtain ⟨hc, hf⟩ := bcell hb; have hz := hb.size; (try simp at hz); (have zl0 : w.heap.size < w1.heap.size := by omega); (have ze0 : w.heap.size ≤ w1.heap.size := by omega))
  refine bodyPost_ret (by simp [results, Tryd.results53, go_sem, *]; rfl) rfl ⟨?_, ?_⟩
  · rw [H.out]
  · (repeat (first | exact Below.refl _ _ | refine below_drewN ?_ _ | refine Below.drew ?_ | refine below_alloc ?_ _ | refine Below.setCell ?_ (by first | omega | (simp; done) | (simp; omega)) _ | refine below_then ?_ (by assumption)))

/-- ratio.Add at two valid ratios -/
theorem add_any (q r : Rat) (w : World) (hq : inR q = true) (hr : inR r = true) :
    Calls Tryd.prog 17 #[.agg #[.int .i64 q.num, .int .i64 q.den], .agg #[.int .i64 r.num, .int .i64 r.den]] w fun e w' =>
      e = .returned (.tuple #[.agg #[.int .i64 (oN (q + r)), .int .i64 (oD (q + r))], .int .i64 (oE (q + r))]) ∧ Below w.heap.size w w' := by
  have HK : Hid (∀ W, Below (((w.alloc (.cells #[.int .i64 q.num, .int .i64 q.den] 25)).alloc (.cells #[.int .i64 r.num, .int .i64 r.den] 25)).alloc (.cells #[.int .i64 0, .int .i64 0] 25)).heap.size (((w.alloc (.cells #[.int .i64 q.num, .int .i64 q.den] 25)).alloc (.cells #[.int .i64 r.num, .int .i64 r.den] 25)).alloc (.cells #[.int .i64 0, .int .i64 0] 25)) W → Calls Tryd.prog 41 #[.pointer (some ⟨w.heap.size, 0, none⟩), .pointer (some ⟨w.heap.size + 1, 0, none⟩)] W fun e W' =>
      e = .returned (.tuple #[.agg #[.int .i64 (oN (q + r)), .int .i64 (oD (q + r))], .int .i64 (oE (q + r))]) ∧ Below W.heap.size W W') := fun W hb => by
    have hz := hb.size
    simp at hz
    refine add1_any q r w.heap.size (w.heap.size + 1) W hq hr (by omega) (by omega) ?_ ?_ ?_ ?_ <;> (rw [hb.cell (by simp <;> omega)]; simp [go_sem])
  go_enter Tryd.func17, Tryd.ntmps17
  go_wp2_with (go_at_call 40; refine (checked_any q r _ _ _ _ _ _ hq hr (fun _ => by kernel_rfl) HK.out).mono ?_; rintro e w1 ⟨rfl, hb⟩; obtain ⟨hc, hf⟩ := bcell hb; have hz := hb.size; (try simp at hz); (have zl0 : w.heap.size < w1.heap.size := by omega); (have ze0 : w.heap.size ≤ w1.heap.size := by omega); (have zl1 : w.heap.size + 1 < w1.heap.size := by omega); (have ze1 : w.heap.size + 1 ≤ w1.heap.size := by omega); (have zl2 : w.heap.size + 1 + 1 < w1.heap.size := by omega); (have ze2 : w.heap.size + 1 + 1 ≤ w1.heap.size := by omega))
  refine bodyPost_ret (by simp [results, Tryd.results17, go_sem, *]; rfl) rfl ⟨?_, ?_⟩
  · rfl
  · (repeat (first | exact Below.refl _ _ | refine below_drewN ?_ _ | refine Below.drew ?_ | refine below_alloc ?_ _ | refine Below.setCell ?_ (by first | omega | (simp; done) | (simp; omega)) _ | refine below_then ?_ (by assumption)))

/-- ratio.Sub at two valid ratios -/
theorem sub_any (q r : Rat) (w : World) (hq : inR q = true) (hr : inR r = true) :
    Calls Tryd.prog 28 #[.agg #[.int .i64 q.num, .int .i64 q.den], .agg #[.int .i64 r.num, .int .i64 r.den]] w fun e w' =>
      e = .returned (.tuple #[.agg #[.int .i64 (oN (q - r)), .int .i64 (oD (q - r))], .int .i64 (oE (q - r))]) ∧ Below w.heap.size w w' := by
  have HK : Hid (∀ W, Below (((w.alloc (.cells #[.int .i64 q.num, .int .i64 q.den] 25)).alloc (.cells #[.int .i64 r.num, .int .i64 r.den] 25)).alloc (.cells #[.int .i64 0, .int .i64 0] 25)).heap.size (((w.alloc (.cells #[.int .i64 q.num, .int .i64 q.den] 25)).alloc (.cells #[.int .i64 r.num, .int .i64 r.den] 25)).alloc (.cells #[.int .i64 0, .int .i64 0] 25)) W → Calls Tryd.prog 52 #[.pointer (some ⟨w.heap.size, 0, none⟩), .pointer (some ⟨w.heap.size + 1, 0, none⟩)] W fun e W' =>
      e = .returned (.tuple #[.agg #[.int .i64 (oN (q - r)), .int .i64 (oD (q - r))], .int .i64 (oE (q - r))]) ∧ Below W.heap.size W W') := fun W hb => by
    have hz := hb.size
    simp at hz
    refine sub1_any q r w.heap.size (w.heap.size + 1) W hq hr (by omega) (by omega) ?_ ?_ ?_ ?_ <;> (rw [hb.cell (by simp <;> omega)]; simp [go_sem])
  go_enter Tryd.func28, Tryd.ntmps28
  go_wp2_with (go_at_call 40; refine (checked_any q r _ _ _ _ _ _ hq hr (fun _ => by kernel_rfl) HK.out).mono ?_; rintro e w1 ⟨rfl, hb⟩; obtain ⟨hc, hf⟩ := bcell hb; have hz := hb.size; (try simp at hz); (have zl0 : w.heap.size < w1.heap.size := by omega); (have ze0 : w.heap.size ≤ w1.heap.size := by omega); (have zl1 : w.heap.size + 1 < w1.heap.size := by omega); (have ze1 : w.heap.size + 1 ≤ w1.heap.size := by omega); (have zl2 : w.heap.size + 1 + 1 < w1.heap.size := by omega); (have ze2 : w.heap.size + 1 + 1 ≤ w1.heap.size := by omega))
  refine bodyPost_ret (by simp [results, Tryd.results28, go_sem, *]; rfl) rfl ⟨?_, ?_⟩
  · rfl
  · (repeat (first | exact Below.refl _ _ | refine below_drewN ?_ _ | refine Below.drew ?_ | refine below_alloc ?_ _ | refine Below.setCell ?_ (by first | omega | (simp; done) | (simp; omega)) _ | refine below_then ?_ (by assumption)))

/-- ratio.Div at two valid ratios -/
theorem div_any (q r : Rat) (w : World) (hq : inR q = true) (hr : inR r = true) (h0 : r.num ≠ 0) :
    Calls Tryd.prog 31 #[.agg #[.int .i64 q.num, .int .i64 q.den], .agg #[.int .i64 r.num, .int .i64 r.den]] w fun e w' =>
      e = .returned (.tuple #[.agg #[.int .i64 (oN (q / r)), .int .i64 (oD (q / r))], .int .i64 (oE (q / r))]) ∧ Below w.heap.size w w' := by
  have HK : Hid (∀ W, Below (((w.alloc (.cells #[.int .i64 q.num, .int .i64 q.den] 25)).alloc (.cells #[.int .i64 r.num, .int .i64 r.den] 25)).alloc (.cells #[.int .i64 0, .int .i64 0] 25)).heap.size (((w.alloc (.cells #[.int .i64 q.num, .int .i64 q.den] 25)).alloc (.cells #[.int .i64 r.num, .int .i64 r.den] 25)).alloc (.cells #[.int .i64 0, .int .i64 0] 25)) W → Calls Tryd.prog 53 #[.pointer (some ⟨w.heap.size, 0, none⟩), .pointer (some ⟨w.heap.size + 1, 0, none⟩)] W fun e W' =>
      e = .returned (.tuple #[.agg #[.int .i64 (oN (q / r)), .int .i64 (oD (q / r))], .int .i64 (oE (q / r))]) ∧ Below W.heap.size W W') := fun W hb => by
    have hz := hb.size
    simp at hz
    refine div1_any q r w.heap.size (w.heap.size + 1) W hq hr h0 (by omega) (by omega) ?_ ?_ ?_ ?_ <;> (rw [hb.cell (by simp <;> omega)]; simp [go_sem])
  go_enter Tryd.func31, Tryd.ntmps31
  go_wp2_with (go_at_call 40; refine (checked_any q r _ _ _ _ _ _ hq hr (fun _ => by kernel_rfl) HK.out).mono ?_; rintro e w1 ⟨rfl, hb⟩; obtain ⟨hc, hf⟩ := bcell hb; have hz := hb.size; (try simp at hz); (have zl0 : w.heap.size < w1.heap.size := by omega); (have ze0 : w.heap.size ≤ w1.heap.size := by omega); (have zl1 : w.heap.size + 1 < w1.heap.size := by omega); (have ze1 : w.heap.size + 1 ≤ w1.heap.size := by omega); (have zl2 : w.heap.size + 1 + 1 < w1.heap.size := by omega); (have ze2 : w.heap.size + 1 + 1 ≤ w1.heap.size := by omega))
  refine bodyPost_ret (by simp [results, Tryd.results31, go_sem, *]; rfl) rfl ⟨?_, ?_⟩
  · rfl
  · (repeat (first | exact Below.refl _ _ | refine below_drewN ?_ _ | refine Below.drew ?_ | refine below_alloc ?_ _ | refine Below.setCell ?_ (by first | omega | (simp; done) | (simp; omega)) _ | refine below_then ?_ (by assumption)))

end Go.Proofs.YtbkekabhdpoddaaDoor
