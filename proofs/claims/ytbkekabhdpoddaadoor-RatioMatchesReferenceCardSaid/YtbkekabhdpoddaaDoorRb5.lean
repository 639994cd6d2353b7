/- The walks of ratio.Mul, floor, Floor, Round, Make and Div by 0. -/
import Derived.Test.YtbkekabhdpoddaaDoorRb4
namespace Go.Proofs.YtbkekabhdpoddaaDoor
open Go.RowKit

/-- ratio.Mul at two valid ratios -/
theorem mul_any (q r : Rat) (w : World) (hq : inR q = true) (hr : inR r = true) :
    Calls Tryd.prog 18 #[.agg #[.int .i64 q.num, .int .i64 q.den], .agg #[.int .i64 r.num, .int .i64 r.den]] w fun e w' =>
      e = .returned (.tuple #[.agg #[.int .i64 (oN (q * r)), .int .i64 (oD (q * r))], .int .i64 (oE (q * r))]) ∧ Below w.heap.size w w' := by
  have HK : Hid (∀ W, Below (((w.alloc (.cells #[.int .i64 q.num, .int .i64 q.den] 25)).alloc (.cells #[.int .i64 r.num, .int .i64 r.den] 25)).alloc (.cells #[.int .i64 0, .int .i64 0] 25)).heap.size (((w.alloc (.cells #[.int .i64 q.num, .int .i64 q.den] 25)).alloc (.cells #[.int .i64 r.num, .int .i64 r.den] 25)).alloc (.cells #[.int .i64 0, .int .i64 0] 25)) W → Calls Tryd.prog 42 #[.pointer (some ⟨w.heap.size, 0, none⟩), .pointer (some ⟨w.heap.size + 1, 0, none⟩)] W fun e W' =>
      e = .returned (.tuple #[.agg #[.int .i64 (oN (q * r)), .int .i64 (oD (q * r))], .int .i64 (oE (q * r))]) ∧ Below W.heap.size W W') := fun W hb => by
    have hz := hb.size
    simp at hz
    refine mul1_any q r w.heap.size (w.heap.size + 1) W hq hr (by omega) (by omega) ?_ ?_ ?_ ?_ <;> (rw [hb.cell (by simp <;> omega)]; simp [go_sem])
  go_enter Tryd.func18, Tryd.ntmps18
  go_wp2_with (go_at_call 40; refine (checked_any q r _ _ _ _ _ _ hq hr (fun _ => by kernel_rfl) HK.out).mono ?_; rintro e w1 ⟨rfl, hb⟩; obtain ⟨hc, hf⟩ := bcell hb; have hz := hb.size; (try simp at hz); (have zl0 : w.heap.size < w1.heap.size := by omega); (have ze0 : w.heap.size ≤ w1.heap.size := by omega); (have zl1 : w.heap.size + 1 < w1.heap.size := by omega); (have ze1 : w.heap.size + 1 ≤ w1.heap.size := by omega); (have zl2 : w.heap.size + 1 + 1 < w1.heap.size := by omega); (have ze2 : w.heap.size + 1 + 1 ≤ w1.heap.size := by omega))
  refine bodyPost_ret (by simp [results, Tryd.results18, go_sem, *]; rfl) rfl ⟨?_, ?_⟩
  · rfl
  · (repeat (first | exact Below.refl _ _ | refine below_drewN ?_ _ | refine Below.drew ?_ | refine below_alloc ?_ _ | refine Below.setCell ?_ (by first | omega | (simp; done) | (simp; omega)) _ | refine below_then ?_ (by assumption)))
/-- ratio.Make at 0 -/
theorem make0_any (p : Int) (w : World) :
    Calls Tryd.prog 13 #[.int .i64 p, .int .i64 0] w fun e w' => e = .returned (.tuple #[.agg #[.int .i64 0, .int .i64 0], .int .i64 1]) ∧ Below w.heap.size w w' := by
  go_enter Tryd.func13, Tryd.ntmps13
  go_wp2
  refine bodyPost_ret (by simp [results, Tryd.results13, go_sem, *]; rfl) rfl ⟨?_, ?_⟩
  · rfl
  · (repeat (first | exact Below.refl _ _ | refine below_drewN ?_ _ | refine Below.drew ?_ | refine below_alloc ?_ _ | refine Below.setCell ?_ (by first | omega | (simp; done) | (simp; omega)) _ | refine below_then ?_ (by assumption)))
set_option maxRecDepth 10000 in
theorem div01_any (q r : Rat) (b1 b2 : Nat) (w : World) (hq : inR q = true) (hr : inR r = true) (h0 : r.num = 0) (l1 : b1 < w.heap.size) (l2 : b2 < w.heap.size)
    (c1 : w.cell? ⟨b1, 0, none⟩ = some (.int .i64 q.num)) (c2 : w.cell? ⟨b1, 1, none⟩ = some (.int .i64 q.den)) (c3 : w.cell? ⟨b2, 0, none⟩ = some (.int .i64 r.num)) (c4 : w.cell? ⟨b2, 1, none⟩ = some (.int .i64 r.den)) :
    Calls Tryd.prog 53 #[.pointer (some ⟨b1, 0, none⟩), .pointer (some ⟨b2, 0, none⟩)] w fun e w' =>
      e = .returned (.tuple #[.agg #[.int .i64 0, .int .i64 0], .int .i64 1]) ∧ Below w.heap.size w w' := by
  have bd := add_bd hq hr
  have bd3 := inR_bd hq
  rw [h0] at c3
  clear hq hr h0
  go_enter Tryd.func53, Tryd.ntmps53
  go_wp2_with (go_at_call 13; refine (make0_any _ _).mono ?_; rintro e w1 ⟨rfl, hb⟩; obtain ⟨hc, hf⟩ := bcell hb; have hz := hb.size; (try simp at hz); (have zl0 : w.heap.size < w1.heap.size := by omega); (have ze0 : w.heap.size ≤ w1.heap.size := by omega))
  refine bodyPost_ret (by simp [results, Tryd.results53, go_sem, *]; rfl) rfl ⟨?_, ?_⟩
  · rfl
  · (repeat (first | exact Below.refl _ _ | refine below_drewN ?_ _ | refine Below.drew ?_ | refine below_alloc ?_ _ | refine Below.setCell ?_ (by first | omega | (simp; done) | (simp; omega)) _ | refine below_then ?_ (by assumption)))
set_option maxRecDepth 10000 in
theorem div0_key (q r : Rat) (x y z : Int) (w : World) (hq : inR q = true) (hr : inR r = true) (h0 : r.num = 0) (hx : x = 0) (hy : y = 0) (hz1 : z = 1) :
    Calls Tryd.prog 31 #[.agg #[.int .i64 q.num, .int .i64 q.den], .agg #[.int .i64 r.num, .int .i64 r.den]] w fun e w' =>
      e = .returned (.tuple #[.agg #[.int .i64 x, .int .i64 y], .int .i64 z]) ∧ Below w.heap.size w w' := by
  have HK : Hid (∀ W, Below (((w.alloc (.cells #[.int .i64 q.num, .int .i64 q.den] 25)).alloc (.cells #[.int .i64 r.num, .int .i64 r.den] 25)).alloc (.cells #[.int .i64 0, .int .i64 0] 25)).heap.size (((w.alloc (.cells #[.int .i64 q.num, .int .i64 q.den] 25)).alloc (.cells #[.int .i64 r.num, .int .i64 r.den] 25)).alloc (.cells #[.int .i64 0, .int .i64 0] 25)) W → Calls Tryd.prog 53 #[.pointer (some ⟨w.heap.size, 0, none⟩), .pointer (some ⟨w.heap.size + 1, 0, none⟩)] W fun e W' =>
      e = .returned (.tuple #[.agg #[.int .i64 x, .int .i64 y], .int .i64 z]) ∧ Below W.heap.size W W') := fun W hb => by
    have hz := hb.size
    simp at hz
    rw [hx, hy, hz1]
    refine div01_any q r w.heap.size (w.heap.size + 1) W hq hr h0 (by omega) (by omega) ?_ ?_ ?_ ?_ <;> (rw [hb.cell (by simp <;> omega)]; simp [go_sem])
  clear hx hy hz1 h0
  go_enter Tryd.func31, Tryd.ntmps31
  go_wp2_with (go_at_call 40; refine (checked_any q r _ _ _ _ _ _ hq hr (fun _ => by kernel_rfl) HK.out).mono ?_; rintro e w1 ⟨rfl, hb⟩; obtain ⟨hc, hf⟩ := bcell hb; have hz := hb.size; (try simp at hz); (have zl0 : w.heap.size < w1.heap.size := by omega); (have ze0 : w.heap.size ≤ w1.heap.size := by omega); (have zl1 : w.heap.size + 1 < w1.heap.size := by omega); (have ze1 : w.heap.size + 1 ≤ w1.heap.size := by omega); (have zl2 : w.heap.size + 1 + 1 < w1.heap.size := by omega); (have ze2 : w.heap.size + 1 + 1 ≤ w1.heap.size := by omega))
  refine bodyPost_ret (by simp [results, Tryd.results31, go_sem, *]; rfl) rfl ⟨?_, ?_⟩
  · rfl
  · (repeat (first | exact Below.refl _ _ | refine below_drewN ?_ _ | refine Below.drew ?_ | refine below_alloc ?_ _ | refine Below.setCell ?_ (by first | omega | (simp; done) | (simp; omega)) _ | refine below_then ?_ (by assumption)))
theorem div0_any (q r : Rat) (w : World) (hq : inR q = true) (hr : inR r = true) (h0 : r.num = 0) :
    Calls Tryd.prog 31 #[.agg #[.int .i64 q.num, .int .i64 q.den], .agg #[.int .i64 r.num, .int .i64 r.den]] w fun e w' =>
      e = .returned (.tuple #[.agg #[.int .i64 0, .int .i64 0], .int .i64 1]) ∧ Below w.heap.size w w' := div0_key q r 0 0 1 w hq hr h0 rfl rfl rfl
theorem floor_any (n d : Int) (w : World) (h1 : -4000000000000000000 ≤ n) (h2 : n ≤ 4000000000000000000) (hd : 0 < d) (hd2 : d ≤ 1000000) :
    Calls Tryd.prog 44 #[.int .i64 n, .int .i64 d] w fun e w' => e = .returned (.int .i64 (flo n d)) ∧ w = w' := by
  have hc := flo_code (n := n) hd
  have HC := Lib.hid hc
  have b1 : -4000000000000000000 ≤ n.tdiv d ∧ n.tdiv d ≤ 4000000000000000000 := by
    have e1 := Int.mul_tdiv_add_tmod n d
    have e2 := Int.tmod_lt_of_pos n hd
    have e3 := Int.lt_tmod_of_pos n hd
    have h3 : (n.tdiv d).natAbs ≤ n.natAbs := by rw [Int.natAbs_tdiv]; exact Nat.div_le_self _ _
    omega
  have hd0 : (d == 0) = false := by simp; omega
  have hdm : d ≠ -1 := by omega
  by_cases hn : n.tmod d < 0
  · rw [if_pos hn] at HC
    have dn : decide (n.tmod d < 0) = true := decide_eq_true hn
    clear hc
    go_enter Tryd.func44, Tryd.ntmps44
    go_wp2
    go_ret
    exact ⟨ret_int (by have := HC.out; simp_all), rfl⟩
  · rw [if_neg hn] at HC
    have dn : decide (n.tmod d < 0) = false := decide_eq_false hn
    clear hc
    go_enter Tryd.func44, Tryd.ntmps44
    go_wp2
    go_ret
    exact ⟨ret_int (by have := HC.out; simp_all), rfl⟩
end Go.Proofs.YtbkekabhdpoddaaDoor
