/- The contracts of the reference of package ratio: of, Make, Valid, Add, Cmp; and ratio.Cmp. -/
import Derived.Test.YtcfjehohemdanaaDoorR03
namespace Go.Proofs.YtcfjehohemdanaaDoor
open Go.RowKit

theorem quiet_left {P : Program} {f : FuncId} {args : Array Value} {w : World} {n : Nat} {v : Value}
    (h : Calls P f args (w.drewN n) fun e w' => e = .returned v ∧ w.drewN n = w') : Calls P f args (w.drewN n) fun e w'' => e = .returned v ∧ ∃ m, w'' = w.drewN m :=
  h.mono fun _ _ ⟨he, hm⟩ => ⟨he, n, hm.symm⟩

/-- what a comparison gives -/
def cmpN (q r : Rat) : Int := if q < r then -1 else if r < q then 1 else 0
theorem cmpN_lt {q r : Rat} (h : q.num * r.den < r.num * q.den) : cmpN q r = -1 := by rw [cmpN, if_pos ((Rat.lt_iff q r).2 h)]
theorem cmpN_gt {q r : Rat} (h : r.num * q.den < q.num * r.den) : cmpN q r = 1 := by
  have h1 := (Rat.lt_iff r q).2 h
  rw [cmpN, if_neg (fun h2 => Rat.lt_irrefl (by grind : q < q)), if_pos h1]
theorem cmpN_eq {q r : Rat} (h1 : ¬ q.num * r.den < r.num * q.den) (h2 : ¬ r.num * q.den < q.num * r.den) : cmpN q r = 0 := by
  rw [cmpN, if_neg (fun h => h1 ((Rat.lt_iff q r).1 h)), if_neg (fun h => h2 ((Rat.lt_iff r q).1 h))]

set_option maxHeartbeats 400000 in
/-- ratio.Cmp at two valid ratios -/
theorem cmp_any (q r : Rat) (w : World) (hq : inR q = true) (hr : inR r = true) :
    Calls Tryd.prog 52 #[.agg #[.int .i64 q.num, .int .i64 q.den], .agg #[.int .i64 r.num, .int .i64 r.den]] w fun e w' => e = .returned (.int .i64 (cmpN q r)) ∧ Below w.heap.size w w' := by
  have bd := add_bd hq hr
  have b1 := inR_bd hq
  have b2 := inR_bd hr
  have v1 := inR_vld hq
  have v2 := inR_vld hr
  have H : Hid ((q.num * r.den < r.num * q.den → cmpN q r = -1) ∧ (r.num * q.den < q.num * r.den → cmpN q r = 1) ∧ (¬ q.num * r.den < r.num * q.den → ¬ r.num * q.den < q.num * r.den → cmpN q r = 0)) := ⟨cmpN_lt, cmpN_gt, cmpN_eq⟩
  clear hq hr
  go_enter Tryd.func52, Tryd.ntmps52
  go_wp2_with (go_at_call 51; refine (valid_any _ _ _ (by omega) (by omega) (by omega) (by omega)).mono ?_; rintro e w1 ⟨rfl, hb⟩; obtain ⟨hc, hf⟩ := bcell hb; have hz := hb.size; (try simp at hz); (have zl0 : w.heap.size < w1.heap.size := by omega); (have ze0 : w.heap.size ≤ w1.heap.size := by omega); (have zl1 : w.heap.size + 1 < w1.heap.size := by omega); (have ze1 : w.heap.size + 1 ≤ w1.heap.size := by omega))
  go_quiet (fail)
  go_wp2
  · go_ret
    exact ⟨ret_int (H.out.1 (by assumption)).symm, by (repeat (first | exact Below.refl _ _ | refine below_drewN ?_ _ | refine Below.drew ?_ | refine below_alloc ?_ _ | refine Below.setCell ?_ (by first | omega | (simp; done) | (simp; omega)) _ | refine below_then ?_ (by assumption)))⟩
  · go_ret
    exact ⟨ret_int (H.out.2.1 (by assumption)).symm, by (repeat (first | exact Below.refl _ _ | refine below_drewN ?_ _ | refine Below.drew ?_ | refine below_alloc ?_ _ | refine Below.setCell ?_ (by first | omega | (simp; done) | (simp; omega)) _ | refine below_then ?_ (by assumption)))⟩
  · go_ret
    exact ⟨ret_int (H.out.2.2 (by omega) (by omega)).symm, by (repeat (first | exact Below.refl _ _ | refine below_drewN ?_ _ | refine Below.drew ?_ | refine below_alloc ?_ _ | refine Below.setCell ?_ (by first | omega | (simp; done) | (simp; omega)) _ | refine below_then ?_ (by assumption)))⟩

end Go.Proofs.YtcfjehohemdanaaDoor
