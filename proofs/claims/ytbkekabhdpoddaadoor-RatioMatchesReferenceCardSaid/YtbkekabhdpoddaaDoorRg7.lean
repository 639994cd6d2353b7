/- The walk of the reference's Text at every ratio. -/
import Derived.Test.YtbkekabhdpoddaaDoorRg6
namespace Go.Proofs.YtbkekabhdpoddaaDoor
open Go.RowKit

def sl : ByteArray := ⟨#[47]⟩
def mi : ByteArray := ⟨#[45]⟩
set_option maxRecDepth 100000 in
set_option maxHeartbeats 1600000 in
theorem rtext_key (n d k1 k2 : Int) (D1 D2 : ByteArray) (w : World) (HV : Hid (∀ W, Calls Tryd.prog 33 #[.agg #[.int .i64 n, .int .i64 d]] W fun e w' => e = .returned (.bool true) ∧ Below W.heap.size W w'))
    (S1 : Hid (∀ W, Calls Tryd.prog 49 #[.int .i64 n] W fun e w' => e = .returned (.int .u64 k1) ∧ w' = W)) (S2 : Hid (∀ W, Calls Tryd.prog 49 #[.int .i64 d] W fun e w' => e = .returned (.int .u64 k2) ∧ w' = W))
    (T1 : Hid (∀ W, Calls Tryd.prog 54 #[.int .u64 k1] W fun e w' => e = .returned (.string D1) ∧ Below W.heap.size W w')) (T2 : Hid (∀ W, Calls Tryd.prog 54 #[.int .u64 k2] W fun e w' => e = .returned (.string D2) ∧ Below W.heap.size W w')) (l1 : D1.size ≤ 40) (l2 : D2.size ≤ 40)
    (R : ByteArray) (hR : Hid (R = (if n < 0 then (⟨#[45]⟩ : ByteArray) ++ D1 else D1) ++ (if d = 1 then ByteArray.empty else (⟨#[47]⟩ : ByteArray) ++ D2))) :
    Calls Tryd.prog 36 #[.agg #[.int .i64 n, .int .i64 d]] w fun e w' => e = .returned (.string R) ∧ Below w.heap.size w w' := by
  have h45 : (⟨#[45]⟩ : ByteArray).size = 1 := rfl
  have h47 : (⟨#[47]⟩ : ByteArray).size = 1 := rfl
  have hsz : ∀ a b : ByteArray, (a ++ b).size = a.size + b.size := fun a b => ByteArray.size_append
  by_cases hn : n < 0
  all_goals
    by_cases hd : d = 1
    all_goals
      have HR := hR
      simp only [hn, hd, if_true, if_false] at HR
      try (have u1 := decide_eq_true hn)
      try (have u1 := decide_eq_false hn)
      have u2 : (d == 1) = decide (d = 1) := by rw [Bool.eq_iff_iff]; simp
      try rw [decide_eq_true hd] at u2
      try rw [decide_eq_false hd] at u2
      clear hR hn hd
      go_enter Tryd.func36, Tryd.ntmps36
      go_upto_region 1 with (fail)
      refine name_wp ?_
      intro X0 hX
      have ga : Blk X0 w.heap.size 25 #[.int .i64 n, .int .i64 d] := by rw [hX]; exact Blk.new _ _ _
      have HB : Below w.heap.size w X0 := by rw [hX]; (repeat (first | with_reducible assumption | with_reducible exact Below.refl _ _ | with_reducible refine below_drewN ?_ _ | with_reducible refine Below.drew ?_ | with_reducible refine below_alloc ?_ _ | with_reducible refine Below.setCell ?_ (by first | omega | (simp; done) | (simp; omega)) _ | with_reducible refine below_then ?_ (by with_reducible assumption) | (refine below_then (a := World.drew _) ?_ (by with_reducible assumption))))
      clear hX
      obtain ⟨ba, eb⟩ : ∃ b, w.heap.size = b := ⟨_, rfl⟩
      rw [eb] at ga ⊢
      clear eb
      have ca0 : X0.cell? ⟨ba, 0, none⟩ = some (.int .i64 n) := ga.cell 0
      have ca1 : X0.cell? ⟨ba, 1, none⟩ = some (.int .i64 d) := ga.cell 1
      go_wp2_with (first | (go_at_call 33; (with_reducible refine (HV.out _).mono ?_); rintro e w1 ⟨rfl, hbw1⟩; have ka0 : w1.cell? ⟨ba, 0, none⟩ = some (.int .i64 n) := (ga.then_ hbw1).cell 0) | (go_at_call 49; (with_reducible refine (S1.out _).mono ?_); rintro e w2 ⟨rfl, rfl⟩) | (go_at_call 54; (with_reducible refine (T1.out _).mono ?_); rintro e w3 ⟨rfl, hbw3⟩; have kb0 : w3.cell? ⟨ba, 0, none⟩ = some (.int .i64 n) := ((ga.then_ hbw1).then_ hbw3).cell 0; have kb1 : w3.cell? ⟨ba, 1, none⟩ = some (.int .i64 d) := ((ga.then_ hbw1).then_ hbw3).cell 1) | (go_at_call 49; (with_reducible refine (S2.out _).mono ?_); rintro e w4 ⟨rfl, rfl⟩) | (go_at_call 54; (with_reducible refine (T2.out _).mono ?_); rintro e w5 ⟨rfl, hbw5⟩))
      go_ret
      exact ⟨by rw [HR.out]; simp [ByteArray.append_assoc], by (repeat (first | with_reducible assumption | with_reducible exact Below.refl _ _ | with_reducible refine below_drewN ?_ _ | with_reducible refine Below.drew ?_ | with_reducible refine below_alloc ?_ _ | with_reducible refine Below.setCell ?_ (by first | omega | (simp; done) | (simp; omega)) _ | with_reducible refine below_then ?_ (by with_reducible assumption) | (refine below_then (a := World.drew _) ?_ (by with_reducible assumption))))⟩
end Go.Proofs.YtbkekabhdpoddaaDoor
