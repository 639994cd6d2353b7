/- RatioExact at every two ratios. -/
import Derived.Test.YtbkekabhdpoddaaDoorRd4
import Derived.Test.YtbkekabhdpoddaaDoorRd4n
import Derived.Test.YtbkekabhdpoddaaDoorRdm
namespace Go.Proofs.YtbkekabhdpoddaaDoor
open Go.RowKit

set_option maxRecDepth 100000 in
theorem exact_yes (q r : Rat) (w : World) (hL : Lw w) (hq : inR q = true) (hr : inR r = true) (b1 : -1000 ≤ q.num ∧ q.num ≤ 1000) (b2 : -1000 ≤ r.num ∧ r.num ≤ 1000) (b3 : (q.den : Int) ≤ 1000) (b4 : (r.den : Int) ≤ 1000) :
    Calls Tryd.prog 10 #[.agg #[.int .i64 q.num, .int .i64 q.den], .agg #[.int .i64 r.num, .int .i64 r.den]] w fun e w' => e = .returned (.bool true) ∧ Below w.heap.size w w' := by
  have c3 := den_pos' q
  have c4 := den_pos' r
  have r1 := mul_rng (A := 1000) (B := 1000) (by omega) (by omega) (a := (q.den : Int)) (b := (r.den : Int)) (by omega) (by omega)
  have r2 := mul_rng (A := 1000) (B := 1000) (by omega) (by omega) (a := q.num) (b := (r.den : Int)) (by omega) (by omega)
  have r3 := mul_rng (A := 1000) (B := 1000) (by omega) (by omega) (a := r.num) (b := (q.den : Int)) (by omega) (by omega)
  have r4 := mul_rng (A := 1000) (B := 1000) (by omega) (by omega) (a := q.num) (b := r.num) (by omega) (by omega)
  have r5 := mul_rng (A := 1000) (B := 1000) (by omega) (by omega) (a := (q.den : Int)) (b := r.num) (by omega) (by omega)
  have hm : (q.den : Int) * r.den ≠ 0 := by have := Int.mul_pos c3 c4; omega
  have es := add_divInt q r
  have ee := sub_divInt q r
  have ep : Rat.divInt (q.num * r.num) (q.den * r.den) = q * r := by
    conv => rhs; rw [← Rat.num_divInt_den q, ← Rat.num_divInt_den r]
    rw [Rat.divInt_mul_divInt]
  have eq := div_divInt q r
  obtain ⟨is, s1, s2⟩ := quot_vld hm (a := q.num * r.den + r.num * q.den) (by omega) (by omega) (by omega) (by omega)
  obtain ⟨ie, e1, e2⟩ := quot_vld hm (a := q.num * r.den - r.num * q.den) (by omega) (by omega) (by omega) (by omega)
  obtain ⟨ip, p1, p2⟩ := quot_vld hm (a := q.num * r.num) (by omega) (by omega) (by omega) (by omega)
  have xs := quot_cross hm (a := q.num * r.den + r.num * q.den)
  have xe := quot_cross hm (a := q.num * r.den - r.num * q.den)
  have xp := quot_cross hm (a := q.num * r.num)
  rw [es] at is s1 s2 xs
  rw [ee] at ie e1 e2 xe
  rw [ep] at ip p1 p2 xp
  have g1 := mul_rng (A := 2000000) (B := 1000000) (by omega) (by omega) s1 (show -1000000 ≤ (q.den : Int) * r.den ∧ (q.den : Int) * r.den ≤ 1000000 by omega)
  have g2 := mul_rng (A := 2000000) (B := 1000000) (by omega) (by omega) e1 (show -1000000 ≤ (q.den : Int) * r.den ∧ (q.den : Int) * r.den ≤ 1000000 by omega)
  have g3 := mul_rng (A := 2000000) (B := 1000000) (by omega) (by omega) p1 (show -1000000 ≤ (q.den : Int) * r.den ∧ (q.den : Int) * r.den ≤ 1000000 by omega)
  have hmx : ¬ 1000 < max4 q.num (-q.num) r.num (-r.num) := by have := @max4_le q.num (-q.num) r.num (-r.num) 1000; omega
  have hmx2 : ¬ 1000 < max (q.den : Int) r.den := by omega
  by_cases h0 : r.num = 0
  · have d0 := fun W => div0_any q r W hq hr h0
    exact exact_key _ _ _ _ _ _ (q + r).num (q + r).den (q - r).num (q - r).den (q * r).num (q * r).den 0 0 1 _ _ _ _ _ _ _ 0 _ w (fun W hb => head_any W (hL.below hb)) (fun W => valid_rat q W hq) (fun W => valid_rat r W hr) (fun W ts t => mx_run4 _ _ _ _ W ts t) (fun W ts t => mx_run2 _ _ W ts t) hmx hmx2 b1 b2 (by omega) (by omega)
      (fun W => op_ok is (add_any q r W hq hr)) (fun W => op_ok ie (sub_any q r W hq hr)) (fun W => op_ok ip (mul_any q r W hq hr)) (fun W => d0 W) (fun W => valid_rat _ W is) (fun W => valid_rat _ W ie) (fun W => valid_rat _ W ip) (fun W h => absurd h0 h)
      rfl (by omega) rfl rfl rfl (by omega) (by omega) (by omega) rfl xs.symm rfl xe.symm rfl xp.symm (by omega) (by omega) (by omega) rfl (by omega) (fun h => absurd h0 h) (by omega) ⟨fun _ => rfl, fun h => absurd h0 h⟩
  · have hz : (q.den : Int) * r.num ≠ 0 := Int.mul_ne_zero (by omega) h0
    obtain ⟨iq, q1, q2⟩ := quot_vld hz (a := q.num * r.den) (by omega) (by omega) (by omega) (by omega)
    have xq := quot_cross hz (a := q.num * r.den)
    rw [eq] at iq q1 q2 xq
    have g4 := mul_rng (A := 2000000) (B := 1000000) (by omega) (by omega) q1 (show -1000000 ≤ (q.den : Int) * r.num ∧ (q.den : Int) * r.num ≤ 1000000 by omega)
    exact exact_key _ _ _ _ _ _ (q + r).num (q + r).den (q - r).num (q - r).den (q * r).num (q * r).den (q / r).num (q / r).den 0 _ _ _ _ _ _ _ _ _ w (fun W hb => head_any W (hL.below hb)) (fun W => valid_rat q W hq) (fun W => valid_rat r W hr) (fun W ts t => mx_run4 _ _ _ _ W ts t) (fun W ts t => mx_run2 _ _ W ts t) hmx hmx2 b1 b2 (by omega) (by omega)
      (fun W => op_ok is (add_any q r W hq hr)) (fun W => op_ok ie (sub_any q r W hq hr)) (fun W => op_ok ip (mul_any q r W hq hr)) (fun W => op_ok iq (div_any q r W hq hr h0)) (fun W => valid_rat _ W is) (fun W => valid_rat _ W ie) (fun W => valid_rat _ W ip) (fun W _ => valid_rat _ W iq)
      rfl (by omega) rfl rfl rfl (by omega) (by omega) (by omega) rfl xs.symm rfl xe.symm rfl xp.symm (by omega) (by omega) (by omega) rfl (by omega) (fun _ => ⟨rfl, xq.symm⟩) (by omega) ⟨fun h => absurd h h0, fun _ => rfl⟩
theorem exact_law (n1 d1 n2 d2 : Int) (w : World) (hL : Lw w) (h1 : B64 n1) (k1 : B64 d1) (h2 : B64 n2) (k2 : B64 d2) :
    Calls Tryd.prog 10 #[.agg #[.int .i64 n1, .int .i64 d1], .agg #[.int .i64 n2, .int .i64 d2]] w fun e w' => e = .returned (.bool true) ∧ Below w.heap.size w w' := by
  have no := fun hv => exact_no n1 d1 n2 d2 (max4 n1 (-n1) n2 (-n2)) (max d1 d2) (vld n1 d1) (vld n2 d2) w (fun W hb => head_any W (hL.below hb)) (fun W => valid_any n1 d1 W h1.1 h1.2 k1.1 k1.2) (fun W => valid_any n2 d2 W h2.1 h2.2 k2.1 k2.2) (fun W ts t => mx_run4 _ _ _ _ W ts t) (fun W ts t => mx_run2 _ _ W ts t) hv
  cases v1 : vld n1 d1 with
  | false => exact no (.inl v1)
  | true =>
    cases v2 : vld n2 d2 with
    | false => exact no (.inr (.inl ⟨v1, v2⟩))
    | true =>
      obtain ⟨a1, a2, a3, a4, a5⟩ := vld_of v1
      obtain ⟨c1, c2, c3, c4, c5⟩ := vld_of v2
      have hm := @max4_le n1 (-n1) n2 (-n2) 1000
      by_cases h : 1000 < max4 n1 (-n1) n2 (-n2)
      · exact no (.inr (.inr ⟨by omega, by omega, v1, v2, .inl h⟩))
      · by_cases h' : 1000 < max d1 d2
        · exact no (.inr (.inr ⟨by omega, by omega, v1, v2, .inr ⟨h, h'⟩⟩))
        · clear no
          obtain ⟨q, hq, rfl, rfl⟩ := rat_of_vld v1
          obtain ⟨r, hr, rfl, rfl⟩ := rat_of_vld v2
          exact exact_yes q r w hL hq hr (by omega) (by omega) (by omega) (by omega)
end Go.Proofs.YtbkekabhdpoddaaDoor
