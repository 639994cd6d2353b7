/- RatioRounds at every two ratios. -/
import Derived.Test.YtbkekabhdpoddaaDoorRd8
import Derived.Test.YtbkekabhdpoddaaDoorRd8n
import Derived.Test.YtbkekabhdpoddaaDoorRdm
import Derived.Test.YtbkekabhdpoddaaDoorRd3
namespace Go.Proofs.YtbkekabhdpoddaaDoor
open Go.RowKit

theorem rnd_bd {n d p : Int} (hd : 1 ≤ d) (h : -1000000000000 ≤ n * p ∧ n * p ≤ 1000000000000) : -1000000000000 ≤ rnd n d p ∧ rnd n d p ≤ 1000000000000 := by
  obtain ⟨a1, a2, _⟩ := rnd_dist (n := n) (p := p) (show 0 < d by omega)
  generalize rnd n d p = k at a1 a2 ⊢
  constructor
  · rcases Int.lt_or_le k (-1000000000000) with hk | hk
    · have e := Int.mul_le_mul_of_nonneg_right (show k ≤ -1000000000001 by omega) (show 0 ≤ d by omega)
      omega
    · exact hk
  · rcases Int.lt_or_le 1000000000000 k with hk | hk
    · have e := Int.mul_le_mul_of_nonneg_right (show 1000000000001 ≤ k by omega) (show 0 ≤ d by omega)
      omega
    · exact hk
/-- what Round gives is in range -/
theorem rndR_in {q : Rat} {n : Int} (hq : inR q = true) (h : -1000000000 ≤ q.num ∧ q.num ≤ 1000000000) (h1 : 1 ≤ n) (h2 : n ≤ 1000) : inR (rndR q n) = true ∧ ((rndR q n).den : Int) ≤ 1000 := by
  have hb := inR_bd hq
  have hp := mul_rng (A := 1000000000) (B := 1000) (by omega) (by omega) h (show -1000 ≤ n ∧ n ≤ 1000 by omega)
  have hk := rnd_bd (n := q.num) (d := q.den) (p := n) (by omega) (by omega)
  have := quot_bd (a := rnd q.num q.den n) (b := n) (A := 1000000000000) (by omega) (by omega) (by omega)
  exact ⟨inR_mk this (by omega) (by omega), by unfold rndR; omega⟩
theorem rndR_parts (q : Rat) {n : Int} (h1 : 1 ≤ n) : ∃ t, (rndR q n).den * t = n ∧ (rndR q n).num * t = rnd q.num q.den n := by
  have hd : ((Rat.divInt (rnd q.num q.den n) n).den : Int) ∣ n := by
    rw [quot_den (by omega)]
    exact Int.ediv_dvd_of_dvd (Int.gcd_dvd_right ..)
  have hx := quot_cross (a := rnd q.num q.den n) (b := n) (by omega)
  have hp := den_pos' (Rat.divInt (rnd q.num q.den n) n)
  unfold rndR
  generalize Rat.divInt (rnd q.num q.den n) n = x at hd hx hp ⊢
  obtain ⟨t, ht⟩ := hd
  refine ⟨t, ht.symm, ?_⟩
  refine Int.eq_of_mul_eq_mul_right (show (x.den : Int) ≠ 0 by omega) ?_
  rw [← hx]
  conv => rhs; rw [ht]
  grind
theorem rndR_fix (q : Rat) {n : Int} (h1 : 1 ≤ n) : rndR (rndR q n) n = rndR q n := by
  have hx := quot_cross (a := rnd q.num q.den n) (b := n) (by omega)
  have hp := den_pos' (rndR q n)
  have : rnd (rndR q n).num (rndR q n).den n = rnd q.num q.den n := rnd_fix hp hx
  show Rat.divInt (rnd (rndR q n).num (rndR q n).den n) n = _
  rw [this]; rfl
theorem rndR_mono {q r : Rat} {n : Int} (h1 : 1 ≤ n) (h : q ≤ r) : rndR q n ≤ rndR r n := by
  have := rnd_mono (p := n) (den_pos' q) (den_pos' r) (by omega) ((Rat.le_iff q r).1 h)
  unfold rndR
  have hx := quot_cross (a := rnd q.num q.den n) (b := n) (by omega)
  have hy := quot_cross (a := rnd r.num r.den n) (b := n) (by omega)
  have hp := den_pos' (Rat.divInt (rnd q.num q.den n) n)
  have hp' := den_pos' (Rat.divInt (rnd r.num r.den n) n)
  rw [Rat.le_iff]
  generalize Rat.divInt (rnd q.num q.den n) n = x at hx hp ⊢
  generalize Rat.divInt (rnd r.num r.den n) n = y at hy hp' ⊢
  generalize rnd q.num q.den n = K at hx this
  generalize rnd r.num r.den n = L at hy this
  refine Int.le_of_mul_le_mul_right (a := n) ?_ (by omega)
  have e1 : x.num * y.den * n = K * (x.den * y.den) := by
    have : x.num * y.den * n = x.num * n * y.den := by grind
    rw [this, hx]; grind
  have e2 : y.num * x.den * n = L * (x.den * y.den) := by
    have : y.num * x.den * n = y.num * n * x.den := by grind
    rw [this, hy]; grind
  rw [e1, e2]
  exact Int.mul_le_mul_of_nonneg_right this (Int.mul_nonneg (by omega) (by omega))
theorem round_ok (q : Rat) (n : Int) (W : World) (hq : inR q = true) (h1 : 1 ≤ n) (h2 : n ≤ 1000) (hi : inR (rndR q n) = true) :
    Calls Tryd.prog 21 #[.agg #[.int .i64 q.num, .int .i64 q.den], .int .i64 n] W fun e w' => e = .returned (.tuple #[.agg #[.int .i64 (rndR q n).num, .int .i64 (rndR q n).den], .int .i64 0]) ∧ Below W.heap.size W w' :=
  op_ok hi (round_any q n W hq h1 (by omega))
theorem tmod_pos {p : Int} : -999 ≤ p.tmod 1000 ∧ p.tmod 1000 ≤ 999 := by
  have h1 := Int.tmod_lt_of_pos p (show (0 : Int) < 1000 by omega)
  have h2 := Int.lt_tmod_of_pos p (show (0 : Int) < 1000 by omega)
  omega
theorem rounds_yes (q r : Rat) (p : Int) (w : World) (hL : Lw w) (hq : inR q = true) (hr : inR r = true) (b1 : -1000000000 ≤ q.num ∧ q.num ≤ 1000000000) (b2 : -1000000000 ≤ r.num ∧ r.num ≤ 1000000000) :
    Calls Tryd.prog 6 #[.agg #[.int .i64 q.num, .int .i64 q.den], .agg #[.int .i64 r.num, .int .i64 r.den], .int .i64 p] w fun e w' => e = .returned (.bool true) ∧ Below w.heap.size w w' := by
  have hm := @tmod_pos p
  obtain ⟨n, hn⟩ : ∃ n, 1 + max (p.tmod 1000) (-(p.tmod 1000)) = n := ⟨_, rfl⟩
  have rn : 1 ≤ n ∧ n ≤ 1000 := by omega
  have bq := inR_bd hq
  obtain ⟨iq, dq⟩ := rndR_in hq b1 rn.1 rn.2
  obtain ⟨ir, dr⟩ := rndR_in hr b2 rn.1 rn.2
  obtain ⟨t, ht1, ht2⟩ := rndR_parts q rn.1
  have bx := inR_bd iq
  have hfix := rndR_fix q rn.1
  obtain ⟨f1, f2, f3⟩ := rnd_dist (n := q.num) (p := n) (den_pos' q)
  have hv := mul_rng (A := 1000000000) (B := 1000) (by omega) (by omega) b1 (show -1000 ≤ n ∧ n ≤ 1000 by omega)
  have hk := rnd_bd (n := q.num) (d := q.den) (p := n) (by omega) (by omega)
  have hR3 := fun W => round_ok (rndR q n) n W iq rn.1 rn.2 (by rw [hfix]; exact iq)
  rw [hfix] at hR3
  have tp : 0 ≤ t ∧ t ≤ 1000 := by
    constructor
    · rcases Int.lt_or_le t 0 with h | h
      · have := Int.mul_neg_of_pos_of_neg (show (0 : Int) < (rndR q n).den by omega) h
        omega
      · exact h
    · rcases Int.lt_or_le 1000 t with h | h
      · have := Int.mul_le_mul (a := 1) (b := 1001) (c := ((rndR q n).den : Int)) (d := t) (by omega) (by omega) (by omega) (by omega)
        omega
      · exact h
  have ex : ∀ D : Int, D ≠ 0 → D * t = n → n.tmod D = 0 ∧ n.tdiv D = t := by
    rintro D h0 rfl
    exact ⟨Int.mul_tmod_right _ _, Int.mul_tdiv_cancel_left _ h0⟩
  obtain ⟨e1, e2⟩ := ex (rndR q n).den (by omega) ht1
  have hev : rnd q.num q.den n % 2 = 0 → (rnd q.num q.den n).tmod 2 = 0 := fun h => by
    have := Int.tmod_eq_zero_of_dvd (Int.dvd_of_emod_eq_zero h)
    exact this
  exact rounds_key _ _ _ _ p (max q.num (-q.num)) (max r.num (-r.num)) _ _ n (rndR q n).num (rndR q n).den (rndR r n).num (rndR r n).den t (rnd q.num q.den n) _ _ _ (cmpN q r) (cmpN (rndR q n) (rndR r n)) w (fun W hb => head_any W (hL.below hb))
    (fun W => valid_rat q W hq) (fun W => valid_rat r W hr) (fun W ts t => mx_run2 _ _ W ts t) (fun W ts t => mx_run2 _ _ W ts t) (by omega) (by omega) b1 b2 (by omega) rfl hm (fun W ts t => mx_run2 _ _ W ts t) (by omega) hn rn
    (fun W => round_ok q n W hq rn.1 rn.2 iq) (fun W => round_ok r n W hr rn.1 rn.2 ir) hR3 (fun W => valid_rat _ W iq) (by omega) (by omega) e1 e2 tp ht2 (by omega) rfl rfl (by omega) (by omega) rfl (by omega) (by omega)
    (fun h => hev (f3 h)) (fun W => cmp_i q r W hq hr) (fun W => cmp_i _ _ W iq ir) (by rw [cmpN_le, cmpN_le]; exact rndR_mono rn.1)
theorem rounds_law (n1 d1 n2 d2 p : Int) (w : World) (hL : Lw w) (h1 : B64 n1) (k1 : B64 d1) (h2 : B64 n2) (k2 : B64 d2) :
    Calls Tryd.prog 6 #[.agg #[.int .i64 n1, .int .i64 d1], .agg #[.int .i64 n2, .int .i64 d2], .int .i64 p] w fun e w' => e = .returned (.bool true) ∧ Below w.heap.size w w' := by
  have no := fun hv => rounds_no n1 d1 n2 d2 p (max n1 (-n1)) (max n2 (-n2)) (vld n1 d1) (vld n2 d2) w (fun W hb => head_any W (hL.below hb)) (fun W => valid_any n1 d1 W h1.1 h1.2 k1.1 k1.2) (fun W => valid_any n2 d2 W h2.1 h2.2 k2.1 k2.2) (fun W ts t => mx_run2 _ _ W ts t) (fun W ts t => mx_run2 _ _ W ts t) hv
  cases v1 : vld n1 d1 with
  | false => exact no (.inl v1)
  | true =>
    cases v2 : vld n2 d2 with
    | false => exact no (.inr (.inl ⟨v1, v2⟩))
    | true =>
      obtain ⟨a1, a2, a3, a4, a5⟩ := vld_of v1
      obtain ⟨c1, c2, c3, c4, c5⟩ := vld_of v2
      by_cases h : 1000000000 < max n1 (-n1)
      · exact no (.inr (.inr ⟨by omega, by omega, v1, v2, .inl h⟩))
      · by_cases h' : 1000000000 < max n2 (-n2)
        · exact no (.inr (.inr ⟨by omega, by omega, v1, v2, .inr ⟨h, h'⟩⟩))
        · clear no
          obtain ⟨q, hq, rfl, rfl⟩ := rat_of_vld v1
          obtain ⟨r, hr, rfl, rfl⟩ := rat_of_vld v2
          exact rounds_yes q r p w hL hq hr (by omega) (by omega)
end Go.Proofs.YtbkekabhdpoddaaDoor
