/- RatioMatchesReference at every two ratios, integers and text. -/
import Derived.Test.YtbkekabhdpoddaaDoorRgb
import Derived.Test.YtbkekabhdpoddaaDoorRga
import Derived.Test.YtbkekabhdpoddaaDoorRg3
import Derived.Test.YtbkekabhdpoddaaDoorRg4
import Derived.Test.YtbkekabhdpoddaaDoorRg5
import Derived.Test.YtbkekabhdpoddaaDoorRd3
import Derived.Test.YtbkekabhdpoddaaDoorRdf
namespace Go.Proofs.YtbkekabhdpoddaaDoor
open Go.RowKit

abbrev Gives (f : FuncId) (args : Array Value) (a b e : Int) (W : World) : Prop := Calls Tryd.prog f args W fun r W' => r = .returned (.tuple #[.agg #[.int .i64 a, .int .i64 b], .int .i64 e]) ∧ Below W.heap.size W W'
abbrev rv (n d : Int) : Value := .agg #[.int .i64 n, .int .i64 d]
theorem val_q (q : Rat) (W : World) (hq : inR q = true) : Calls Tryd.prog 33 #[.agg #[.int .i64 q.num, .int .i64 q.den]] W fun e w' => e = .returned (.bool true) ∧ Below W.heap.size W w' := by
  have hb := inR_bd hq
  have := rvalid_any q.num q.den W (by omega) (by omega) (by omega) (by omega)
  rwa [inR_vld hq] at this
/-- the reference's Div at valid ratios -/
theorem rdiv_any (q r : Rat) (W : World) (hq : inR q = true) (hr : inR r = true) (h0 : r.num ≠ 0) : Gives 32 #[rv q.num q.den, rv r.num r.den] (oN (q / r)) (oD (q / r)) (oE (q / r)) W := by
  have b1 := inR_bd hq
  have b2 := inR_bd hr
  have p1 := mul_rng (A := 1000000000000) (B := 1000000) (by omega) (by omega) (a := mag q.num) (b := mag r.den) (by unfold mag; omega) (by unfold mag; omega)
  have p2 := mul_rng (A := 1000000) (B := 1000000000000) (by omega) (by omega) (a := mag q.den) (b := mag r.num) (by unfold mag; omega) (by unfold mag; omega)
  have n1 : 0 ≤ mag q.num * mag r.den := Int.mul_nonneg (by unfold mag; omega) (by unfold mag; omega)
  have n2 : 0 < mag q.den * mag r.num := Int.mul_pos (by unfold mag; omega) (by unfold mag; omega)
  have e1 : mag (q.num * r.den) = mag q.num * mag r.den := by unfold mag; rw [Int.natAbs_mul]; simp
  have e2 : mag (q.den * r.num) = mag q.den * mag r.num := by unfold mag; rw [Int.natAbs_mul]; simp
  have hd := den_pos' q
  have hd' := den_pos' r
  have hsg : (decide (q.num * r.den < 0) != decide ((q.den : Int) * r.num < 0)) = (decide (q.num < 0) != decide (r.num < 0)) := by
    have s1 : (q.num * r.den < 0) ↔ q.num < 0 := by
      constructor
      · intro h; rcases Int.lt_or_le q.num 0 with x | x
        · exact x
        · have := Int.mul_nonneg x (show 0 ≤ (r.den : Int) by omega); omega
      · intro h; exact Int.mul_neg_of_neg_of_pos h hd'
    have s2 : ((q.den : Int) * r.num < 0) ↔ r.num < 0 := by
      constructor
      · intro h; rcases Int.lt_or_le r.num 0 with x | x
        · exact x
        · have := Int.mul_nonneg (show 0 ≤ (q.den : Int) by omega) x; omega
      · intro h; exact Int.mul_neg_of_pos_of_neg hd h
    simp only [s1, s2]
  have hm := divInt_mag (q.num * r.den) (q.den * r.num)
  rw [hsg, e1, e2, div_divInt] at hm
  have HO := fun W => of_any (decide (q.num < 0) != decide (r.num < 0)) (mag q.num * mag r.den) (mag q.den * mag r.num) W n1 n2 (by omega) (by omega)
  rw [hm] at HO
  exact rdiv_key _ _ _ _ (mag q.num) (mag q.den) (mag r.num) (mag r.den) _ _ _ _ _ W (fun W => val_q q W hq) (fun W => val_q r W hr) (fun W => size_q _ (by omega) (by omega) W) (fun W => size_q _ (by omega) (by omega) W) (fun W => size_q _ (by omega) (by omega) W) (fun W => size_q _ (by omega) (by omega) W)
    (by unfold mag; omega) (by unfold mag; omega) (by unfold mag; omega) (by unfold mag; omega) rfl rfl (by omega) (by omega) HO
theorem rdiv0_any (q r : Rat) (W : World) (hq : inR q = true) (hr : inR r = true) (h0 : r.num = 0) : Gives 32 #[rv q.num q.den, rv r.num r.den] 0 0 1 W := by
  have b1 := inR_bd hq
  have b2 := inR_bd hr
  have p1 := mul_rng (A := 1000000000000) (B := 1000000) (by omega) (by omega) (a := mag q.num) (b := mag r.den) (by unfold mag; omega) (by unfold mag; omega)
  have n1 : 0 ≤ mag q.num * mag r.den := Int.mul_nonneg (by unfold mag; omega) (by unfold mag; omega)
  exact rdiv_key _ _ _ _ (mag q.num) (mag q.den) (mag r.num) (mag r.den) _ 0 _ _ _ W (fun W => val_q q W hq) (fun W => val_q r W hr) (fun W => size_q _ (by omega) (by omega) W) (fun W => size_q _ (by omega) (by omega) W) (fun W => size_q _ (by omega) (by omega) W) (fun W => size_q _ (by omega) (by omega) W)
    (by unfold mag; omega) (by unfold mag; omega) (by unfold mag; omega) (by unfold mag; omega) rfl (by rw [h0]; show mag q.den * 0 = 0; omega) (by omega) (by omega) (fun W => rof0_any _ _ W)
/-- the reference's Mul at valid ratios -/
theorem rmul_any (q r : Rat) (W : World) (hq : inR q = true) (hr : inR r = true) : Gives 30 #[rv q.num q.den, rv r.num r.den] (oN (q * r)) (oD (q * r)) (oE (q * r)) W := by
  have b1 := inR_bd hq
  have b2 := inR_bd hr
  have g1 := gM_pos q r
  have g2 := gM_pos r q
  have m1 := mA_bd (r := r) hq
  have m2 := mA_bd (r := q) hr
  have eg1 := gM q r
  have eg2 := gM r q
  have hden := (mul_parts q r).2
  have habs := mul_abs q r
  have hsig := mul_sign q r
  obtain ⟨g, eg⟩ : ∃ g, Nat.gcd q.num.natAbs r.den = g := ⟨_, rfl⟩
  obtain ⟨h, eh⟩ : ∃ h, Nat.gcd r.num.natAbs q.den = h := ⟨_, rfl⟩
  obtain ⟨p, ep⟩ : ∃ p, mA q r = p := ⟨_, rfl⟩
  obtain ⟨s, es⟩ : ∃ s, mA r q = s := ⟨_, rfl⟩
  have dp : q.num.natAbs / g = p := by rw [← ep, ← eg]; rfl
  have ds : r.num.natAbs / h = s := by rw [← es, ← eh]; rfl
  rw [eg] at g1 eg1 hden
  rw [eh] at g2 eg2 hden
  rw [ep] at m1 habs hsig
  rw [es] at m2 habs hsig
  have hf : 1 ≤ r.den / g := Nat.div_pos g1.2 g1.1
  have he : 1 ≤ q.den / h := Nat.div_pos g2.2 g2.1
  have hf2 : r.den / g ≤ r.den := Nat.div_le_self _ _
  have he2 : q.den / h ≤ q.den := Nat.div_le_self _ _
  have hB : 1 ≤ q.den / h * (r.den / g) := Nat.mul_pos he hf
  have hB2 : q.den / h * (r.den / g) ≤ 1000000 * 1000000 := Nat.mul_le_mul (by omega) (by omega)
  have td : ∀ a b : Nat, ((a : Int) / (b : Int) = ((a / b : Nat) : Int)) ∧ ((a : Int).tdiv (b : Int) = ((a / b : Nat) : Int)) := fun a b => ⟨by simp, by rw [Int.tdiv_eq_ediv_of_nonneg (by omega)]; simp⟩
  have hcc : 1000000000000 / p ≤ 1000000000000 := Nat.div_le_self _ _
  refine rmul_key q.num q.den r.num r.den (q.num.natAbs : Int) (q.den : Int) (r.num.natAbs : Int) (r.den : Int) g h p s ((1000000000000 / p : Nat) : Int) ((q.den / h : Nat) : Int) ((r.den / g : Nat) : Int) ((p : Int) * s) (((q.den / h : Nat) : Int) * ((r.den / g : Nat) : Int)) (oN (q * r)) (oD (q * r)) (oE (q * r)) W (fun W => val_q q W hq) (fun W => val_q r W hr)
    (fun W => size_q _ (by omega) (by omega) W) (fun W => size_q (r.den : Int) (by omega) (by omega) W) (fun W => size_q (q.den : Int) (by omega) (by omega) W) (fun W => size_q _ (by omega) (by omega) W)
    (fun W => eg1 ▸ gcd_q (mag q.num) (mag r.den) W (by unfold mag; omega) (by unfold mag; omega) (by unfold mag; omega) (by unfold mag; omega)) (fun W => eg2 ▸ gcd_q (mag r.num) (mag q.den) W (by unfold mag; omega) (by unfold mag; omega) (by unfold mag; omega) (by unfold mag; omega))
    (by omega) (by omega) (by omega) (by omega) (by omega) (by omega) (by rw [(td _ _).1, dp]) (by rw [(td _ _).2, dp]) (by rw [(td _ _).1, ds]) (by rw [(td _ _).2, ds]) (by omega) (by omega) (td 1000000000000 p).1 (td 1000000000000 p).2 ⟨Int.natCast_nonneg _, Int.ofNat_le.2 hcc⟩ (td _ _).1 (td _ _).2 (td _ _).1 (td _ _).2 (by omega) (by omega) rfl rfl (by rw [← Int.natCast_mul]; omega) ?_
  by_cases hov : p * s ≤ 1000000000000
  · refine .inl ⟨?_, by rw [← Int.natCast_mul]; omega, fun W => ?_⟩
    · rcases Nat.eq_zero_or_pos p with h0 | h0
      · exact .inl (by omega)
      · refine .inr ⟨by omega, ?_⟩
        have : s ≤ 1000000000000 / p := (Nat.le_div_iff_mul_le h0).2 (by rw [Nat.mul_comm]; exact hov)
        omega
    · have HO := of_any (decide (q.num < 0) != decide (r.num < 0)) ((p * s : Nat) : Int) (((q * r).den : Nat) : Int) W (by omega) (den_pos' _) (by omega) (by rw [hden]; omega)
      rw [show (decide (q.num < 0) != decide (r.num < 0)) = sgM q r from rfl, hsig] at HO
      rw [hden, Int.natCast_mul, Int.natCast_mul] at HO
      exact HO
  · have h0 : 0 < p := by rcases Nat.eq_zero_or_pos p with h0 | h0; · rw [h0] at hov; simp at hov
                          · exact h0
    have hno : inR (q * r) = false := by
      simp only [inR, decide_eq_false_iff_not]
      omega
    refine .inr ⟨by omega, ?_, oN_no hno, oD_no hno, oE_no hno⟩
    have : ¬ s ≤ 1000000000000 / p := fun h => hov (by rw [Nat.mul_comm]; exact (Nat.le_div_iff_mul_le h0).1 h)
    omega
theorem matches_law (n1 d1 n2 d2 xn xd xp : Int) (t : ByteArray) (w : World) (hL : Lw w) (h1 : B64 n1) (k1 : B64 d1) (h2 : B64 n2) (k2 : B64 d2) (e1 : B64 xn) (e2 : B64 xd) (e3 : B64 xp) :
    Calls Tryd.prog 8 #[.agg #[.int .i64 n1, .int .i64 d1], .agg #[.int .i64 n2, .int .i64 d2], .agg #[.int .i64 xn, .int .i64 xd, .int .i64 xp, .string t]] w fun e w' => e = .returned (.bool true) ∧ Below w.heap.size w w' := by
  have HH : ∀ W, Below w.heap.size w W → Calls Tryd.prog 11 #[] W fun e w' => e = .returned (.bool true) ∧ Below W.heap.size W w' := fun W hb => head_any W (hL.below hb)
  by_cases hl : (1000 : Int) < t.size
  · exact matches_long n1 d1 n2 d2 xn xd xp t w HH hl
  · have M : ∃ a b e, (∀ W, Gives 13 #[.int .i64 xn, .int .i64 xd] a b e W) ∧ (∀ W, Gives 24 #[.int .i64 xn, .int .i64 xd] a b e W) := by
      by_cases h : xd = 0
      · subst h; exact ⟨_, _, _, fun W => make0_any xn W, fun W => rmake0_any xn W e1.1 e1.2⟩
      · exact ⟨_, _, _, fun W => make_any xn xd W h e1.1 e1.2 e2.1 e2.2, fun W => rmake_any xn xd W h e1.1 e1.2 e2.1 e2.2⟩
    have R : ∃ a b e, (∀ W, Gives 21 #[rv n1 d1, .int .i64 xp] a b e W) ∧ (∀ W, Gives 26 #[rv n1 d1, .int .i64 xp] a b e W) := by
      cases v1 : vld n1 d1 with
      | false => exact ⟨_, _, _, fun W => round_no n1 d1 xp W (.inl v1) h1 k1, fun W => rround_no n1 d1 xp W (.inl v1) h1 k1⟩
      | true =>
        by_cases hp : xp < 1
        · exact ⟨_, _, _, fun W => round_no n1 d1 xp W (.inr ⟨v1, .inl hp⟩) h1 k1, fun W => rround_no n1 d1 xp W (.inr ⟨v1, .inl hp⟩) h1 k1⟩
        · by_cases hp2 : 1000000 < xp
          · exact ⟨_, _, _, fun W => round_no n1 d1 xp W (.inr ⟨v1, .inr ⟨hp, hp2⟩⟩) h1 k1, fun W => rround_no n1 d1 xp W (.inr ⟨v1, .inr ⟨hp, hp2⟩⟩) h1 k1⟩
          · obtain ⟨q, hq, rfl, rfl⟩ := rat_of_vld v1
            exact ⟨_, _, _, fun W => round_any q xp W hq (by omega) (by omega), fun W => rround_any q xp W hq (by omega) (by omega)⟩
    have V : (∀ W, Calls Tryd.prog 15 #[rv n1 d1] W fun e w' => e = .returned (.bool (vld n1 d1)) ∧ Below W.heap.size W w') ∧ (∀ W, Calls Tryd.prog 33 #[rv n1 d1] W fun e w' => e = .returned (.bool (vld n1 d1)) ∧ Below W.heap.size W w') :=
      ⟨fun W => valid_any n1 d1 W h1.1 h1.2 k1.1 k1.2, fun W => rvalid_any n1 d1 W h1.1 h1.2 k1.1 k1.2⟩
    have F : ∃ f : Int, (∀ W, Calls Tryd.prog 19 #[rv n1 d1] W fun e w' => e = .returned (.int .i64 f) ∧ Below W.heap.size W w') ∧ (∀ W, Calls Tryd.prog 35 #[rv n1 d1] W fun e w' => e = .returned (.int .i64 f) ∧ Below W.heap.size W w') := by
      cases v1 : vld n1 d1 with
      | false => exact ⟨_, fun W => ffloor_no n1 d1 W h1.1 h1.2 k1.1 k1.2 v1, fun W => rfloor_no n1 d1 W h1 k1 v1⟩
      | true =>
        obtain ⟨q, hq, rfl, rfl⟩ := rat_of_vld v1
        exact ⟨_, fun W => ffloor_any q W hq, fun W => rfloor_any q W hq⟩
    have O : ∃ s1 s2 s3 d1' d2' d3 u1 u2 u3 z1 z2 z3 k : Int, ((∀ W, Gives 17 #[rv n1 d1, rv n2 d2] s1 s2 s3 W) ∧ (∀ W, Gives 27 #[rv n1 d1, rv n2 d2] s1 s2 s3 W)) ∧ ((∀ W, Gives 28 #[rv n1 d1, rv n2 d2] d1' d2' d3 W) ∧ (∀ W, Gives 29 #[rv n1 d1, rv n2 d2] d1' d2' d3 W)) ∧
        ((∀ W, Gives 18 #[rv n1 d1, rv n2 d2] u1 u2 u3 W) ∧ (∀ W, Gives 30 #[rv n1 d1, rv n2 d2] u1 u2 u3 W)) ∧ ((∀ W, Gives 31 #[rv n1 d1, rv n2 d2] z1 z2 z3 W) ∧ (∀ W, Gives 32 #[rv n1 d1, rv n2 d2] z1 z2 z3 W)) ∧
        ((∀ W, Calls Tryd.prog 16 #[rv n1 d1, rv n2 d2] W fun e w' => e = .returned (.int .i64 k) ∧ Below W.heap.size W w') ∧ (∀ W, Calls Tryd.prog 34 #[rv n1 d1, rv n2 d2] W fun e w' => e = .returned (.int .i64 k) ∧ Below W.heap.size W w')) := by
      have bad : ∀ h : vld n1 d1 = false ∨ (vld n1 d1 = true ∧ vld n2 d2 = false), _ := fun h => (⟨_, _, _, _, _, _, _, _, _, _, _, _, _, ⟨fun W => add_no n1 d1 n2 d2 W h h1 k1 h2 k2, fun W => radd_no n1 d1 n2 d2 W h h1 k1 h2 k2⟩, ⟨fun W => sub_no n1 d1 n2 d2 W h h1 k1 h2 k2, fun W => rsub_no n1 d1 n2 d2 W h h1 k1 h2 k2⟩, ⟨fun W => mul_no n1 d1 n2 d2 W h h1 k1 h2 k2, fun W => rmul_no n1 d1 n2 d2 W h h1 k1 h2 k2⟩, ⟨fun W => div_no n1 d1 n2 d2 W h h1 k1 h2 k2, fun W => rdiv_no n1 d1 n2 d2 W h h1 k1 h2 k2⟩, ⟨fun W => cmp_no n1 d1 n2 d2 W h h1 k1 h2 k2, fun W => rcmp_no n1 d1 n2 d2 W h h1 k1 h2 k2⟩⟩ :
        ∃ s1 s2 s3 d1' d2' d3 u1 u2 u3 z1 z2 z3 k : Int, ((∀ W, Gives 17 #[rv n1 d1, rv n2 d2] s1 s2 s3 W) ∧ (∀ W, Gives 27 #[rv n1 d1, rv n2 d2] s1 s2 s3 W)) ∧ ((∀ W, Gives 28 #[rv n1 d1, rv n2 d2] d1' d2' d3 W) ∧ (∀ W, Gives 29 #[rv n1 d1, rv n2 d2] d1' d2' d3 W)) ∧
        ((∀ W, Gives 18 #[rv n1 d1, rv n2 d2] u1 u2 u3 W) ∧ (∀ W, Gives 30 #[rv n1 d1, rv n2 d2] u1 u2 u3 W)) ∧ ((∀ W, Gives 31 #[rv n1 d1, rv n2 d2] z1 z2 z3 W) ∧ (∀ W, Gives 32 #[rv n1 d1, rv n2 d2] z1 z2 z3 W)) ∧
        ((∀ W, Calls Tryd.prog 16 #[rv n1 d1, rv n2 d2] W fun e w' => e = .returned (.int .i64 k) ∧ Below W.heap.size W w') ∧ (∀ W, Calls Tryd.prog 34 #[rv n1 d1, rv n2 d2] W fun e w' => e = .returned (.int .i64 k) ∧ Below W.heap.size W w')))
      cases v1 : vld n1 d1 with
      | false => exact bad (.inl v1)
      | true =>
        cases v2 : vld n2 d2 with
        | false => exact bad (.inr ⟨v1, v2⟩)
        | true =>
          clear bad
          obtain ⟨q, hq, rfl, rfl⟩ := rat_of_vld v1
          obtain ⟨r, hr, rfl, rfl⟩ := rat_of_vld v2
          have HC : (∀ W, Calls Tryd.prog 34 #[rv q.num q.den, rv r.num r.den] W fun e w' => e = .returned (.int .i64 (cmpN q r)) ∧ Below W.heap.size W w') := fun W => (rcmp_any q r W hq hr).mono fun _ _ ⟨a, b⟩ => ⟨a, b⟩
          by_cases h0 : r.num = 0
          · exact ⟨_, _, _, _, _, _, _, _, _, _, _, _, _, ⟨fun W => add_any q r W hq hr, fun W => radd_any q r W hq hr⟩, ⟨fun W => sub_any q r W hq hr, fun W => rsub_any q r W hq hr⟩, ⟨fun W => mul_any q r W hq hr, fun W => rmul_any q r W hq hr⟩, ⟨fun W => div0_any q r W hq hr h0, fun W => rdiv0_any q r W hq hr h0⟩, ⟨fun W => cmp_i q r W hq hr, HC⟩⟩
          · exact ⟨_, _, _, _, _, _, _, _, _, _, _, _, _, ⟨fun W => add_any q r W hq hr, fun W => radd_any q r W hq hr⟩, ⟨fun W => sub_any q r W hq hr, fun W => rsub_any q r W hq hr⟩, ⟨fun W => mul_any q r W hq hr, fun W => rmul_any q r W hq hr⟩, ⟨fun W => div_any q r W hq hr h0, fun W => rdiv_any q r W hq hr h0⟩, ⟨fun W => cmp_i q r W hq hr, HC⟩⟩
    obtain ⟨ma, mb, mc, M1, M2⟩ := M
    obtain ⟨ra, rb, rc, R1, R2⟩ := R
    obtain ⟨f, F1, F2⟩ := F
    obtain ⟨s1, s2, s3, d1', d2', d3, u1, u2, u3, z1, z2, z3, k, ⟨A1, A2⟩, ⟨S1, S2⟩, ⟨U1, U2⟩, ⟨D1, D2⟩, ⟨C1, C2⟩⟩ := O
    exact matches_key n1 d1 n2 d2 xn xd xp k f ma mb mc (pN (prs t.toList)) (pD (prs t.toList)) (pE (prs t.toList)) ra rb rc s1 s2 s3 d1' d2' d3 u1 u2 u3 z1 z2 z3 t (bA (txtO n1 d1)) (vld n1 d1) w HH hl M1 M2 (fun W hb => parse_any t W (hL.below hb) (by omega)) (fun W => rparse_any t W (by omega)) R1 R2 A1 A2 S1 S2 U1 U2 D1 D2 V.1 V.2 C1 C2 F1 F2
      (fun W hb => ftext_any n1 d1 W (hL.below hb) h1.1 h1.2 k1.1 k1.2) (fun W => rtext_any n1 d1 W h1 k1)
end Go.Proofs.YtbkekabhdpoddaaDoor
