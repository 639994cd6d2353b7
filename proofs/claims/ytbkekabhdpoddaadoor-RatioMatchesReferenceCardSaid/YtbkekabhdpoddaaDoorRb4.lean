/- The walk of ratio.Mul at valid ratios. -/
import Derived.Test.YtbkekabhdpoddaaDoorRb3
import Derived.Test.YtbkekabhdpoddaaDoorQt
import Derived.Test.YtbkekabhdpoddaaDoorShr
import Derived.Deep.Cut
import Derived.StillTail
namespace Go.Proofs.YtbkekabhdpoddaaDoor
open Go.RowKit

theorem name_wp {P : Program} {c : Code} {Q : Exit → Act → World → Prop} {a : Act} {w : World} (h : ∀ w', w' = w → c.wp P Q a w') : c.wp P Q a w := h w rfl
theorem blk_at {w : World} {n : Nat} {T : TypeId} {cs : Array Value} (h : n = w.heap.size) : Blk (w.alloc (.cells cs T)) n T cs := h ▸ Blk.new w T cs
theorem mulNat (x y : Nat) (w : World) (hx : x < 18446744073709551616) (hy : y < 18446744073709551616) :
    Calls Tryd.prog 43 #[.int .u64 x, .int .u64 y] w fun e w' => e = .returned (.tuple #[.int .u64 ((x * y / 18446744073709551616 : Nat) : Int), .int .u64 ((x * y % 18446744073709551616 : Nat) : Int)]) ∧ w = w' :=
  (Tryd.bits_Mul64 x y hx hy w).mono fun _ _ ⟨a, b⟩ => ⟨a, b.symm⟩
set_option maxRecDepth 100000 in
set_option maxHeartbeats 3200000 in
theorem mul1_any (q r : Rat) (b1 b2 : Nat) (w : World) (hq : inR q = true) (hr : inR r = true) (l1 : b1 < w.heap.size) (l2 : b2 < w.heap.size)
    (c1 : w.cell? ⟨b1, 0, none⟩ = some (.int .i64 q.num)) (c2 : w.cell? ⟨b1, 1, none⟩ = some (.int .i64 q.den)) (c3 : w.cell? ⟨b2, 0, none⟩ = some (.int .i64 r.num)) (c4 : w.cell? ⟨b2, 1, none⟩ = some (.int .i64 r.den)) :
    Calls Tryd.prog 42 #[.pointer (some ⟨b1, 0, none⟩), .pointer (some ⟨b2, 0, none⟩)] w fun e w' =>
      e = .returned (.tuple #[.agg #[.int .i64 (oN (q * r)), .int .i64 (oD (q * r))], .int .i64 (oE (q * r))]) ∧ Below w.heap.size w w' := by
  have hb1 := inR_bd hq
  have hb2 := inR_bd hr
  have hA := mA_bd (r := r) hq
  have hB := mA_bd (r := q) hr
  obtain ⟨g1, g2⟩ := gM_pos q r
  obtain ⟨h1, h2⟩ := gM_pos r q
  have HS := Lib.hid (mul_sign q r)
  have HP := Lib.hid (mul_parts q r).2
  have HBIG := Lib.hid (fun h => mul_big (q := q) (r := r) h)
  have HM1 := Lib.hid (fun W => mag_any q.num W (by omega) (by omega))
  have HM2 := Lib.hid (fun W => mag_any q.den W (by omega) (by omega))
  have HM3 := Lib.hid (fun W => mag_any r.num W (by omega) (by omega))
  have HM4 := Lib.hid (fun W => mag_any r.den W (by omega) (by omega))
  obtain ⟨A, eA⟩ : ∃ A : Nat, q.num.natAbs = A := ⟨_, rfl⟩
  obtain ⟨B, eB⟩ : ∃ B : Nat, r.num.natAbs = B := ⟨_, rfl⟩
  obtain ⟨D, eD⟩ : ∃ D : Nat, q.den = D := ⟨_, rfl⟩
  obtain ⟨E, eE⟩ : ∃ E : Nat, r.den = E := ⟨_, rfl⟩
  obtain ⟨g, eg⟩ : ∃ g : Nat, Nat.gcd A E = g := ⟨_, rfl⟩
  obtain ⟨k, ek⟩ : ∃ k : Nat, Nat.gcd B D = k := ⟨_, rfl⟩
  have mD : mag (D : Int) = (D : Int) := rfl
  have mE : mag (E : Int) = (E : Int) := rfl
  have mA' : mag q.num = (A : Int) := by rw [← eA]; rfl
  have mB' : mag r.num = (B : Int) := by rw [← eB]; rfl
  have xA : mA q r = A / g := by unfold mA; rw [eA, eE, eg]
  have xB : mA r q = B / k := by unfold mA; rw [eB, eD, ek]
  rw [eD] at HM2 hb1 h2 c2
  rw [eE] at HM4 hb2 g2 c4
  rw [mA'] at HM1
  rw [mB'] at HM3
  rw [mD] at HM2
  rw [mE] at HM4
  rw [eA, eE, eg] at g1
  rw [eA, eg] at g2
  rw [eB, eD, ek] at h1
  rw [eB, ek] at h2
  rw [eA, eB, eD, eE, eg, ek] at HP
  rw [xA, xB] at HS HBIG
  rw [xA] at hA
  rw [xB] at hB
  have hAA : A ≤ 1000000000000 := by rw [← eA]; omega
  have hBB : B ≤ 1000000000000 := by rw [← eB]; omega
  have HD1 : Hid (∀ (b : Nat) (W : World), W.cell? ⟨b, 0, none⟩ = some (.int .u64 A) → W.cell? ⟨b, 1, none⟩ = some (.int .u64 E) → Calls Tryd.prog 39 #[.slice (some ⟨b, 0, none⟩) 2 2] W fun e w' => e = .returned (.int .u64 g) ∧ ∃ n, w' = W.drewN n) := fun b W k0 k1 => by
    have := dvs_any b A E W (by omega) (by omega) (by omega) (by omega) k0 k1
    rwa [show (Int.gcd (A : Int) (E : Int)) = g from eg] at this
  have HD2 : Hid (∀ (b : Nat) (W : World), W.cell? ⟨b, 0, none⟩ = some (.int .u64 B) → W.cell? ⟨b, 1, none⟩ = some (.int .u64 D) → Calls Tryd.prog 39 #[.slice (some ⟨b, 0, none⟩) 2 2] W fun e w' => e = .returned (.int .u64 k) ∧ ∃ n, w' = W.drewN n) := fun b W k0 k1 => by
    have := dvs_any b B D W (by omega) (by omega) (by omega) (by omega) k0 k1
    rwa [show (Int.gcd (B : Int) (D : Int)) = k from ek] at this
  obtain ⟨hi, ehi⟩ : ∃ hi : Nat, A / g * (B / k) / 18446744073709551616 = hi := ⟨_, rfl⟩
  obtain ⟨lo, elo⟩ : ∃ lo : Nat, A / g * (B / k) % 18446744073709551616 = lo := ⟨_, rfl⟩
  have HHL := Lib.hid (And.intro ehi elo)
  have HMU := Lib.hid (fun W => mulNat (A / g) (B / k) W (by omega) (by omega))
  rw [Int.natCast_ediv, Int.natCast_ediv, ehi, elo] at HMU
  clear ehi elo
  clear hq hr mA' mB' mD mE eA eB eD eE eg ek xA xB
  go_enter Tryd.func42, Tryd.ntmps42
  go_upto_region 1 with (fail)
  go_quiet ((first | (go_at_call 38; with_reducible exact quiet_left (HM1.out _)) | (go_at_call 38; with_reducible exact quiet_left (HM2.out _))))
  go_upto_region 2 with (fail)
  refine name_wp ?_
  intro Y hY
  have hbY : Below w.heap.size w Y := by rw [hY]; exact below_drewN (wa1 _ _) _
  have gY : Blk Y w.heap.size 25 #[.int .i64 0, .int .i64 0] := by rw [hY]; exact (Blk.new _ _ _).drewN _
  have d1 : Y.cell? ⟨b1, 0, none⟩ = some (.int .i64 q.num) := (hbY.cell (p := ⟨b1, 0, none⟩) l1).trans c1
  have d3 : Y.cell? ⟨b2, 0, none⟩ = some (.int .i64 r.num) := (hbY.cell (p := ⟨b2, 0, none⟩) l2).trans c3
  have d4 : Y.cell? ⟨b2, 1, none⟩ = some (.int .i64 E) := (hbY.cell (p := ⟨b2, 1, none⟩) l2).trans c4
  have k1 : b1 < Y.heap.size := Nat.lt_of_lt_of_le l1 hbY.size
  have k2 : b2 < Y.heap.size := Nat.lt_of_lt_of_le l2 hbY.size
  obtain ⟨R, hR⟩ : ∃ b, w.heap.size = b := ⟨_, rfl⟩
  rw [hR] at gY ⊢
  have HBY := Lib.hid hbY
  have GY := Lib.hid gY
  have ER := Lib.hid hR
  clear hY hbY gY hR c1 c2 c3 c4 l1 l2
  go_quiet ((first | (go_at_call 38; with_reducible exact quiet_left (HM3.out _)) | (go_at_call 38; with_reducible exact quiet_left (HM4.out _))))
  go_upto_region 4 with (first | (go_at_call 39; refine (HD1.out _ _ (by exact (Blk.new _ _ _).cell 0) (by exact (Blk.new _ _ _).cell 1)).mono ?_; rintro e w' ⟨rfl, nn, rfl⟩) | (go_at_call 39; refine (HD2.out _ _ (by exact (blk_at (by simp)).cell 0) (by exact (blk_at (by simp)).cell 1)).mono ?_; rintro e w' ⟨rfl, n2, rfl⟩))
  refine name_wp ?_
  intro Z hZ
  have hbZ : Below Y.heap.size Y Z := by rw [hZ]; (repeat (first | with_reducible assumption | with_reducible refine below_drewN ?_ _ | with_reducible refine Below.drew ?_ | with_reducible refine below_alloc ?_ _ | with_reducible refine Below.setCell ?_ (by first | omega | (simp; done) | (simp; omega)) _ | with_reducible refine below_then ?_ (by with_reducible assumption))); exact Below.refl _ _
  have gZ : Blk Z R 25 #[.int .i64 0, .int .i64 0] := GY.out.then_ hbZ
  have f1 : Z.cell? ⟨b1, 0, none⟩ = some (.int .i64 q.num) := (hbZ.cell (p := ⟨b1, 0, none⟩) k1).trans d1
  have f3 : Z.cell? ⟨b2, 0, none⟩ = some (.int .i64 r.num) := (hbZ.cell (p := ⟨b2, 0, none⟩) k2).trans d3
  have HBZ : Hid (Below w.heap.size w Z) := below_then HBY.out hbZ
  have m1 : b1 < Z.heap.size := Nat.lt_of_lt_of_le k1 hbZ.size
  have m2 : b2 < Z.heap.size := Nat.lt_of_lt_of_le k2 hbZ.size
  have GZ := Lib.hid gZ
  clear hZ hbZ gZ d1 d3 d4 k1 k2 HBY GY HD1 HD2 HM1 HM2 HM3 HM4
  have hg0 : (g : Int) ≠ 0 := by omega
  have hk0 : (k : Int) ≠ 0 := by omega
  have hg1 : g ≠ 0 := by omega
  have hk1 : k ≠ 0 := by omega
  have hg2 : ((g : Int) == 0) = false := by simpa using hg0
  have hk2 : ((k : Int) == 0) = false := by simpa using hk0
  have q1 : 0 ≤ (A : Int) / (g : Int) := Int.ediv_nonneg (by omega) (by omega)
  have q2 : (A : Int) / (g : Int) ≤ A := Int.ediv_le_self _ (by omega)
  have q3 : 0 ≤ (B : Int) / (k : Int) := Int.ediv_nonneg (by omega) (by omega)
  have q4 : (B : Int) / (k : Int) ≤ B := Int.ediv_le_self _ (by omega)
  go_quiet ((go_at_call 43; with_reducible exact quiet_left (HMU.out _)))
  go_upto_region 5 with (fail)
  refine name_wp ?_
  intro U hU
  have hbU : Below Z.heap.size Z U := by rw [hU]; exact below_drewN (Below.refl _ _) _
  have gU : Blk U R 25 #[.int .i64 0, .int .i64 0] := GZ.out.then_ hbU
  have e1 : U.cell? ⟨b1, 0, none⟩ = some (.int .i64 q.num) := (hbU.cell (p := ⟨b1, 0, none⟩) m1).trans f1
  have e3 : U.cell? ⟨b2, 0, none⟩ = some (.int .i64 r.num) := (hbU.cell (p := ⟨b2, 0, none⟩) m2).trans f3
  have n1 : b1 < U.heap.size := Nat.lt_of_lt_of_le m1 hbU.size
  have n2' : b2 < U.heap.size := Nat.lt_of_lt_of_le m2 hbU.size
  have HBU : Hid (Below w.heap.size w U) := below_then HBZ.out hbU
  clear hU hbU f1 f3 m1 m2 GZ HBZ HMU q1 q2 q3 q4
  by_cases hh : hi = 0
  · have hP : A / g * (B / k) = lo := by have h := HHL.out.1; have h' := HHL.out.2; omega
    have hlo : lo < 18446744073709551616 := by have h' := HHL.out.2; omega
    rw [hP, HP.out] at HS
    have hd1 : D / k ≤ D := Nat.div_le_self _ _
    have hd2 : E / g ≤ E := Nat.div_le_self _ _
    have hd3 : 1 ≤ D / k := (Nat.le_div_iff_mul_le (by omega)).2 (by omega)
    have hd4 : 1 ≤ E / g := (Nat.le_div_iff_mul_le (by omega)).2 (by omega)
    obtain ⟨x, hx⟩ : ∃ x : Nat, D / k = x := ⟨_, rfl⟩
    obtain ⟨y, hy⟩ : ∃ y : Nat, E / g = y := ⟨_, rfl⟩
    rw [hx] at hd1 hd3 HS
    rw [hy] at hd2 hd4 HS
    have hx' : (D : Int) / (k : Int) = x := by rw [← Int.natCast_ediv, hx]
    have hy' : (E : Int) / (g : Int) = y := by rw [← Int.natCast_ediv, hy]
    have hxy : 1 ≤ x * y ∧ x * y ≤ 1000000000000 := by
      have a1 := Nat.mul_le_mul (show x ≤ 1000000 by omega) (show y ≤ 1000000 by omega)
      have a2 := Nat.mul_le_mul hd3 hd4
      omega
    obtain ⟨z, hz⟩ : ∃ z : Nat, x * y = z := ⟨_, rfl⟩
    have hz' : (x : Int) * (y : Int) = z := by rw [← Int.natCast_mul, hz]
    rw [hz] at hxy HS
    have HF0 : (∀ W, Calls Tryd.prog 37 #[.bool (sgM q r), .int .u64 lo, .int .u64 z] W fun e w' => e = .returned (.tuple #[.agg #[.int .i64 (oN (q * r)), .int .i64 (oD (q * r))], .int .i64 (oE (q * r))]) ∧ Below W.heap.size W w') := fun W => by
      have := fraction_any (sgM q r) lo z W (by omega) (by omega) (by omega) (by omega)
      rwa [HS.out] at this
    have wx : IntKind.u64.wrap (x : Int) = x := by rw [IntKind.wrap_u64]; omega
    have wy : IntKind.u64.wrap (y : Int) = y := by rw [IntKind.wrap_u64]; omega
    have wz : IntKind.u64.wrap (z : Int) = z := by rw [IntKind.wrap_u64]; omega
    obtain ⟨oa, ha⟩ : ∃ a, oN (q * r) = a := ⟨_, rfl⟩
    obtain ⟨ob, hb⟩ : ∃ a, oD (q * r) = a := ⟨_, rfl⟩
    obtain ⟨oc, hc⟩ : ∃ a, oE (q * r) = a := ⟨_, rfl⟩
    simp only [ha, hb, hc] at HF0
    have HABC := Lib.hid (And.intro ha (And.intro hb hc))
    subst hh
    have r0 : U.cell? ⟨R, 0, none⟩ = some (.int .i64 0) := gU.cell 0
    have lR := gU.lt
    clear HS HHL HBIG HP hP hx hy hz ha hb hc hd1 hd2 hd3 hd4 hA hB g1 g2 h1 h2
    go_upto_region 7 with (fail)
    by_cases s1 : q.num < 0 <;> by_cases s2 : r.num < 0
    all_goals
      simp only [sgM, s1, s2, decide_true, decide_false, bne_self_eq_false, Bool.true_bne, Bool.false_bne, Bool.not_false] at HF0
      have HF := Lib.hid HF0
      clear HF0
      have rg0 := cell_regrown e1
      have rg1 := cell_regrown e3
      refine wp_region_qt [0, 1, 2, 3, 4, 5, 6, 7, 8, 9, 10, 11, 12, 13, 14, 15] [16, 17, 18, 19] (by kernel_rfl) (by kernel_rfl) (by repeat (first | with_reducible refine panOk_then ?_ | with_reducible refine panOk_block ?_ | exact panOk_body)) ?_
      simp only [opsAt, List.getElem?_toArray, List.getElem?_cons_succ, List.getElem?_cons_zero, Option.toList_some, List.cons_append, List.nil_append]
      repeat (go_big_quiet_step ((go_at_call 37; with_reducible exact qt_call (fun W' _ => HF.out W') _ _)))
      refine wpQuiet_nil ?_
      intro V hw2
      have hbV := qt_world hw2
      clear hw2 rg0 rg1
      have gV := gU.then_ hbV
      have r0' : V.cell? ⟨R, 0, none⟩ = some (.int .i64 0) := gV.cell 0
      have r1' : V.cell? ⟨R, 1, none⟩ = some (.int .i64 0) := gV.cell 1
      have z0 : V.frozen? ⟨R, 0, none⟩ = false := gV.frozen 0
      have z1 : V.frozen? ⟨R, 1, none⟩ = false := gV.frozen 1
      have lV := gV.lt
      have HBV : Hid (Below w.heap.size w V) := below_then HBU.out hbV
      have hRR : w.heap.size ≤ R := by have := ER.out; omega
      clear hbV
      go_wp2
      refine bodyPost_ret (ret_rat rfl rfl (by (repeat (first | with_reducible assumption | with_reducible refine Blk.alloc ?_ _ | with_reducible refine Blk.drewN ?_ _ | with_reducible apply Blk.setT0 | with_reducible apply Blk.setT1 | with_reducible refine Blk.far ?_ (by first | (simp; done) | omega | (simp; omega)) _ | with_reducible refine Blk.then_ ?_ (by with_reducible assumption))))) rfl ⟨?_, ?_⟩
      · exact tup_ok HABC.out.1.symm HABC.out.2.1.symm HABC.out.2.2.symm
      · exact (HBV.out.setCell (p := ⟨R, 0, none⟩) hRR _).setCell (p := ⟨R, 1, none⟩) hRR _
  · have hin : inR (q * r) = false := HBIG.out (by have h := HHL.out.1; omega)
    have HABC := Lib.hid (And.intro (oN_no hin) (And.intro (oD_no hin) (oE_no hin)))
    have r0 : U.cell? ⟨R, 0, none⟩ = some (.int .i64 0) := gU.cell 0
    have r1 : U.cell? ⟨R, 1, none⟩ = some (.int .i64 0) := gU.cell 1
    have s0 : U.frozen? ⟨R, 0, none⟩ = false := gU.frozen 0
    have s1 : U.frozen? ⟨R, 1, none⟩ = false := gU.frozen 1
    have lR := gU.lt
    have hh' : ((hi : Int) == 0) = false := by simpa using hh
    have hh2 : (hi : Int) ≠ 0 := by omega
    have hRR : w.heap.size ≤ R := by have := ER.out; omega
    go_wp2
    refine bodyPost_ret (ret_rat rfl rfl (by (repeat (first | with_reducible assumption | with_reducible refine Blk.alloc ?_ _ | with_reducible refine Blk.drewN ?_ _ | with_reducible apply Blk.setT0 | with_reducible apply Blk.setT1 | with_reducible refine Blk.far ?_ (by first | (simp; done) | omega | (simp; omega)) _ | with_reducible refine Blk.then_ ?_ (by with_reducible assumption))))) rfl ⟨?_, ?_⟩
    · exact tup_ok HABC.out.1.symm HABC.out.2.1.symm HABC.out.2.2.symm
    · exact (HBU.out.setCell (p := ⟨R, 0, none⟩) hRR _).setCell (p := ⟨R, 1, none⟩) hRR _
end Go.Proofs.YtbkekabhdpoddaaDoor
