/- The walk of RatioFloor. -/
import Derived.Test.YtbkekabhdpoddaaDoorRc1
import Derived.Test.YtbkekabhdpoddaaDoorQa
namespace Go.Proofs.YtbkekabhdpoddaaDoor
open Go.RowKit

theorem vld_int {t : Int} (h1 : -1000000 ≤ t) (h2 : t ≤ 1000000) : vld t 1 = true := vld_mk ⟨by omega, by omega, by omega, by omega, Int.gcd_one_right t⟩
theorem tmod_rng (p : Int) : -1000000 ≤ p.tmod 1000001 ∧ p.tmod 1000001 ≤ 1000000 := by
  have h1 := Int.tmod_lt_of_pos p (show (0 : Int) < 1000001 by omega)
  have h2 := Int.lt_tmod_of_pos p (show (0 : Int) < 1000001 by omega)
  omega
set_option maxRecDepth 100000 in
set_option maxHeartbeats 3200000 in
theorem floorlaw_any (n d p : Int) (w : World) (hL : Lw w) (hn1 : -9223372036854775808 ≤ n) (hn2 : n ≤ 9223372036854775807) (hd1 : -9223372036854775808 ≤ d) (hd2 : d ≤ 9223372036854775807) (hp1 : -9223372036854775808 ≤ p) (hp2 : p ≤ 9223372036854775807) :
    Calls Tryd.prog 5 #[.agg #[.int .i64 n, .int .i64 d], .int .i64 p] w fun e w' => e = .returned (.bool true) ∧ Below w.heap.size w w' := by
  have HH := Lib.hid (fun W (hb : Below w.heap.size w W) => head_any W (hL.below hb))
  have HV := Lib.hid (fun W => valid_any n d W hn1 hn2 hd1 hd2)
  cases hv : vld n d with
  | false =>
    rw [hv] at HV
    have HF := Lib.hid (fun W => ffloor_no n d W hn1 hn2 hd1 hd2 hv)
    clear hv hL hn1 hn2 hd1 hd2 hp1 hp2
    go_enter Tryd.func5, Tryd.ntmps5
    go_upto_region 1 with (fail)
    refine name_wp ?_
    intro X hX
    have gX : Blk X w.heap.size 25 #[.int .i64 n, .int .i64 d] := by rw [hX]; exact Blk.new _ _ _
    have HBX : Hid (Below w.heap.size w X) := by rw [hX]; exact wa1 _ _
    obtain ⟨b, eb⟩ : ∃ b, w.heap.size = b := ⟨_, rfl⟩
    rw [eb] at gX ⊢
    clear hX
    have hz := Below.refl X.heap.size X
    go_wp2_with (first | (refine wpList_row_w (by rfl) 25 _ rfl b rfl 25 #[.int .i64 n, .int .i64 d] (by (repeat (first | with_reducible assumption | with_reducible exact Blk.new _ _ _ | with_reducible refine Blk.drew ?_ | with_reducible refine Blk.alloc ?_ _ | with_reducible refine Blk.drewN ?_ _ | with_reducible apply Blk.setT0 | with_reducible apply Blk.setT1 | with_reducible refine Blk.far ?_ (by first | (simp; done) | omega | (simp; omega)) _ | with_reducible refine Blk.then_ ?_ (by with_reducible assumption)))) ⟨_, Tryd.underlying25⟩ (by kernel_rfl) ?_; simp only [Act.put, List.setIfInBounds_toArray, List.set_cons_succ, List.set_cons_zero]) | (go_at_call 11; (with_reducible refine (HH.out _ HBX.out).mono ?_); rintro e w1 ⟨rfl, hb1⟩) | (go_at_call 15; (with_reducible refine (HV.out _).mono ?_); rintro e w2 ⟨rfl, hb2⟩) | (go_at_call 19; (with_reducible refine (HF.out _).mono ?_); rintro e w3 ⟨rfl, hb3⟩))
    go_ret
    exact ⟨rfl, below_then (below_then (below_then HBX.out hb1) hb2) hb3⟩
  | true =>
    rw [hv] at HV
    obtain ⟨q, hq, rfl, rfl⟩ := rat_of_vld hv
    have hbd := inR_bd hq
    obtain ⟨t1, t2⟩ := tmod_rng p
    obtain ⟨f1, f2⟩ := flr_bd q
    obtain ⟨f3, f4⟩ := flr_rng hq
    have HF := Lib.hid (fun W => ffloor_any q W hq)
    have HSUM := Lib.hid (flr_add q (p.tmod 1000001))
    obtain ⟨t, ht⟩ : ∃ t, p.tmod 1000001 = t := ⟨_, rfl⟩
    rw [ht] at t1 t2 HSUM
    obtain ⟨r, hr, e1, e2⟩ := rat_of_vld (vld_int t1 t2)
    have hrt := num_eq e1 e2
    rw [← hrt] at HSUM
    have HA := Lib.hid (fun W => add_any q r W hq hr)
    rw [e1, e2] at HA
    have HO := Lib.hid (fun W => of_lit t 1 W)
    obtain ⟨k, hk⟩ : ∃ k, flr q = k := ⟨_, rfl⟩
    rw [hk] at f1 f2 f3 f4 HF HSUM
    have hS : ∀ W, inR (q + r) = true → Calls Tryd.prog 19 #[.agg #[.int .i64 (q + r).num, .int .i64 (q + r).den]] W fun e w' => e = .returned (.int .i64 (flr (q + r))) ∧ Below W.heap.size W w' := fun W h => ffloor_any (q + r) W h
    obtain ⟨N, hN⟩ : ∃ N, q.num = N := ⟨_, rfl⟩
    obtain ⟨D, hD⟩ : ∃ D : Int, (q.den : Int) = D := ⟨_, rfl⟩
    rw [hN, hD] at HV HF HA hbd f1 f2
    rw [hN, hD]
    obtain ⟨y, hy⟩ : ∃ y, k * D = y := ⟨_, rfl⟩
    obtain ⟨z, hz'⟩ : ∃ z, (k + 1) * D = z := ⟨_, rfl⟩
    have hzy : z = y + D := by rw [← hy, ← hz', Int.add_mul, Int.one_mul]
    rw [hy] at f1
    rw [hz'] at f2
    have g1 : decide (k < -1000000000000) = false := decide_eq_false (by omega)
    have g2 : decide (1000000000000 < k) = false := decide_eq_false (by omega)
    have g3 : decide (N < y) = false := decide_eq_false (by omega)
    have g4 : decide (z ≤ N) = false := decide_eq_false (by omega)
    have y1 : -2000000000000 ≤ y ∧ y ≤ 2000000000000 := by omega
    have z1 : -2000000000000 ≤ z ∧ z ≤ 2000000000000 := by omega
    clear hL hn1 hn2 hd1 hd2 hv f1 f2 hzy hk hN hD e1 e2 hrt
    go_enter Tryd.func5, Tryd.ntmps5
    go_upto_region 1 with (fail)
    refine name_wp ?_
    intro X hX
    have gX : Blk X w.heap.size 25 #[.int .i64 N, .int .i64 D] := by rw [hX]; exact Blk.new _ _ _
    have HBX : Hid (Below w.heap.size w X) := by rw [hX]; exact wa1 _ _
    obtain ⟨b, eb⟩ : ∃ b, w.heap.size = b := ⟨_, rfl⟩
    rw [eb] at gX ⊢
    clear hX
    have hz := Below.refl X.heap.size X
    go_upto_region 6 with (first | (refine wpList_row_w (by rfl) 25 _ rfl b rfl 25 #[.int .i64 N, .int .i64 D] (by (repeat (first | with_reducible assumption | with_reducible exact Blk.new _ _ _ | with_reducible refine Blk.drew ?_ | with_reducible refine Blk.alloc ?_ _ | with_reducible refine Blk.drewN ?_ _ | with_reducible apply Blk.setT0 | with_reducible apply Blk.setT1 | with_reducible refine Blk.far ?_ (by first | (simp; done) | omega | (simp; omega)) _ | with_reducible refine Blk.then_ ?_ (by with_reducible assumption)))) ⟨_, Tryd.underlying25⟩ (by kernel_rfl) ?_; simp only [Act.put, List.setIfInBounds_toArray, List.set_cons_succ, List.set_cons_zero]) | (go_at_call 11; (with_reducible refine (HH.out _ HBX.out).mono ?_); rintro e w1 ⟨rfl, hb1⟩) | (go_at_call 15; (with_reducible refine (HV.out _).mono ?_); rintro e w2 ⟨rfl, hb2⟩) | (go_at_call 19; (with_reducible refine (HF.out _).mono ?_); rintro e w3 ⟨rfl, hb3⟩))
    refine name_wp ?_
    intro Y hY
    subst hY
    have gY := ((gX.then_ hb1).then_ hb2).then_ hb3
    have HBY := Lib.hid (below_then (below_then (below_then HBX.out hb1) hb2) hb3)
    have GY := Lib.hid gY
    have c0 : Y.cell? ⟨b, 0, none⟩ = some (.int .i64 N) := gY.cell 0
    have c1 : Y.cell? ⟨b, 1, none⟩ = some (.int .i64 D) := gY.cell 1
    have lY := gY.lt
    clear hb1 hb2 hb3 gX gY hz HH HV HF HBX
    go_upto_region 8 with (fail)
    refine wp_region_qa (T := 25) (zs := #[.int .i64 0, .int .i64 0]) [0, 1, 2, 3, 4] [5, 6] [8, 9] 7 7 (by kernel_rfl) (by kernel_rfl) (by repeat (first | with_reducible refine panOk_then ?_ | with_reducible refine panOk_block ?_ | exact panOk_body)) (fun _ _ => by rfl) ?_
    apply Exists.intro
    refine ⟨?_, ?_⟩
    · intro S gS hGS
      haveI := hGS.2.2
      have rg0 := cell_cls hGS c0
      have rg1 := cell_cls hGS c1
      unfold cls
      simp only [opsAt, List.getElem?_toArray, List.getElem?_cons_succ, List.getElem?_cons_zero, Option.toList_some, List.cons_append, List.nil_append]
      repeat (go_big_quiet_step ((first | (go_at_call 20; exact qa_call hGS (fun W' _ => HO.out W') _) | (go_at_call 17; exact qa_call hGS (fun W' _ => HA.out W') _))))
      refine wpQuiet_nil ?_
      exact rfl
    intro la U hla hbU gla
    simp only [opsAt, List.getElem?_toArray, List.getElem?_cons_succ, List.getElem?_cons_zero, Option.toList_some, List.cons_append, List.nil_append, Act.put, List.setIfInBounds_toArray, List.set_cons_succ, List.set_cons_zero]
    have u0 : U.cell? ⟨la, 0, none⟩ = some (.int .i64 0) := gla.cell 0
    have u1 : U.cell? ⟨la, 1, none⟩ = some (.int .i64 0) := gla.cell 1
    have w0 : U.frozen? ⟨la, 0, none⟩ = false := gla.frozen 0
    have w1' : U.frozen? ⟨la, 1, none⟩ = false := gla.frozen 1
    have lU := gla.lt
    go_upto_region 9 with (fail)
    refine name_wp ?_
    intro V hV
    have gV : Blk V la 25 #[.int .i64 (oN (q + r)), .int .i64 (oD (q + r))] := by rw [hV]; exact gla.setT0.setT1
    have hla' : w.heap.size ≤ la := Nat.le_trans HBY.out.size hla
    have HBV : Hid (Below w.heap.size w V) := by rw [hV]; exact ((below_then HBY.out hbU).setCell (p := ⟨la, 0, none⟩) hla' _).setCell (p := ⟨la, 1, none⟩) hla' _
    clear hV gla u0 u1 w0 w1' lU hbU c0 c1 lY HA HO hla
    cases hin : inR (q + r) with
    | false =>
      rw [oE_no hin]
      clear gV hS hin
      go_wp2
      go_ret
      exact ⟨rfl, HBV.out⟩
    | true =>
      rw [oE_yes hin]
      rw [oN_yes hin, oD_yes hin] at gV
      have HF := Lib.hid (fun W => hS W hin)
      rw [HSUM.out] at HF
      have GV := Lib.hid gV
      have lV := gV.lt
      have kt : -2000000000000 ≤ k + t ∧ k + t ≤ 2000000000000 := by omega
      clear gV hS hin
      go_wp2_with (first | (refine wpList_row_w (by rfl) 25 _ rfl la rfl 25 #[.int .i64 (q + r).num, .int .i64 (q + r).den] GV.out ⟨_, Tryd.underlying25⟩ (by kernel_rfl) ?_; simp only [Act.put, List.setIfInBounds_toArray, List.set_cons_succ, List.set_cons_zero]) | (go_at_call 19; (with_reducible refine (HF.out _).mono ?_); rintro e w6 ⟨rfl, hb6⟩))
      go_ret
      exact ⟨rfl, below_then HBV.out hb6⟩
end Go.Proofs.YtbkekabhdpoddaaDoor
