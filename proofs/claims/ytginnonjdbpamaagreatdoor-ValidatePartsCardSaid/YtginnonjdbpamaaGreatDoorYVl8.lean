/- The walk of ValidateParts. -/
import Derived.Test.YtginnonjdbpamaaGreatDoorMc35
import Derived.Test.YtginnonjdbpamaaGreatDoorYPa2
import Derived.Test.YtginnonjdbpamaaGreatDoorYPa3
import Derived.Test.YtginnonjdbpamaaGreatDoorMc9
import Derived.Test.YtginnonjdbpamaaGreatDoorMc1
set_option maxHeartbeats 6400000
set_option maxRecDepth 100000
namespace Go.Proofs.YtginnonjdbpamaaGreatDoor
open Go.RowKit Go.Sort
theorem part_row {c : Con} {ks l : List Int} (hp : c.partOk ks = true) {n : Nat} {s t : Sta} (hs : (c.runS l)[n]? = some s) (ht : ((c.partC ks).runS l)[n]? = some t) :
  t.day = s.day ∧ t.hol = s.hol ∧ s.marks.length = c.cl.length ∧ t.marks.length = ks.length ∧ ∀ (j : Nat) (i : Int), ks[j]? = some i → 0 ≤ i ∧ i < (c.cl.length : Int) ∧ ∃ (u : Nat) (m : Mk), i = (u : Int) ∧ t.marks[j]? = some m ∧ s.marks[u]? = some m := by
 have F := xF6 hp
 obtain ⟨_, h2, h3⟩ := part_run hp l
 rw [h2, List.getElem?_map, hs] at ht
 simp only [Option.map_some, Option.some.injEq] at ht
 subst ht
 have hl := h3 s (qzK hs)
 have hr : ∀ i ∈ ks, i.toNat < s.marks.length := fun i hi => by rw [hl]; exact (F.lt i hi).2
 refine ⟨rfl, rfl, hl, xCq hr, fun j i hj => ?_⟩
 have hi := F.lt i (qzK hj)
 refine ⟨hi.1, by omega, i.toNat, s.marks[i.toNat]'(hr i (qzK hj)), by omega, ?_, qzJ _⟩
 show (pick ks s.marks)[j]? = _
 rw [xBs hr, hj]
 exact qzJ _
theorem cellV {w w' : World} (hb : Below w.heap.size w w') {a : Addr} {v : Value} (hc : w.cell? a = some v) : w'.cell? a = some v := (hb.cell (World.block_lt_of_cell? w a hc)).trans hc
theorem parts_walk (c : Con) (m : Cm) (l : List Int) (A : Option Addr) (cap : Nat) (x : List Int) (Ax : Option Addr) (kx : Nat) (w : World) (hL : Lw w) (hc : ContW w c m) (hl : LstM w eI 1 (fun y => I64 y) A l cap) (hx : LstM w eI 1 (fun y => I64 y) Ax x kx) :
  Calls Tryz.prog 10 #[.agg (coA c m), .slice A l.length cap, .slice Ax x.length kx] w fun e w' => e = .returned (.bool true) ∧ Below w.heap.size w w' := by
 have HH := qzL (fun W (hb : Below w.heap.size w W) => head_any W (hL.below hb))
 have HA2 := qzL hx.2.2.2
 cases hs1 : c.fewL l with
 | false =>
  have HS1 := qzL (fun W (hb : Below w.heap.size w W) => few_at c m l A cap false hc hs1 W hb)
  clear hc hl hs1 hL hx HA2
  go_enter Tryz.func10, Tryz.ntmps10
  go_upto_region 1 with (fail)
  refine xAf ?_
  intro X0 hX
  have gbc : Blk X0 w.heap.size 27 (coA c m) := by rw [hX]; exact xA5 (by simp)
  have HB0 : Below w.heap.size w X0 := by rw [hX]; (repeat (first | exact Below.refl _ _ | refine xAc ?_ _))
  clear hX
  obtain ⟨bc, ebc⟩ : ∃ b, w.heap.size = b := ⟨_, rfl⟩
  have lbc : w.heap.size ≤ bc := by omega
  rw [ebc] at gbc ⊢
  clear ebc
  go_upto_region 2 with ((go_at_call 11; (with_reducible refine (HH.out _ HB0).mono ?_); rintro e w1 ⟨rfl, hbw1⟩))
  have HH1 := hbw1
  have HB1 := xAa HB0 HH1
  have gbc_1 := gbc.then_ HH1
  clear gbc HB0 HH1
  go_wp2_with (first | (refine xAi (by rfl) 27 _ rfl bc rfl 27 _ gbc_1 ⟨_, Tryz.underlying27⟩ (by kernel_rfl) ?_; simp only [Act.put, qzG, qzH, qzI]) | (go_at_call 12; (with_reducible refine (HS1.out _ HB1).mono ?_); rintro e w2 ⟨rfl, hbw2⟩))
  go_ret
  exact ⟨rfl, xAa HB1 hbw2⟩
 | true =>
 have HS1 := qzL (fun W (hb : Below w.heap.size w W) => few_at c m l A cap true hc hs1 W hb)
 obtain ⟨hC, nl, hf8⟩ := fewL_cont hc hs1
 have hA := hl.2.2.2
 have nl2 : l.length ≤ 1000000 := by omega
 by_cases h8 : 8 < x.length
 ·have d8 : decide ((8 : Int) < (x.length : Int)) = true := qzO (by omega)
  clear hc hl hs1 hL hx HA2 hC hA nl nl2 hf8 h8
  go_enter Tryz.func10, Tryz.ntmps10
  go_upto_region 1 with (fail)
  refine xAf ?_
  intro X0 hX
  have gbc : Blk X0 w.heap.size 27 (coA c m) := by rw [hX]; exact xA5 (by simp)
  have HB0 : Below w.heap.size w X0 := by rw [hX]; (repeat (first | exact Below.refl _ _ | refine xAc ?_ _))
  clear hX
  obtain ⟨bc, ebc⟩ : ∃ b, w.heap.size = b := ⟨_, rfl⟩
  have lbc : w.heap.size ≤ bc := by omega
  rw [ebc] at gbc ⊢
  clear ebc
  go_upto_region 2 with ((go_at_call 11; (with_reducible refine (HH.out _ HB0).mono ?_); rintro e w1 ⟨rfl, hbw1⟩))
  have HH1 := hbw1
  have HB1 := xAa HB0 HH1
  have gbc_1 := gbc.then_ HH1
  clear gbc HB0 HH1
  go_wp2_with (first | (refine xAi (by rfl) 27 _ rfl bc rfl 27 _ gbc_1 ⟨_, Tryz.underlying27⟩ (by kernel_rfl) ?_; simp only [Act.put, qzG, qzH, qzI]) | (go_at_call 12; (with_reducible refine (HS1.out _ HB1).mono ?_); rintro e w2 ⟨rfl, hbw2⟩))
  go_ret
  exact ⟨rfl, xAa HB1 hbw2⟩
 have d8 : decide ((8 : Int) < (x.length : Int)) = false := qzN (by omega)
 have nx : x.length ≤ 1000000 := by omega
 have HR := qzL (fun W (hb : Below w.heap.size w W) => run_sl c m l A cap hC hA nl2 W hb)
 have HP := qzL (fun W (hb : Below w.heap.size w W) => cpart_any c m x Ax kx W (hC.then_ hb) ((HA2.out.below hb).more hb.size) nx)
 obtain ⟨D, eD⟩ : ∃ D, c.partD x = D := ⟨_, rfl⟩
 obtain ⟨E1, eE1⟩ : ∃ E, c.partE x = E := ⟨_, rfl⟩
 obtain ⟨E2, eE2⟩ : ∃ E, c.runE l = E := ⟨_, rfl⟩
 obtain ⟨E3, eE3⟩ : ∃ E, D.runE l = E := ⟨_, rfl⟩
 have HQ := qzL (fun (mp : Cm) (W : World) (hw : Below w.heap.size w W) (hp : Cont W D mp) => run_sl D mp l A cap (w := W) hp ((hA.below hw).more hw.size) nl2 W (Below.refl _ _))
 rw [eD, eE1] at HP
 rw [eE2] at HR
 rw [eE3] at HQ
 have HED := qzL eD
 have HE1 := qzL eE1
 have HE2 := qzL eE2
 have HE3 := qzL eE3
 have HNX : Hid (x.length ≤ 8) := by unfold Hid; omega
 have HNL := qzL nl
 clear hC hA hc hl hs1 hL hx nl nl2 hf8 h8 eD eE1 eE2 eE3 nx
 go_enter Tryz.func10, Tryz.ntmps10
 go_upto_region 1 with (fail)
 refine xAf ?_
 intro X0 hX
 have gbc : Blk X0 w.heap.size 27 (coA c m) := by rw [hX]; exact xA5 (by simp)
 have HB0 : Below w.heap.size w X0 := by rw [hX]; (repeat (first | exact Below.refl _ _ | refine xAc ?_ _))
 clear hX
 obtain ⟨bc, ebc⟩ : ∃ b, w.heap.size = b := ⟨_, rfl⟩
 have lbc : w.heap.size ≤ bc := by omega
 rw [ebc] at gbc ⊢
 clear ebc
 go_upto_region 2 with ((go_at_call 11; (with_reducible refine (HH.out _ HB0).mono ?_); rintro e w1 ⟨rfl, hbw1⟩))
 have HH1 := hbw1
 have HB1 := xAa HB0 HH1
 have gbc_1 := gbc.then_ HH1
 clear gbc HB0 HH1
 go_upto_region 4 with (first | (refine xAi (by rfl) 27 _ rfl bc rfl 27 _ gbc_1 ⟨_, Tryz.underlying27⟩ (by kernel_rfl) ?_; simp only [Act.put, qzG, qzH, qzI]) | (go_at_call 12; (with_reducible refine (HS1.out _ HB1).mono ?_); rintro e w2 ⟨rfl, hbw2⟩))
 have HH2 := hbw2
 have HB2 := xAa HB1 HH2
 have gbc_2 := gbc_1.then_ HH2
 clear gbc_1 HB1 HH2
 go_upto_region 5 with (first | (refine xAi (by rfl) 27 _ rfl bc rfl 27 _ gbc_2 ⟨_, Tryz.underlying27⟩ (by kernel_rfl) ?_; simp only [Act.put, qzG, qzH, qzI]) | (go_at_call 27; (with_reducible refine (HP.out _ HB2).mono ?_); rintro e w4 ⟨⟨mp, rfl, hcp⟩, hbw4⟩) | (refine xAg rfl 27 _ _ rfl w4.heap.size 27 [] zCoA.toList [] (coA D mp).toList rfl rfl (Blk.new _ _ _) rfl (by kernel_rfl) (by simp [Value.oneCell']) ?_; intro u4 gbu4 Uu4))
 have hsu4 : Below w4.heap.size w4 u4 := (wa1 _ _).trans (Uu4.b _ (Nat.le_refl _))
 have HH3 := xAa hbw4 hsu4
 have HB3 := xAa HB2 HH3
 have gbc_3 := gbc_2.then_ HH3
 clear gbc_2 HB2 HH3
 have hcP := hcp.then_ hsu4
 obtain ⟨bu4, ebu4⟩ : ∃ b, w4.heap.size = b := ⟨_, rfl⟩
 rw [ebu4] at gbu4 ⊢
 clear ebu4 Uu4 hsu4 hbw4 hcp
 go_upto_region 6 with (first | (refine xAi (by rfl) 27 _ rfl bc rfl 27 _ gbc_3 ⟨_, Tryz.underlying27⟩ (by kernel_rfl) ?_; simp only [Act.put, qzG, qzH, qzI]) | (go_at_call 13; (with_reducible refine (HR.out _ HB3).mono ?_); rintro e w5 ⟨⟨Av, capv, rows, rfl, hrr, hS, hcv, hnr⟩, hbw5⟩))
 have HH4 := hbw5
 have HB4 := xAa HB3 HH4
 have gbc_4 := gbc_3.then_ HH4
 have gbu4_4 := gbu4.then_ HH4
 have hcP_4 := hcP.then_ HH4
 clear gbc_3 gbu4 hcP HB3 HH4
 go_upto_region 7 with (first | (refine xAi (by rfl) 27 _ rfl bu4 rfl 27 _ gbu4_4 ⟨_, Tryz.underlying27⟩ (by kernel_rfl) ?_; simp only [Act.put, qzG, qzH, qzI]) | (go_at_call 13; (with_reducible refine (HQ.out mp _ HB4 hcP_4).mono ?_); rintro e w6 ⟨⟨Bv, capt, rowt, rfl, hrt, hT, hct, hnt⟩, hbw6⟩))
 have HH5 := hbw6
 have HB5 := xAa HB4 HH5
 have gbc_5 := gbc_4.then_ HH5
 have gbu4_5 := gbu4_4.then_ HH5
 have hcP_5 := hcP_4.then_ HH5
 have hS_5 := hS.then_ HH5
 clear gbc_4 gbu4_4 hcP_4 hS HB4 HH5
 have HRR := hrr
 have HRT := hrt
 have HNR := hnr
 have HNT := hnt
 clear hrr hcv hnr hrt hct hnt HP HR HQ HH HS1
 have GBC := qzL gbc_5
 have HB9 := qzL HB5
 have HS9 := qzL hS_5
 have HT9 := qzL hT
 clear gbc_5 hS_5 hT gbu4_5 hcP_5 HB5
 cases hpo : c.partOk x with
 | false =>
  have z1 : E1 = 1 := by rw [← HE1.out]; unfold Con.partE; rw [hpo]; rfl
  subst z1
  clear hpo
  go_wp2
  go_ret
  exact ⟨rfl, HB9.out⟩
 | true =>
 have z1 : E1 = 0 := by rw [← HE1.out]; unfold Con.partE; rw [hpo]; rfl
 have zD : D = c.partC x := by rw [← HED.out]; unfold Con.partD; rw [hpo]; rfl
 subst z1
 subst zD
 have z3 : E3 = E2 := by rw [← HE3.out, ← HE2.out]; exact (part_run hpo l).1
 subst z3
 have HPO := qzL hpo
 clear hpo
 by_cases h0 : E3 ≠ 0
 ·have t1 : (E3 != 0) = true := bne_iff_ne.2 h0
  have t2 : (E3 == E3) = true := beq_self_eq_true _
  have t3 : (E3 == 0) = false := beq_eq_false_iff_ne.2 h0
  clear h0
  go_wp2
  go_ret
  exact ⟨xAb (by simp), HB9.out⟩
 obtain rfl : E3 = 0 := Decidable.byContradiction h0
 clear h0
 have hrl : rows.length = l.length + 1 := by have := congrArg List.length HRR.out; rw [List.length_map, runS_len HE2.out] at this; exact this
 have hrl2 : rowt.length = l.length + 1 := by have := congrArg List.length HRT.out; rw [List.length_map, runS_len HE3.out] at this; exact this
 have HL1 := qzL hrl
 have HL2 := qzL hrl2
 have t1 : ((rows.length : Int) != (rowt.length : Int)) = false := by rw [bne_eq_false_iff_eq]; omega
 have nr1 : rows.length ≤ 61 := by have := HNL.out; omega
 clear hrl hrl2
 go_upto_region 12 with (fail)
 clear t1
 go_loopw [14] (fun y WR => ∃ k : Nat, y = .int .i64 k ∧ k ≤ rows.length ∧ Hid (Below w6.heap.size w6 WR)) (fun y _ => 20000 - (intOf y).toNat)
 case atStart => exact ⟨0, rfl, by omega, Below.refl _ _⟩
 case round =>
  obtain ⟨k, rfl, hk, hb⟩ := hrel
  by_cases hlt : k < rows.length
  case pos =>
   have tk : decide ((k : Int) < (rows.length : Int)) = true := qzO (by omega)
   have hkt : k < rowt.length := by have := HL1.out; have := HL2.out; omega
   obtain ⟨s, hs⟩ : ∃ s, rows[k]? = some s := ⟨_, qzJ hlt⟩
   obtain ⟨u, hu⟩ : ∃ s, rowt[k]? = some s := ⟨_, qzJ hkt⟩
   obtain ⟨p1, p2, p3, p4, p5⟩ := part_row HPO.out (l := l) (n := k) (s := s.1) (t := u.1) (by rw [← HRR.out, List.getElem?_map, hs]; rfl) (by rw [← HRT.out, List.getElem?_map, hu]; rfl)
   obtain ⟨b7, o7, eA7, hb7, hc7⟩ := xAx (HS9.out.s.below hb.out) hs
   obtain ⟨b8, o8, eA8, hb8, hc8⟩ := xAx (HT9.out.s.below hb.out) hu
   have hix7 := fun W => xAq (t := 30) (size := 4) (cap := capv) eA7 hlt (by kernel_rfl) (fun W => by kernel_rfl) W
   have hix8 := fun W => xAq (t := 30) (size := 4) (cap := capt) eA8 hkt (by kernel_rfl) (fun W => by kernel_rfl) W
   have s0 : wr.cell? ⟨b7, o7 + k * 4, none⟩ = some (.int .i64 s.1.day) := by simpa using hc7 0 _ rfl
   have s1 : wr.cell? ⟨b7, o7 + k * 4 + 1, none⟩ = some (.slice s.2.h s.1.hol.length s.2.hc) := hc7 1 _ rfl
   have s3 : wr.cell? ⟨b7, o7 + k * 4 + 3, none⟩ = some (.slice s.2.m c.cl.length s.2.mc) := by rw [← p3]; exact hc7 3 _ rfl
   have u0 : wr.cell? ⟨b8, o8 + k * 4, none⟩ = some (.int .i64 s.1.day) := by rw [← p1]; simpa using hc8 0 _ rfl
   have u1 : wr.cell? ⟨b8, o8 + k * 4 + 1, none⟩ = some (.slice u.2.h s.1.hol.length u.2.hc) := by rw [← p2]; exact hc8 1 _ rfl
   have u3 : wr.cell? ⟨b8, o8 + k * 4 + 3, none⟩ = some (.slice u.2.m x.length u.2.mc) := by rw [← p4]; exact hc8 3 _ rfl
   have hsm := HS9.out.r s (qzK hs)
   have hum := HT9.out.r u (qzK hu)
   have HSM := qzL hsm
   have HUM := qzL hum
   have k4 : wr.cell? ⟨bc, 4, none⟩ = some (.slice m.k c.cl.length m.kc) := (GBC.out.then_ hb.out).cell 4
   have HIN : Hid (∀ W, Below wr.heap.size wr W → Calls Tryz.prog 28 #[.slice s.2.h s.1.hol.length s.2.hc, .slice u.2.h s.1.hol.length u.2.hc] W fun e w' => e = .returned (.bool true) ∧ Below W.heap.size W w') := fun W hw => by
    have hbW := xAa hb.out hw
    have h := ints_any s.2.h u.2.h s.2.hc u.2.hc s.1.hol s.1.hol W (HSM.out.then_ hbW).h (by rw [← p2]; exact (HUM.out.then_ hbW).h) HSM.out.nh
    rw [qzO rfl] at h
    exact h
   have q1 : (s.1.day != s.1.day) = false := bne_self_eq_false _
   have q2 : ((c.cl.length : Int) != (c.cl.length : Int)) = false := bne_self_eq_false _
   have q3 : ((x.length : Int) != (x.length : Int)) = false := bne_self_eq_false _
   have P3 := qzL p3
   have P4 := qzL p4
   have P5 := qzL p5
   clear hs hu p1 p2 p3 p4 p5 hc7 hc8 eA7 eA8 hsm hum
   go_upto_region 14 with (fail)
   have rg0 := cR s0
   have rg1 := cR s1
   have rg2 := cR s3
   have rg3 := cR u0
   have rg4 := cR u1
   have rg5 := cR u3
   have rg6 := cR k4
   refine xAe [0, 1, 2, 3, 4, 5, 6, 7, 8, 9, 10, 11, 12, 13, 14, 15, 16, 17, 18, 19, 20, 21, 22, 23, 24, 25, 26, 27, 28, 29, 30, 31, 32, 33, 34, 35, 36, 37, 38, 39, 40, 41, 42, 43, 44, 45, 46, 47] [] (by kernel_rfl) (by kernel_rfl) pO ?_
   simp only [xAm, qzA, qzB, qzC, qzD, qzE, qzF]
   repeat (go_big_quiet_step ((go_at_call 28; with_reducible exact xAp (fun W' hW' => HIN.out W' hW') _ _)))
   refine wpQuiet_nil ?_
   intro Z hw2
   have hbZ := xAh hw2
   clear hw2 rg0 rg1 rg2 rg3 rg4 rg5 rg6
   refine xAt ?_
   have HBZ := qzL (xAa hb.out hbZ)
   have s3z : Z.cell? ⟨b7, o7 + k * 4 + 3, none⟩ = some (.slice s.2.m c.cl.length s.2.mc) := cellV hbZ s3
   have u3z : Z.cell? ⟨b8, o8 + k * 4 + 3, none⟩ = some (.slice u.2.m x.length u.2.mc) := cellV hbZ u3
   have k4z : Z.cell? ⟨bc, 4, none⟩ = some (.slice m.k c.cl.length m.kc) := cellV hbZ k4
   have HZ3 := qzL (And.intro s3z (And.intro u3z k4z))
   clear s0 s1 s3 u0 u1 u3 k4 hbZ HIN q1 q2 q3 s3z u3z k4z hb
   go_upto_region 17 with (fail)
   go_loopw [15] (fun y WR => ∃ j : Nat, y = .int .i64 j ∧ j ≤ x.length ∧ Hid (Below Z.heap.size Z WR)) (fun y _ => 20000 - (intOf y).toNat)
   case atStart => exact ⟨0, rfl, by omega, Below.refl _ _⟩
   case round =>
    obtain ⟨j, rfl, hj, hb⟩ := hrel
    have hx8 : x.length ≤ 8 := HNX.out
    by_cases hlj : j < x.length
    case pos =>
     have tj : decide ((j : Int) < (x.length : Int)) = true := qzO (by omega)
     obtain ⟨i0, hi0⟩ : ∃ i, x[j]? = some i := ⟨_, qzJ hlj⟩
     obtain ⟨g1, g2, v, z, rfl, hz1, hz2⟩ := P5.out j i0 hi0
     have hvl : v < c.cl.length := by omega
     have r1 : decide ((v : Int) < 0) = false := qzN (by omega)
     have r2 : decide ((c.cl.length : Int) ≤ (v : Int)) = false := qzN (by omega)
     have r3 : decide (c.cl.length ≤ v) = false := qzN (by omega)
     have hbW := xAa HBZ.out hb.out
     obtain ⟨b9, o9, eA9, hb9, hc9⟩ := xAx (HA2.out.below (xAa HB9.out hbW)) hi0
     obtain ⟨ba, oa, eAa, hba, hca⟩ := xAx (HSM.out.then_ hbW).m hz2
     obtain ⟨bb, ob, eAb, hbb, hcb⟩ := xAx (HUM.out.then_ hbW).m hz1
     have hix9 := fun W => xAq (t := 22) (size := 1) (cap := kx) eA9 hlj (by kernel_rfl) (fun W => by kernel_rfl) W
     have hixa := fun W => xAq (t := 41) (size := 5) (cap := s.2.mc) (len := c.cl.length) eAa hvl (by kernel_rfl) (fun W => by kernel_rfl) W
     have hixb := fun W => xAq (t := 41) (size := 5) (cap := u.2.mc) (len := x.length) eAb hlj (by kernel_rfl) (fun W => by kernel_rfl) W
     have d9 : wr.cell? ⟨b9, o9 + j, none⟩ = some (.int .i64 (v : Int)) := by simpa using hc9 0 _ rfl
     simp only [Nat.mul_one] at hix9
     have a0 : wr.cell? ⟨ba, oa + v * 5, none⟩ = some (.int .i64 z.st) := by simpa using hca 0 _ rfl
     have a1 : wr.cell? ⟨ba, oa + v * 5 + 1, none⟩ = some (.int .i64 z.left) := hca 1 _ rfl
     have a2 : wr.cell? ⟨ba, oa + v * 5 + 2, none⟩ = some (.int .i64 z.got) := hca 2 _ rfl
     have a3 : wr.cell? ⟨ba, oa + v * 5 + 3, none⟩ = some (.int .i64 z.brr) := hca 3 _ rfl
     have a4 : wr.cell? ⟨ba, oa + v * 5 + 4, none⟩ = some (.bool z.pau) := hca 4 _ rfl
     have e0 : wr.cell? ⟨bb, ob + j * 5, none⟩ = some (.int .i64 z.st) := by simpa using hcb 0 _ rfl
     have e1 : wr.cell? ⟨bb, ob + j * 5 + 1, none⟩ = some (.int .i64 z.left) := hcb 1 _ rfl
     have e2 : wr.cell? ⟨bb, ob + j * 5 + 2, none⟩ = some (.int .i64 z.got) := hcb 2 _ rfl
     have e3 : wr.cell? ⟨bb, ob + j * 5 + 3, none⟩ = some (.int .i64 z.brr) := hcb 3 _ rfl
     have e4 : wr.cell? ⟨bb, ob + j * 5 + 4, none⟩ = some (.bool z.pau) := hcb 4 _ rfl
     have s3 : wr.cell? ⟨b7, o7 + k * 4 + 3, none⟩ = some (.slice s.2.m c.cl.length s.2.mc) := cellV hb.out HZ3.out.1
     have u3 : wr.cell? ⟨b8, o8 + k * 4 + 3, none⟩ = some (.slice u.2.m x.length u.2.mc) := cellV hb.out HZ3.out.2.1
     have k4 : wr.cell? ⟨bc, 4, none⟩ = some (.slice m.k c.cl.length m.kc) := cellV hb.out HZ3.out.2.2
     have heq : ∀ W : World, (Op.equalIn 10000 46 (.agg #[.int .i64 z.st, .int .i64 z.left, .int .i64 z.got, .int .i64 z.brr, .bool z.pau]) (.agg #[.int .i64 z.st, .int .i64 z.left, .int .i64 z.got, .int .i64 z.brr, .bool z.pau])).run Tryz.prog W = .ok true W := fun W => by
      have h := eqvM z z W
      rw [qzO rfl] at h
      exact h
     have HB2 := hb
     clear hi0 hz1 hz2 hc9 hca hcb eA9 eAa eAb g1 g2 hbW hb
     go_upto_region 19 with (fail)
     have rg0 := cR d9
     have rg1 := cR a0
     have rg2 := cR a1
     have rg3 := cR a2
     have rg4 := cR a3
     have rg5 := cR a4
     have rg6 := cR e0
     have rg7 := cR e1
     have rg8 := cR e2
     have rg9 := cR e3
     have rg10 := cR e4
     have rg11 := cR s3
     have rg12 := cR u3
     have rg13 := cR k4
     refine xAe [0, 1, 2, 3, 4, 5, 6, 7, 8, 9, 10, 11, 12, 13, 14, 15, 16, 17, 18, 19, 20, 21, 22, 23, 24, 25, 26, 27, 28, 29, 30, 31, 32, 33, 34, 35, 36] [] (by kernel_rfl) (by kernel_rfl) pO ?_
     simp only [xAm, qzA, qzB, qzC, qzD, qzE, qzF]
     repeat (go_big_quiet_step (fail))
     refine wpQuiet_nil ?_
     intro Y hw2
     have hbY := xAh hw2
     clear hw2 rg0 rg1 rg2 rg3 rg4 rg5 rg6 rg7 rg8 rg9 rg10 rg11 rg12 rg13
     refine xAt ?_
     have HBY := qzL (xAa HB2.out hbY)
     clear d9 a0 a1 a2 a3 a4 e0 e1 e2 e3 e4 s3 u3 k4 hbY
     go_wp2
     go_roundw
     case rel => exact ⟨j + 1, by simp, by omega, HBY⟩
     case measure => simp [intOf]; omega
    obtain rfl : j = x.length := by omega
    have tj : decide ((x.length : Int) < (x.length : Int)) = false := qzN (by omega)
    have HBQ := qzL (xAa HBZ.out hb.out)
    go_wp2
    go_roundw
    case rel => exact ⟨k + 1, by simp, by omega, HBQ⟩
    case measure => simp [intOf]; omega
  obtain rfl : k = rows.length := by omega
  have tk : decide ((rows.length : Int) < (rows.length : Int)) = false := qzN (by omega)
  go_wp2
  go_ret
  exact ⟨rfl, xAa HB9.out hb.out⟩
end Go.Proofs.YtginnonjdbpamaaGreatDoor
