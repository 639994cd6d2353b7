/- The walk of contract.Part. -/
import Derived.Test.YtginnonjdbpamaaGreatDoorYPa1
import Derived.Test.YtginnonjdbpamaaGreatDoorMc1
set_option maxHeartbeats 12800000
set_option maxRecDepth 100000
namespace Go.Proofs.YtginnonjdbpamaaGreatDoor
open Go.RowKit Go.Sort
theorem cpart_any (c : Con) (m : Cm) (ks : List Int) (A : Option Addr) (cap : Nat) (w : World) (hC : Cont w c m) (hA : Seg w w.heap.size 1 eI A ks) (nks : ks.length ≤ 1000000) :
  Calls Tryz.prog 27 #[.agg (coA c m), .slice A ks.length cap] w (RetK w (c.partD ks) (c.partE ks)) := by
 obtain ⟨D, hD⟩ : ∃ D, c.partD ks = D := ⟨_, rfl⟩
 obtain ⟨E, hE⟩ : ∃ E, c.partE ks = E := ⟨_, rfl⟩
 have HDE : Hid (D = (if c.partOk ks then c.partC ks else zCon) ∧ E = if c.partOk ks then 0 else 1) := by unfold Hid; rw [← hD, ← hE]; exact ⟨rfl, rfl⟩
 have HNO : Hid (c.partOk ks = false → D = zCon ∧ E = 1) := fun h => by rw [HDE.out.1, HDE.out.2, h]; exact ⟨rfl, rfl⟩
 rw [hD, hE]
 have HC := qzL hC
 have HA := qzL hA
 have HV := qzL (fun W (hb : Below w.heap.size w W) => xGn c m W (hC.then_ hb))
 have nh := hC.nh
 have nu := hC.nu
 have na := hC.na
 have no := hC.no
 have nk := hC.nk
 have hke := hC.e
 have HKE := qzL hke
 have lkl : m.ks.length = c.cl.length := by rw [← hke, List.length_map]
 have HLK := qzL lkl
 clear hD hE hC hA hke lkl
 go_enter Tryz.func27, Tryz.ntmps27
 go_upto_region 1 with (fail)
 refine xAf ?_
 intro X hX
 have ga : Blk X w.heap.size 27 (coA c m) := by rw [hX]; exact (xA5 (by simp)).alloc _
 have gz : Blk X (w.heap.size + 1) 27 zCoA := by rw [hX]; exact xA5 (by simp)
 have HB : Below w.heap.size w X := by rw [hX]; (repeat (first | exact Below.refl _ _ | refine xAc ?_ _))
 obtain ⟨bz, ebz⟩ : ∃ b, w.heap.size + 1 = b := ⟨_, rfl⟩
 obtain ⟨ba, eba⟩ : ∃ b, w.heap.size = b := ⟨_, rfl⟩
 have lbz : w.heap.size ≤ bz := by omega
 have lba : w.heap.size ≤ ba := by omega
 rw [ebz] at gz ⊢
 rw [eba] at ga ⊢
 clear hX ebz eba
 have HBX := qzL HB
 cases hok : c.ok with
 | false =>
  have hz := qzL (HNO.out (by unfold Con.partOk; rw [hok]; rfl))
  go_wp2_with (first | (refine xAi (by rfl) 27 _ rfl ba rfl 27 _ ga ⟨_, Tryz.underlying27⟩ (by kernel_rfl) ?_; simp only [Act.put, qzG, qzH, qzI]) | (go_at_call 50; (with_reducible refine (HV.out _ HB).mono ?_); rintro e w1 ⟨⟨ea, eb, rfl, he⟩, hb1⟩; have hea : (ea == 0) = false := (by cases hq : (ea == 0) with | false => rfl | true => exact absurd (he.1 (eq_of_beq hq)) (by rw [hok]; decide)); have hea' : (ea != 0) = true := (by simp [bne, hea]); have gz1 := gz.then_ hb1; clear he) | (refine xAg rfl 27 _ _ rfl bz 27 [] zCoA.toList [] zCoA.toList rfl rfl gz1 rfl (by kernel_rfl) (by simp [Value.oneCell']) ?_; intro w6 g6 u6))
  refine bodyPost_ret (xBg rfl rfl g6 ⟨_, Tryz.underlying27⟩ (by kernel_rfl)) rfl ?_
  rw [hz.out.1, hz.out.2]
  exact RetK.zero ((xAa HB hb1).trans (u6.b _ lbz))
 | true =>
 have HOK := qzL hok
 clear hok
 go_upto_region 4 with (first | (refine xAi (by rfl) 27 _ rfl ba rfl 27 _ ga ⟨_, Tryz.underlying27⟩ (by kernel_rfl) ?_; simp only [Act.put, qzG, qzH, qzI]) | (go_at_call 50; (with_reducible refine (HV.out _ HB).mono ?_); rintro e w1 ⟨⟨ea, eb, rfl, he⟩, hb1⟩; obtain rfl : ea = 0 := he.2 HOK.out; clear he))
 have ga1 := ga.then_ hb1
 have gz1 := gz.then_ hb1
 have hB1 := xAa HB hb1
 have GA1 := qzL ga1
 have GZ1 := qzL gz1
 have HB1 := qzL hB1
 clear ga gz HB HBX hb1 HV ga1 gz1 hB1
 go_upto_region 6 with (fail)
 go_loopw [28, 8] (fun y v WR => ∃ (j : Nat) (last : Int), y = .int .i64 j ∧ v = .int .i64 last ∧ j ≤ ks.length ∧ Hid (incI c.cl.length (-1) ks = incI c.cl.length last (ks.drop j)) ∧ w1 = WR) (fun y _ _ => 2000000 - (intOf y).toNat)
 case atStart => exact ⟨0, -1, rfl, rfl, by omega, rfl, rfl⟩
 case round =>
  obtain ⟨j, last, rfl, rfl, hj, hI, rfl⟩ := hrel
  by_cases hlt : j < ks.length
  case pos =>
   have tl : decide ((j : Int) < (ks.length : Int)) = true := qzO (by omega)
   obtain ⟨i, hi⟩ : ∃ i, ks[j]? = some i := ⟨_, qzJ hlt⟩
   have hdr : ks.drop j = i :: ks.drop (j + 1) := by
    obtain ⟨hl, e⟩ := qzM hi
    rw [List.drop_eq_getElem_cons hl, e]
   have hI2 : Hid (incI c.cl.length (-1) ks = (decide (last < i) && decide (i < (c.cl.length : Int)) && incI c.cl.length i (ks.drop (j + 1)))) := by unfold Hid; rw [hI.out, hdr]; rfl
   obtain ⟨b0, o0, eA0, hb0, hc0⟩ := xAx (HA.out.below HB1.out) hi
   have hix := fun W => xAq (t := 22) (size := 1) (cap := cap) eA0 hlt (by kernel_rfl) (fun W => by kernel_rfl) W
   have d0 : w1.cell? ⟨b0, o0 + j, none⟩ = some (.int .i64 i) := by simpa using hc0 0 _ rfl
   simp only [Nat.mul_one] at hix
   have k4 : w1.cell? ⟨ba, 4, none⟩ = some (.slice m.k c.cl.length m.kc) := GA1.out.cell 4
   have gz1 := GZ1.out
   clear hc0 eA0 hi hdr hI
   by_cases h1 : i ≤ last
   ·have t1 : decide (i ≤ last) = true := qzO h1
    have hz := qzL (HNO.out (by unfold Con.partOk; rw [hI2.out, qzN (show ¬ last < i by omega)]; simp))
    clear h1 hI2
    go_wp2_with (refine xAg rfl 27 _ _ rfl bz 27 [] zCoA.toList [] zCoA.toList rfl rfl gz1 rfl (by kernel_rfl) (by simp [Value.oneCell']) ?_; intro w6 g6 u6)
    refine bodyPost_ret (xBg rfl rfl g6 ⟨_, Tryz.underlying27⟩ (by kernel_rfl)) rfl ?_
    rw [hz.out.1, hz.out.2]
    exact RetK.zero (HB1.out.trans (u6.b _ lbz))
   ·have t1 : decide (i ≤ last) = false := qzN h1
    by_cases h2 : (c.cl.length : Int) ≤ i
    ·have t2 : decide ((c.cl.length : Int) ≤ i) = true := qzO h2
     have hz := qzL (HNO.out (by unfold Con.partOk; rw [hI2.out, qzN (show ¬ i < (c.cl.length : Int) by omega)]; simp))
     clear h1 h2 hI2
     go_wp2_with (refine xAg rfl 27 _ _ rfl bz 27 [] zCoA.toList [] zCoA.toList rfl rfl gz1 rfl (by kernel_rfl) (by simp [Value.oneCell']) ?_; intro w6 g6 u6)
     refine bodyPost_ret (xBg rfl rfl g6 ⟨_, Tryz.underlying27⟩ (by kernel_rfl)) rfl ?_
     rw [hz.out.1, hz.out.2]
     exact RetK.zero (HB1.out.trans (u6.b _ lbz))
    ·have t2 : decide ((c.cl.length : Int) ≤ i) = false := qzN h2
     have hI3 : Hid (incI c.cl.length (-1) ks = incI c.cl.length i (ks.drop (j + 1))) := by unfold Hid; rw [hI2.out, qzO (show last < i by omega), qzO (show i < (c.cl.length : Int) by omega)]; rfl
     clear h1 h2 hI2 gz1
     go_wp2
     go_roundw
     case rel => exact ⟨j + 1, i, by simp, rfl, by omega, hI3, by first | trivial | rfl⟩
     case measure => simp [intOf]; omega
  obtain rfl : j = ks.length := by omega
  have tl : decide ((ks.length : Int) < (ks.length : Int)) = false := qzN (by omega)
  have hinc : incI c.cl.length (-1) ks = true := by rw [hI.out, List.drop_of_length_le (Nat.le_refl _)]; rfl
  obtain ⟨hfa, hnd⟩ := xFp _ hinc (by omega)
  obtain ⟨hpw, _⟩ := inc_pw _ hinc
  have HPW := qzL hpw
  have HFA : Hid (∀ i ∈ ks, 0 ≤ i ∧ i.toNat < c.cl.length) := fun i hi => by have := hfa i hi; omega
  have HINC := qzL hinc
  have ga1 := GA1.out
  clear hI hinc hfa hnd hpw hlt hj
  go_upto_region 13 with (refine xAi (by rfl) 27 _ rfl ba rfl 27 _ ga1 ⟨_, Tryz.underlying27⟩ (by kernel_rfl) ?_; simp only [Act.put, qzG, qzH, qzI])
  refine xAf ?_
  intro Y hY
  have gp : Blk Y w1.heap.size 27 (coA c m) := by rw [hY]; exact Blk.new _ _ _
  have hY1 : Below w1.heap.size w1 Y := by rw [hY]; exact wa1 _ _
  have gaY := GA1.out.then_ hY1
  have gzY := GZ1.out.then_ hY1
  have hBY := xAa HB1.out hY1
  have l1 := HB1.out.size
  obtain ⟨bp, ebp⟩ : ∃ b, w1.heap.size = b := ⟨_, rfl⟩
  have lbp : w.heap.size ≤ bp := by omega
  have nab : ba ≠ bp := by have := GA1.out.lt; omega
  have nzb : bz ≠ bp := by have := GZ1.out.lt; omega
  rw [ebp] at gp ⊢
  have HYB := qzL hBY
  have HYB0 : Hid (w.heap.size ≤ Y.heap.size ∧ ba < Y.heap.size ∧ bz < Y.heap.size ∧ bp < Y.heap.size) := ⟨hBY.size, gaY.lt, gzY.lt, gp.lt⟩
  have GAY := qzL gaY
  have GZY := qzL gzY
  have GPY := qzL gp
  have HNAB := qzL nab
  have HNZB := qzL nzb
  clear hY hY1 ebp gaY gzY hBY GA1 GZ1 HB1 ga1 tl l1 gp nab nzb
  have HCL : Hid (∀ W, Below Y.heap.size Y W → Calls Tryz.prog 51 #[.slice m.h c.hold.length m.hc] W fun e w' => (∃ A' c', e = .returned (.slice A' c.hold.length c') ∧ Own w' Y.heap.size 3 1 eI (.slice A' c.hold.length c') c.hold) ∧ Below W.heap.size W w') := fun W hb =>
   (xEe m.h m.hc c.hold W nh (HC.out.then_ (xAa HYB.out hb)).h HC.out.ch).mono fun e w' ⟨⟨v, h1, h2⟩, h3⟩ => by
    obtain ⟨A', c', h4, _⟩ := h2.seg xAz
    subst h4
    exact ⟨⟨A', c', h1, h2.lowerP (by have := hb.size; omega)⟩, h3⟩
  have ka : Y.cell? ⟨ba, 1, none⟩ = some (.slice m.h c.hold.length m.hc) := GAY.out.cell 1
  go_upto_region 14 with (go_at_call 51; (with_reducible refine (HCL.out _ (Below.refl _ _)).mono ?_); rintro e v0 ⟨⟨A0, c0, rfl, hO0⟩, hb0⟩; have kp : v0.cell? ⟨bp, 1, none⟩ = some (.slice m.h c.hold.length m.hc) := (GPY.out.then_ hb0).cell 1; have fp : v0.frozen? ⟨bp, 1, none⟩ = false := (GPY.out.then_ hb0).frozen 1)
  refine xAf ?_
  intro Y1 hV
  have lS0 : Y.heap.size ≤ Y1.heap.size := by rw [hV]; have := hb0.size; simpa using this
  have GAY1 : Hid (Blk Y1 ba 27 (coA c m)) := by unfold Hid; rw [hV]; exact (GAY.out.then_ hb0).far (p := ⟨bp, 1, none⟩) HNAB.out _
  have GZY1 : Hid (Blk Y1 bz 27 zCoA) := by unfold Hid; rw [hV]; exact (GZY.out.then_ hb0).far (p := ⟨bp, 1, none⟩) HNZB.out _
  have GPY1 : Hid (Blk Y1 bp 27 #[.int .i64 c.par, .slice A0 c.hold.length c0, .slice m.u c.un.length m.uc, .slice m.a c.ac.length m.ac, .slice m.k c.cl.length m.kc, .int .i64 c.days, .slice m.o c.off.length m.oc]) := by unfold Hid; rw [hV]; have h := (GPY.out.then_ hb0).set_ 1 (.slice A0 c.hold.length c0); simpa using h
  have HBY1 : Hid (Below w.heap.size w Y1) := by unfold Hid; rw [hV]; exact (xAa HYB.out hb0).setCell (p := ⟨bp, 1, none⟩) lbp _
  have OW0Y1 : Hid (Own Y1 Y.heap.size 3 1 eI (.slice A0 c.hold.length c0) c.hold) := by unfold Hid; rw [hV]; exact hO0.setOther (p := ⟨bp, 1, none⟩) (GPY.out.then_ hb0) (by decide) _
  clear hV hO0 hb0 ka kp fp HCL GAY GZY GPY HYB
  have HCL : Hid (∀ W, Below Y1.heap.size Y1 W → Calls Tryz.prog 56 #[.slice m.u c.un.length m.uc] W fun e w' => (∃ A' c', e = .returned (.slice A' c.un.length c') ∧ Own w' Y.heap.size 78 5 eU (.slice A' c.un.length c') c.un) ∧ Below W.heap.size W w') := fun W hb =>
   (clone_uni m.u m.uc c.un W nu (HC.out.then_ (xAa HBY1.out hb)).u HC.out.cu).mono fun e w' ⟨⟨v, h1, h2⟩, h3⟩ => by
    obtain ⟨A', c', h4, _⟩ := h2.seg eU_len
    subst h4
    exact ⟨⟨A', c', h1, h2.lowerP (by have := hb.size; omega)⟩, h3⟩
  have ka : Y1.cell? ⟨ba, 2, none⟩ = some (.slice m.u c.un.length m.uc) := GAY1.out.cell 2
  go_upto_region 15 with (go_at_call 56; (with_reducible refine (HCL.out _ (Below.refl _ _)).mono ?_); rintro e v1 ⟨⟨A1, c1, rfl, hO1⟩, hb1⟩; have kp : v1.cell? ⟨bp, 2, none⟩ = some (.slice m.u c.un.length m.uc) := (GPY1.out.then_ hb1).cell 2; have fp : v1.frozen? ⟨bp, 2, none⟩ = false := (GPY1.out.then_ hb1).frozen 2)
  refine xAf ?_
  intro Y2 hV
  have lS1 : Y1.heap.size ≤ Y2.heap.size := by rw [hV]; have := hb1.size; simpa using this
  have GAY2 : Hid (Blk Y2 ba 27 (coA c m)) := by unfold Hid; rw [hV]; exact (GAY1.out.then_ hb1).far (p := ⟨bp, 2, none⟩) HNAB.out _
  have GZY2 : Hid (Blk Y2 bz 27 zCoA) := by unfold Hid; rw [hV]; exact (GZY1.out.then_ hb1).far (p := ⟨bp, 2, none⟩) HNZB.out _
  have GPY2 : Hid (Blk Y2 bp 27 #[.int .i64 c.par, .slice A0 c.hold.length c0, .slice A1 c.un.length c1, .slice m.a c.ac.length m.ac, .slice m.k c.cl.length m.kc, .int .i64 c.days, .slice m.o c.off.length m.oc]) := by unfold Hid; rw [hV]; have h := (GPY1.out.then_ hb1).set_ 2 (.slice A1 c.un.length c1); simpa using h
  have HBY2 : Hid (Below w.heap.size w Y2) := by unfold Hid; rw [hV]; exact (xAa HBY1.out hb1).setCell (p := ⟨bp, 2, none⟩) lbp _
  have OW1Y2 : Hid (Own Y2 Y.heap.size 78 5 eU (.slice A1 c.un.length c1) c.un) := by unfold Hid; rw [hV]; exact hO1.setOther (p := ⟨bp, 2, none⟩) (GPY1.out.then_ hb1) (by decide) _
  have OW0Y2 : Hid (Own Y2 Y.heap.size 3 1 eI (.slice A0 c.hold.length c0) c.hold) := by unfold Hid; rw [hV]; exact (OW0Y1.out.below hb1).setOther (p := ⟨bp, 2, none⟩) (GPY1.out.then_ hb1) (by decide) _
  clear hV hO1 hb1 ka kp fp HCL GAY1 GZY1 GPY1 HBY1 OW0Y1
  have HCL : Hid (∀ W, Below Y2.heap.size Y2 W → Calls Tryz.prog 57 #[.slice m.a c.ac.length m.ac] W fun e w' => (∃ A' c', e = .returned (.slice A' c.ac.length c') ∧ Own w' Y.heap.size 118 7 eA (.slice A' c.ac.length c') c.ac) ∧ Below W.heap.size W w') := fun W hb =>
   (clone_atc m.a m.ac c.ac W na (HC.out.then_ (xAa HBY2.out hb)).a HC.out.ca).mono fun e w' ⟨⟨v, h1, h2⟩, h3⟩ => by
    obtain ⟨A', c', h4, _⟩ := h2.seg eA_len
    subst h4
    exact ⟨⟨A', c', h1, h2.lowerP (by have := hb.size; omega)⟩, h3⟩
  have ka : Y2.cell? ⟨ba, 3, none⟩ = some (.slice m.a c.ac.length m.ac) := GAY2.out.cell 3
  go_upto_region 16 with (go_at_call 57; (with_reducible refine (HCL.out _ (Below.refl _ _)).mono ?_); rintro e v2 ⟨⟨A2, c2, rfl, hO2⟩, hb2⟩; have kp : v2.cell? ⟨bp, 3, none⟩ = some (.slice m.a c.ac.length m.ac) := (GPY2.out.then_ hb2).cell 3; have fp : v2.frozen? ⟨bp, 3, none⟩ = false := (GPY2.out.then_ hb2).frozen 3)
  refine xAf ?_
  intro Y3 hV
  have lS2 : Y2.heap.size ≤ Y3.heap.size := by rw [hV]; have := hb2.size; simpa using this
  have GAY3 : Hid (Blk Y3 ba 27 (coA c m)) := by unfold Hid; rw [hV]; exact (GAY2.out.then_ hb2).far (p := ⟨bp, 3, none⟩) HNAB.out _
  have GZY3 : Hid (Blk Y3 bz 27 zCoA) := by unfold Hid; rw [hV]; exact (GZY2.out.then_ hb2).far (p := ⟨bp, 3, none⟩) HNZB.out _
  have GPY3 : Hid (Blk Y3 bp 27 #[.int .i64 c.par, .slice A0 c.hold.length c0, .slice A1 c.un.length c1, .slice A2 c.ac.length c2, .slice m.k c.cl.length m.kc, .int .i64 c.days, .slice m.o c.off.length m.oc]) := by unfold Hid; rw [hV]; have h := (GPY2.out.then_ hb2).set_ 3 (.slice A2 c.ac.length c2); simpa using h
  have HBY3 : Hid (Below w.heap.size w Y3) := by unfold Hid; rw [hV]; exact (xAa HBY2.out hb2).setCell (p := ⟨bp, 3, none⟩) lbp _
  have OW2Y3 : Hid (Own Y3 Y.heap.size 118 7 eA (.slice A2 c.ac.length c2) c.ac) := by unfold Hid; rw [hV]; exact hO2.setOther (p := ⟨bp, 3, none⟩) (GPY2.out.then_ hb2) (by decide) _
  have OW0Y3 : Hid (Own Y3 Y.heap.size 3 1 eI (.slice A0 c.hold.length c0) c.hold) := by unfold Hid; rw [hV]; exact (OW0Y2.out.below hb2).setOther (p := ⟨bp, 3, none⟩) (GPY2.out.then_ hb2) (by decide) _
  have OW1Y3 : Hid (Own Y3 Y.heap.size 78 5 eU (.slice A1 c.un.length c1) c.un) := by unfold Hid; rw [hV]; exact (OW1Y2.out.below hb2).setOther (p := ⟨bp, 3, none⟩) (GPY2.out.then_ hb2) (by decide) _
  clear hV hO2 hb2 ka kp fp HCL GAY2 GZY2 GPY2 HBY2 OW0Y2 OW1Y2
  have HCL : Hid (∀ W, Below Y3.heap.size Y3 W → Calls Tryz.prog 51 #[.slice m.o c.off.length m.oc] W fun e w' => (∃ A' c', e = .returned (.slice A' c.off.length c') ∧ Own w' Y.heap.size 3 1 eI (.slice A' c.off.length c') c.off) ∧ Below W.heap.size W w') := fun W hb =>
   (xEe m.o m.oc c.off W no (HC.out.then_ (xAa HBY3.out hb)).o HC.out.co).mono fun e w' ⟨⟨v, h1, h2⟩, h3⟩ => by
    obtain ⟨A', c', h4, _⟩ := h2.seg xAz
    subst h4
    exact ⟨⟨A', c', h1, h2.lowerP (by have := hb.size; omega)⟩, h3⟩
  have ka : Y3.cell? ⟨ba, 6, none⟩ = some (.slice m.o c.off.length m.oc) := GAY3.out.cell 6
  go_upto_region 17 with (go_at_call 51; (with_reducible refine (HCL.out _ (Below.refl _ _)).mono ?_); rintro e v3 ⟨⟨A3, c3, rfl, hO3⟩, hb3⟩; have kp : v3.cell? ⟨bp, 6, none⟩ = some (.slice m.o c.off.length m.oc) := (GPY3.out.then_ hb3).cell 6; have fp : v3.frozen? ⟨bp, 6, none⟩ = false := (GPY3.out.then_ hb3).frozen 6)
  refine xAf ?_
  intro Y4 hV
  have lS3 : Y3.heap.size ≤ Y4.heap.size := by rw [hV]; have := hb3.size; simpa using this
  have GAY4 : Hid (Blk Y4 ba 27 (coA c m)) := by unfold Hid; rw [hV]; exact (GAY3.out.then_ hb3).far (p := ⟨bp, 6, none⟩) HNAB.out _
  have GZY4 : Hid (Blk Y4 bz 27 zCoA) := by unfold Hid; rw [hV]; exact (GZY3.out.then_ hb3).far (p := ⟨bp, 6, none⟩) HNZB.out _
  have GPY4 : Hid (Blk Y4 bp 27 #[.int .i64 c.par, .slice A0 c.hold.length c0, .slice A1 c.un.length c1, .slice A2 c.ac.length c2, .slice m.k c.cl.length m.kc, .int .i64 c.days, .slice A3 c.off.length c3]) := by unfold Hid; rw [hV]; have h := (GPY3.out.then_ hb3).set_ 6 (.slice A3 c.off.length c3); simpa using h
  have HBY4 : Hid (Below w.heap.size w Y4) := by unfold Hid; rw [hV]; exact (xAa HBY3.out hb3).setCell (p := ⟨bp, 6, none⟩) lbp _
  have OW3Y4 : Hid (Own Y4 Y.heap.size 3 1 eI (.slice A3 c.off.length c3) c.off) := by unfold Hid; rw [hV]; exact hO3.setOther (p := ⟨bp, 6, none⟩) (GPY3.out.then_ hb3) (by decide) _
  have OW0Y4 : Hid (Own Y4 Y.heap.size 3 1 eI (.slice A0 c.hold.length c0) c.hold) := by unfold Hid; rw [hV]; exact (OW0Y3.out.below hb3).setOther (p := ⟨bp, 6, none⟩) (GPY3.out.then_ hb3) (by decide) _
  have OW1Y4 : Hid (Own Y4 Y.heap.size 78 5 eU (.slice A1 c.un.length c1) c.un) := by unfold Hid; rw [hV]; exact (OW1Y3.out.below hb3).setOther (p := ⟨bp, 6, none⟩) (GPY3.out.then_ hb3) (by decide) _
  have OW2Y4 : Hid (Own Y4 Y.heap.size 118 7 eA (.slice A2 c.ac.length c2) c.ac) := by unfold Hid; rw [hV]; exact (OW2Y3.out.below hb3).setOther (p := ⟨bp, 6, none⟩) (GPY3.out.then_ hb3) (by decide) _
  clear hV hO3 hb3 ka kp fp HCL GAY3 GZY3 GPY3 HBY3 OW0Y3 OW1Y3 OW2Y3
  obtain ⟨ri, hi, hz0, hz1, hz2⟩ := info_parts (show (Tryz.prog.info? 52).map (fun i => (i.zero, i.size, i.bytes)) = some (some (.agg #[.int .i64 0, .int .i64 0, .int .i64 0, .int .i64 0, .slice none 0 0, .int .i64 0, .int .i64 0, .bool false, .bool false, .int .i64 0, .int .i64 0, .int .i64 0, .int .i64 0, .int .i64 0, .int .i64 0, .bool false]), 16, 136) by kernel_rfl)
  have hmk : ∀ W : World, (Instr.makeSlice 25 (.int .i64 (ks.length : Nat)) (.int .i64 (ks.length : Nat))).run Tryz.prog W = _ := fun W => xD7 (enc := eK) (y := zKm) Tryz.underlying25 hi hz0 hz1 hz2 (by omega) rfl (by omega) W
  have kp : (Y4.alloc (.cells (madeCells (eK zKm).toArray (ks.length * 16)) 52)).cell? ⟨bp, 4, none⟩ = some (.slice m.k c.cl.length m.kc) := (GPY4.out.then_ (wa1 _ _)).cell 4
  have fp : (Y4.alloc (.cells (madeCells (eK zKm).toArray (ks.length * 16)) 52)).frozen? ⟨bp, 4, none⟩ = false := (GPY4.out.then_ (wa1 _ _)).frozen 4
  go_upto_region 18 with (fail)
  refine xAf ?_
  intro Z hZ
  obtain ⟨V, hV⟩ : ∃ V, Y4.alloc (.cells (madeCells (eK zKm).toArray (ks.length * 16)) 52) = V := ⟨_, rfl⟩
  obtain ⟨gk, egk, hOK, hbV, _⟩ := xAn (y := zKm) (n := ks.length) eK_len (by decide) (by omega) (Nat.le_refl _) hV.symm rfl
  rw [hV] at hZ
  rw [egk] at hZ ⊢
  replace hZ : Z = V.setCell ⟨bp, 4, none⟩ (.slice (some ⟨gk, 0, none⟩) ks.length ks.length) := hZ
  obtain ⟨q0, hq0⟩ : ∃ q : Cm, q = ⟨A0, c0, A1, c1, A2, c2, some ⟨gk, 0, none⟩, ks.length, A3, c3, List.replicate ks.length zKm⟩ := ⟨_, rfl⟩
  have hPl : Hid (Pl w Z Y.heap.size ba bz bp c m q0) := by
   have gpV := GPY4.out.then_ hbV
   have gaV := GAY4.out.then_ hbV
   have gzV := GZY4.out.then_ hbV
   unfold Hid
   rw [hq0, hZ]
   refine ⟨gaV.far (p := ⟨bp, 4, none⟩) HNAB.out _, gzV.far (p := ⟨bp, 4, none⟩) HNZB.out _, ?_, (OW0Y4.out.below hbV).setOther (p := ⟨bp, 4, none⟩) gpV (by decide) _, (OW1Y4.out.below hbV).setOther (p := ⟨bp, 4, none⟩) gpV (by decide) _, (OW2Y4.out.below hbV).setOther (p := ⟨bp, 4, none⟩) gpV (by decide) _, (OW3Y4.out.below hbV).setOther (p := ⟨bp, 4, none⟩) gpV (by decide) _, ?_, (xAa HBY4.out hbV).setCell (p := ⟨bp, 4, none⟩) lbp _, ?_⟩
   ·have h := gpV.set_ 4 (.slice (some ⟨gk, 0, none⟩) ks.length ks.length)
    simpa [coA, Con.wc] using h
   ·have h := (hOK.setOther (p := ⟨bp, 4, none⟩) gpV (by decide) (.slice (some ⟨gk, 0, none⟩) ks.length ks.length)).lowerP (B' := Y.heap.size) (by omega)
    simpa using h
   ·have a1 := hbV.size
    have a2 := HYB0.out
    have a3 : (V.setCell ⟨bp, 4, none⟩ (.slice (some ⟨gk, 0, none⟩) ks.length ks.length)).heap.size = V.heap.size := by simp
    rw [a3]
    omega
  have hgN : Y.heap.size ≤ gk := by omega
  have lq : Hid (q0.ks.length = ks.length ∧ q0.k = some ⟨gk, 0, none⟩ ∧ q0.kc = ks.length ∧ q0.ks = List.replicate ks.length zKm) := by unfold Hid; rw [hq0]; exact ⟨by simp, rfl, rfl, rfl⟩
  clear hZ hV hOK hbV egk hq0 kp fp hmk hi hz0 hz1 hz2 GPY4 GAY4 GZY4 HBY4 OW0Y4 OW1Y4 OW2Y4 OW3Y4 HYB0
  obtain ⟨N, hNe⟩ : ∃ N, Y.heap.size = N := ⟨_, rfl⟩
  rw [hNe] at hPl hgN
  clear hNe lS0 lS1 lS2 lS3
  have HGN := qzL hgN
  go_upto_region 19 with (fail)
  go_loopw [68] (fun y WR => ∃ (n : Nat) (q : Cm), y = .int .i64 n ∧ n ≤ ks.length ∧ Hid (Pl w WR N ba bz bp c m q) ∧ Hid (q.ks.length = ks.length ∧ q.k = some ⟨gk, 0, none⟩ ∧ q.kc = ks.length) ∧ Hid ((q.ks.take n).map (·.k) = ((pick ks c.cl).map (ren ks)).take n) ∧ Hid (∀ j i k, j < n → ks[j]? = some i → c.cl[i.toNat]? = some k → ∀ s ∈ k.start, s.1 ∈ ks) ∧ Hid (∀ x ∈ q.ks.take n, Own WR N 121 2 eS (.slice x.A x.k.start.length x.cap) x.k.start ∧ x.k.start.length ≤ x.cap)) (fun y _ => 2000000 - (intOf y).toNat)
  case atStart => exact ⟨0, q0, rfl, by omega, hPl, ⟨lq.out.1, lq.out.2.1, lq.out.2.2.1⟩, by simp [Hid], fun j i k h => by omega, fun x hx => by simp at hx⟩
  case round =>
   clear hPl lq
   obtain ⟨n, q, rfl, hn, hPl, hq, hdone, hst, hown⟩ := hrel
   by_cases hlt : n < ks.length
   case pos =>
    have tl : decide ((n : Int) < (ks.length : Int)) = true := qzO (by omega)
    obtain ⟨i0, hi0⟩ : ∃ i, ks[n]? = some i := ⟨_, qzJ hlt⟩
    have hif := HFA.out i0 (qzK hi0)
    obtain ⟨t, rfl⟩ : ∃ t : Nat, i0 = (t : Int) := ⟨i0.toNat, by omega⟩
    have htl : t < c.cl.length := by omega
    obtain ⟨k0, hk0⟩ : ∃ k, c.cl[t]? = some k := ⟨_, qzJ htl⟩
    obtain ⟨kx, hkx, hkk⟩ := xCv HKE.out hk0
    have HKK := qzL hkk
    have hok2 := HC.out.t kx (qzK hkx)
    have HOK2 := qzL hok2
    have HI0 := qzL hi0
    have HK0 := qzL hk0
    obtain ⟨Wq, rfl⟩ : ∃ W, W = wr := ⟨_, rfl⟩
    obtain ⟨b0, o0, eA0, hb0, hc0⟩ := xAx (HA.out.below hPl.out.b) hi0
    obtain ⟨b1, o1, eA1, hb1, hc1⟩ := xAx (HC.out.then_ hPl.out.b).k hkx
    have hix0 := fun W => xAq (t := 22) (size := 1) (cap := cap) eA0 hlt (by kernel_rfl) (fun W => by kernel_rfl) W
    have hix1 := fun W => xAq (t := 25) (size := 16) (cap := m.kc) eA1 htl (by kernel_rfl) (fun W => by kernel_rfl) W
    have d0 : Wq.cell? ⟨b0, o0 + n, none⟩ = some (.int .i64 (t : Int)) := by simpa using hc0 0 _ rfl
    simp only [Nat.mul_one] at hix0
    have hrg : Wq.rangeAt b1 (o1 + t * 16) (kL kx) := fun j v hv => hc1 j v hv
    have k4 : Wq.cell? ⟨ba, 4, none⟩ = some (.slice m.k c.cl.length m.kc) := hPl.out.ga.cell 4
    clear hi0 hk0 hkx hkk hok2 hc0 hc1 eA0 eA1 hif
    go_upto_region 22 with ((refine xAo 52 el16 _ _ _ rfl rfl rfl rfl rfl rfl rfl rfl rfl b1 _ rfl (kL kx) rfl hrg (by simp [Value.oneCell']) (by decide) (by simp) (by simp) ?_; simp only [Act.put, qzG, qzH, qzI]))
    refine xAf ?_
    intro V hV
    have gb : Blk V Wq.heap.size 52 (kA kx) := by rw [hV]; exact Blk.new _ _ _
    have hbV : Below Wq.heap.size Wq V := by rw [hV]; exact wa1 _ _
    obtain ⟨bk, ebk⟩ : ∃ b, Wq.heap.size = b := ⟨_, rfl⟩
    have lbk : Hid (Wq.heap.size ≤ bk) := by unfold Hid; omega
    have lbN : Hid (N ≤ bk ∧ N ≤ Wq.heap.size) := by unfold Hid; have := hPl.out.l; omega
    rw [ebk] at gb ⊢
    have GB := qzL gb
    have HBV := qzL hbV
    clear hV gb hbV ebk hrg hix0 hix1 d0 k4 hb0 hb1
    have b4 : V.cell? ⟨bk, 4, none⟩ = some (.slice kx.A kx.k.start.length kx.cap) := GB.out.cell 4
    have HCC : Hid (Calls Tryz.prog 58 #[.slice kx.A kx.k.start.length kx.cap] V fun e w' => (∃ A' c', e = .returned (.slice A' kx.k.start.length c') ∧ Own w' V.heap.size 121 2 eS (.slice A' kx.k.start.length c') kx.k.start ∧ kx.k.start.length ≤ c') ∧ Below V.heap.size V w') :=
     (clone_con kx.A kx.cap kx.k.start V HOK2.out.n (HOK2.out.then_ (xAa hPl.out.b HBV.out)).s HOK2.out.c).mono fun e w' ⟨⟨v, h1, h2⟩, h3⟩ => by
      obtain ⟨A', c', h4, h5, _⟩ := h2.seg xFv
      subst h4
      exact ⟨⟨A', c', h1, h2, h5⟩, h3⟩
    go_upto_region 23 with (go_at_call 58; (with_reducible refine HCC.out.mono ?_); rintro e v5 ⟨⟨Ac, cc, rfl, hOc, hcc⟩, hb5⟩; have kb : v5.cell? ⟨bk, 4, none⟩ = some (.slice kx.A kx.k.start.length kx.cap) := (GB.out.then_ hb5).cell 4; have fb : v5.frozen? ⟨bk, 4, none⟩ = false := (GB.out.then_ hb5).frozen 4)
    refine xAf ?_
    intro U hU
    have gbU : Blk U bk 52 (kA ⟨kx.k, Ac, cc⟩) := by rw [hU]; have h := (GB.out.then_ hb5).set_ 4 (.slice Ac kx.k.start.length cc); simpa using h
    have hbU : Below Wq.heap.size Wq U := by rw [hU]; exact (xAa HBV.out hb5).setCell (p := ⟨bk, 4, none⟩) lbk.out _
    have hOU : Own U Wq.heap.size 121 2 eS (.slice Ac kx.k.start.length cc) kx.k.start := by rw [hU]; exact (hOc.lowerP HBV.out.size).setOther (p := ⟨bk, 4, none⟩) (GB.out.then_ hb5) (by decide) _
    have HCCL := qzL hcc
    have GBU := qzL gbU
    have HBU := qzL hbU
    have HOU := qzL hOU
    clear hU gbU hbU hOU hOc hb5 kb fb b4 HCC GB HBV hcc
    have b4 : U.cell? ⟨bk, 4, none⟩ = some (.slice Ac kx.k.start.length cc) := GBU.out.cell 4
    have nst := HOK2.out.n
    go_upto_region 24 with (fail)
    clear b4
    go_loopw [85] (fun y WR => ∃ (j : Nat) (L : List (Int × Int)), y = .int .i64 j ∧ j ≤ kx.k.start.length ∧ Hid (L.length = kx.k.start.length) ∧ Hid (L = (kx.k.start.take j).map (rnC ks) ++ kx.k.start.drop j) ∧ Hid (∀ s ∈ kx.k.start.take j, s.1 ∈ ks) ∧ Hid (Own WR Wq.heap.size 121 2 eS (.slice Ac kx.k.start.length cc) L) ∧ Hid (Blk WR bk 52 (kA ⟨kx.k, Ac, cc⟩)) ∧ Hid (Below Wq.heap.size Wq WR)) (fun y _ => 2000000 - (intOf y).toNat)
    case atStart => exact ⟨0, kx.k.start, rfl, by omega, rfl, by simp [Hid], by simp [Hid], HOU, GBU, HBU⟩
    case round =>
     clear HOU GBU HBU
     obtain ⟨j, L, rfl, hj, hLl, hLe, hin, hOL, hGL, hBL⟩ := hrel
     have b4 : wr.cell? ⟨bk, 4, none⟩ = some (.slice Ac kx.k.start.length cc) := hGL.out.cell 4
     by_cases hlj : j < kx.k.start.length
     case pos =>
      have tj : decide ((j : Int) < (kx.k.start.length : Int)) = true := qzO (by omega)
      obtain ⟨s, hs⟩ : ∃ s, kx.k.start[j]? = some s := ⟨_, qzJ hlj⟩
      have hLj : L[j]? = some s := by rw [hLe.out, List.getElem?_append_right (by rw [List.length_map, List.length_take]; omega), List.length_map, List.length_take, List.getElem?_drop, show j + (j - min j kx.k.start.length) = j by omega]; exact hs
      obtain ⟨gc, cc2, eqc⟩ := own_slP hOL.out (by have := hLl.out; omega)
      obtain ⟨rfl, rfl⟩ : Ac = some ⟨gc, 0, none⟩ ∧ cc = cc2 := by injection eqc with a1 _ a3; exact ⟨a1, a3⟩
      have HLJ := qzL hLj
      have HS := qzL hs
      have c0' : wr.cell? ⟨gc, j * 2, none⟩ = some (.int .i64 s.1) := (hOL.out.getAt xFv hLl.out (k := j) (j := 0) hLj (by decide)).1
      have hixc : ∀ W : World, (Instr.indexAt 48 (.slice (some ⟨gc, 0, none⟩) kx.k.start.length cc) (.int .i64 (j : Nat))).run Tryz.prog W = .ok (.pointer (some ⟨gc, j * 2, none⟩)) W := xAy (t := 48) (size := 2) (g := gc) (n := kx.k.start.length) (cap := cc) (i := j) hlj (by kernel_rfl) (fun W => by kernel_rfl)
      have HBW : Hid (Below w.heap.size w wr) := xAa hPl.out.b hBL.out
      have HBS : Hid (Calls Tryz.prog 59 #[.slice A ks.length cap, .int .i64 s.1] wr fun e w' => e = .returned (.tuple #[.int .i64 (befN s.1 ks), .bool (ks.contains s.1)]) ∧ wr = w') := bs_any A ks cap s.1 wr nks HPW.out ((HA.out.below HBW.out).more HBW.out.size)
      obtain ⟨fd, hfd⟩ : ∃ b, ks.contains s.1 = b := ⟨_, rfl⟩
      rw [hfd] at HBS
      have HFD := qzL hfd
      have gzr := (hPl.out.then_ hBL.out).gz
      clear hs hLj eqc hfd
      cases fd with
      | false =>
       have hz := qzL (HNO.out (by
        have h1 : (pick ks c.cl)[n]? = some kx.k := by rw [xBs (fun i hi => (HFA.out i hi).2), HI0.out, Option.bind_some, Int.toNat_natCast, HK0.out, HKK.out]
        unfold Con.partOk
        rw [Bool.and_eq_false_iff]
        refine .inr (List.all_eq_false.2 ⟨kx.k, qzK h1, ?_⟩)
        rw [Bool.not_eq_true, List.all_eq_false]
        exact ⟨s, qzK HS.out, by rw [HFD.out]; decide⟩))
       go_wp2_with (first | (go_at_call 59; (with_reducible refine HBS.out.mono ?_); rintro e w5 ⟨rfl, hw5⟩; subst w5) | (refine xAg rfl 27 _ _ rfl bz 27 [] zCoA.toList [] zCoA.toList rfl rfl gzr rfl (by kernel_rfl) (by simp [Value.oneCell']) ?_; intro w6 g6 u6))
       refine bodyPost_ret (xBg rfl rfl g6 ⟨_, Tryz.underlying27⟩ (by kernel_rfl)) rfl ?_
       rw [hz.out.1, hz.out.2]
       exact RetK.zero (HBW.out.trans (u6.b _ lbz))
      | true =>
       have hmem : s.1 ∈ ks := by simpa using HFD.out
       have hpl : Hid (((befN s.1 ks : Nat) : Int) = ((ks.idxOf s.1 : Nat) : Int)) := by unfold Hid; rw [befN_idx HPW.out hmem]
       obtain ⟨pl, hple⟩ : ∃ x : Int, ((befN s.1 ks : Nat) : Int) = x := ⟨_, rfl⟩
       rw [hple] at HBS hpl
       have hrn : Hid (rnC ks s = (pl, s.2)) := by unfold Hid rnC; rw [hpl.out]
       have hfz : wr.frozen? ⟨gc, j * 2, none⟩ = false := (hOL.out.getAt xFv hLl.out (k := j) (j := 0) HLJ.out (by decide)).2
       clear hple gzr
       go_upto_region 30 with (go_at_call 59; (with_reducible refine HBS.out.mono ?_); rintro e w5 ⟨rfl, hw5⟩; subst w5)
       refine xAf ?_
       intro S hS
       have hO2 : Hid (Own S Wq.heap.size 121 2 eS (.slice (some ⟨gc, 0, none⟩) kx.k.start.length cc) (L.set j (rnC ks s))) := by
        unfold Hid
        rw [hS]
        have h := hOL.out.setAt xFv hLl.out (k := j) (j := 0) (y := rnC ks s) (u := .int .i64 pl) HLJ.out (by decide) (by rw [hrn.out]; rfl)
        simpa using h
       obtain ⟨csc, hgc⟩ := hOL.out.tyB
       have hG2 : Hid (Blk S bk 52 (kA ⟨kx.k, some ⟨gc, 0, none⟩, cc⟩)) := by unfold Hid; rw [hS]; exact hGL.out.far (p := ⟨gc, j * 2, none⟩) (Blk.ne_of hGL.out hgc (by decide)) _
       have hB2 : Hid (Below Wq.heap.size Wq S) := by unfold Hid; rw [hS]; exact hBL.out.setCell (p := ⟨gc, j * 2, none⟩) (geO hOL.out) _
       have hL2 : Hid ((L.set j (rnC ks s)).length = kx.k.start.length) := by unfold Hid; rw [List.length_set]; exact hLl.out
       have hE2 : Hid (L.set j (rnC ks s) = (kx.k.start.take (j + 1)).map (rnC ks) ++ kx.k.start.drop (j + 1)) := by
        unfold Hid
        have hdr : kx.k.start.drop j = s :: kx.k.start.drop (j + 1) := by
         obtain ⟨hl, e⟩ := qzM HS.out
         rw [List.drop_eq_getElem_cons hl, e]
        rw [hLe.out, hdr, List.set_append_right _ _ (by rw [List.length_map, List.length_take]; omega), List.length_map, List.length_take, show j - min j kx.k.start.length = 0 by omega, List.take_add_one, HS.out]
        simp
       have hI2 : Hid (∀ s ∈ kx.k.start.take (j + 1), s.1 ∈ ks) := by
        intro y hy
        rw [List.take_add_one, HS.out] at hy
        rcases List.mem_append.1 hy with h | h
        ·exact hin.out y h
        ·rw [qzD, List.mem_singleton] at h
         rw [h]; exact hmem
       clear hS c0' hixc HBS hfz b4 hOL hGL hBL hLe hin hLl hgc
       go_wp2
       go_roundw
       case rel => exact ⟨j + 1, _, by simp, by omega, hL2, hE2, hI2, hO2, hG2, hB2⟩
       case measure => simp [intOf]; omega
     obtain rfl : j = kx.k.start.length := by omega
     have tj : decide ((kx.k.start.length : Int) < (kx.k.start.length : Int)) = false := qzN (by omega)
     have hLf : L = (ren ks kx.k).start := by rw [hLe.out, List.take_length, List.drop_length, List.append_nil]; rfl
     have hin2 : Hid (∀ s ∈ kx.k.start, s.1 ∈ ks) := fun s hs => hin.out s (by rw [List.take_length]; exact hs)
     have gb2 : Blk wr bk 52 (kA ⟨ren ks kx.k, Ac, cc⟩) := by
      have e : kA ⟨kx.k, Ac, cc⟩ = kA ⟨ren ks kx.k, Ac, cc⟩ := by simp [kA, ren]
      rw [← e]
      exact hGL.out
     have hO3 : Hid (Own wr Wq.heap.size 121 2 eS (.slice Ac (ren ks kx.k).start.length cc) (ren ks kx.k).start) := by unfold Hid; rw [← hLf, hLl.out]; exact hOL.out
     have hPr := qzL (hPl.out.then_ hBL.out)
     have kp4 : wr.cell? ⟨bp, 4, none⟩ = some (.slice q.k (q.ks.map (·.k)).length q.kc) := hPr.out.gp.cell 4
     rw [List.length_map, hq.out.1, hq.out.2.1, hq.out.2.2] at kp4
     have hOW : Own wr N 52 16 eK (.slice (some ⟨gk, 0, none⟩) ks.length ks.length) q.ks := by have h := hPr.out.ok; rw [hq.out.1, hq.out.2.1, hq.out.2.2] at h; exact h
     obtain ⟨y0, hy0⟩ : ∃ y, q.ks[n]? = some y := ⟨_, qzJ (by rw [hq.out.1]; exact hlt)⟩
     have hixk : ∀ W : World, (Instr.indexAt 25 (.slice (some ⟨gk, 0, none⟩) ks.length ks.length) (.int .i64 (n : Nat))).run Tryz.prog W = .ok (.pointer (some ⟨gk, n * 16, none⟩)) W := xAy (t := 25) (size := 16) (g := gk) (n := ks.length) (cap := ks.length) (i := n) hlt (by kernel_rfl) (fun W => by kernel_rfl)
     have hql := hq.out.1
     have HQL := qzL hql
     have HY0 := qzL hy0
     have HOW := qzL hOW
     clear hLf hLe hin hLl hOL hGL hOW hql hy0 b4
     go_upto_region 32 with (first | (refine xAi (by rfl) 52 _ rfl bk rfl 52 _ gb2 ⟨_, Tryz.underlying52⟩ (by kernel_rfl) ?_; simp only [Act.put, qzG, qzH, qzI]) | (refine xE5 rfl 52 _ _ rfl HOW.out eK_len HQL.out (k := n) (z := y0) HY0.out (⟨ren ks kx.k, Ac, cc⟩ : Km) rfl rfl (by kernel_rfl) (one_kla3 _) ?_; intro S hOS US))
     have hP2 : Hid (Pl w S N ba bz bp c m { q with ks := q.ks.set n ⟨ren ks kx.k, Ac, cc⟩ }) := hPr.out.put hq.out.2.1 HGN.out (by rw [hq.out.1, hq.out.2.2]; exact hOS) US
     have hq2 : Hid ((q.ks.set n ⟨ren ks kx.k, Ac, cc⟩).length = ks.length ∧ q.k = some ⟨gk, 0, none⟩ ∧ q.kc = ks.length) := ⟨by rw [List.length_set]; exact hq.out.1, hq.out.2⟩
     have hpk : (pick ks c.cl)[n]? = some kx.k := by rw [xBs (fun i hi => (HFA.out i hi).2), HI0.out, Option.bind_some, Int.toNat_natCast, HK0.out, HKK.out]
     have htk : (q.ks.set n ⟨ren ks kx.k, Ac, cc⟩).take (n + 1) = q.ks.take n ++ [⟨ren ks kx.k, Ac, cc⟩] := by
      rw [List.take_add_one, List.getElem?_set_self (by rw [HQL.out]; exact hlt), List.take_set_of_le (Nat.le_refl _)]
      rfl
     have hd2 : Hid (((q.ks.set n ⟨ren ks kx.k, Ac, cc⟩).take (n + 1)).map (·.k) = ((pick ks c.cl).map (ren ks)).take (n + 1)) := by
      unfold Hid
      rw [htk, List.map_append, hdone.out, List.take_add_one, List.getElem?_map, hpk]
      rfl
     have hs2 : Hid (∀ j i k, j < n + 1 → ks[j]? = some i → c.cl[i.toNat]? = some k → ∀ s ∈ k.start, s.1 ∈ ks) := by
      intro j i k hj hi hk
      by_cases e : j = n
      ·subst e
       rw [HI0.out] at hi
       cases hi
       rw [Int.toNat_natCast, HK0.out] at hk
       cases hk
       rw [← HKK.out]
       exact hin2.out
      ·exact hst.out j i k (by omega) hi hk
     obtain ⟨csk, hgk⟩ := HOW.out.tyB
     have ho2 : Hid (∀ x ∈ (q.ks.set n ⟨ren ks kx.k, Ac, cc⟩).take (n + 1), Own S N 121 2 eS (.slice x.A x.k.start.length x.cap) x.k.start ∧ x.k.start.length ≤ x.cap) := by
      intro x hx
      rw [htk] at hx
      rcases List.mem_append.1 hx with h | h
      ·obtain ⟨a1, a2⟩ := hown.out x h
       exact ⟨(a1.below hBL.out).updT US hgk (by decide), a2⟩
      ·rw [List.mem_singleton] at h
       subst h
       exact ⟨(hO3.out.lowerP lbN.out.2).updT US hgk (by decide), by show (ren ks kx.k).start.length ≤ cc; have := HCCL.out; simpa [ren] using this⟩
     clear hOS US hpk htk hgk kp4 hixk gb2 hO3 hPr HOW HY0 hBL
     go_wp2
     go_roundw
     case rel => exact ⟨n + 1, _, by simp, by omega, hP2, hq2, hd2, hs2, ho2⟩
     case measure => simp [intOf]; omega
   obtain rfl : n = ks.length := by omega
   have tl : decide ((ks.length : Int) < (ks.length : Int)) = false := qzN (by omega)
   have hks : q.ks.map (·.k) = (pick ks c.cl).map (ren ks) := by
    have h := hdone.out
    rw [List.take_of_length_le (by rw [hq.out.1]; exact Nat.le_refl _), List.take_of_length_le (by rw [List.length_map, xCq (fun i hi => (HFA.out i hi).2)]; exact Nat.le_refl _)] at h
    exact h
   have hpo : c.partOk ks = true := by
    unfold Con.partOk
    rw [HOK.out, HINC.out, Bool.true_and, Bool.true_and, List.all_eq_true]
    intro k hk
    obtain ⟨j, hj⟩ := List.getElem?_of_mem hk
    rw [xBs (fun i hi => (HFA.out i hi).2)] at hj
    obtain ⟨i, hi, hj⟩ := Option.bind_eq_some_iff.1 hj
    rw [List.all_eq_true]
    intro s hs
    have := hst.out j i k (qzM hi).1 hi hj s hs
    simpa using this
   have hDE : Hid (D = c.wc (q.ks.map (·.k)) ∧ E = 0) := by unfold Hid; rw [HDE.out.1, HDE.out.2, hpo, hks]; exact ⟨rfl, rfl⟩
   have HKS := qzL hks
   have gpr := hPl.out.gp
   have gzr := hPl.out.gz
   clear hks hpo hdone hlt hn
   go_wp2_with (first | (refine xAi (by rfl) 27 _ rfl bp rfl 27 _ gpr ⟨_, Tryz.underlying27⟩ (by kernel_rfl) ?_; simp only [Act.put, qzG, qzH, qzI]) | (refine xAg rfl 27 _ _ rfl bz 27 [] zCoA.toList [] (coA (c.wc (q.ks.map (·.k))) q).toList rfl rfl gzr rfl (by kernel_rfl) (by simp [Value.oneCell']) ?_; intro w6 g6 u6))
   refine bodyPost_ret (xBg rfl rfl g6 ⟨_, Tryz.underlying27⟩ (by kernel_rfl)) rfl ?_
   rw [hDE.out.1, hDE.out.2]
   have hB6 := u6.b _ lbz
   have lN := hPl.out.l
   obtain ⟨_, _, e1, i1, _, j1, _, m1, y1⟩ := (hPl.out.oh.updT u6 gzr (by decide)).segz xAz
   obtain ⟨_, _, e2, i2, _, j2, _, m2, y2⟩ := (hPl.out.ou.updT u6 gzr (by decide)).segz eU_len
   obtain ⟨_, _, e3, i3, _, j3, _, m3, y3⟩ := (hPl.out.oa.updT u6 gzr (by decide)).segz eA_len
   obtain ⟨_, _, e4, i4, _, j4, _, m4, y4⟩ := (hPl.out.oo.updT u6 gzr (by decide)).segz xAz
   obtain ⟨_, _, e5, i5, _, j5, _, m5, y5⟩ := (hPl.out.ok.updT u6 gzr (by decide)).segz eK_len
   injection e1 with e1 _ f1
   injection e2 with e2 _ f2
   injection e3 with e3 _ f3
   injection e4 with e4 _ f4
   injection e5 with e5 _ f5
   refine ⟨⟨q, rfl, ⟨by rw [e1]; exact j1, by rw [e2]; exact j2, by rw [e3]; exact j3, by rw [e5]; exact j5, by rw [e4]; exact j4, rfl, ?_, HC.out.bu, HC.out.ba, nh, nu, na, ?_, no, by rw [f1]; exact i1, by rw [f2]; exact i2, by rw [f3]; exact i3, ?_, by rw [f4]; exact i4⟩⟩, hPl.out.b.trans hB6⟩
   ·intro x hx
    have hx2 : x ∈ q.ks.take ks.length := by rw [List.take_of_length_le (by rw [hq.out.1]; exact Nat.le_refl _)]; exact hx
    obtain ⟨a1, a2⟩ := hown.out x hx2
    obtain ⟨_, _, e6, i6, _, j6, _, m6, y6⟩ := (a1.updT u6 gzr (by decide)).segz xFv
    injection e6 with e6 _ f6
    have hm : x.k ∈ (pick ks c.cl).map (ren ks) := by rw [← HKS.out]; exact List.mem_map_of_mem hx
    obtain ⟨k1, hk1, hk2⟩ := List.mem_map.1 hm
    unfold pick at hk1
    obtain ⟨i, _, hi⟩ := List.mem_filterMap.1 hk1
    obtain ⟨z, hz, hzk⟩ := xCv HKE.out hi
    have hz2 := HC.out.t z (qzK hz)
    refine ⟨by rw [e6]; exact j6, ?_, ?_, by rw [f6]; exact i6⟩
    ·rw [← hk2]
     show I64 k1.v.1 ∧ I64 k1.v.2
     rw [← hzk]; exact hz2.v
    ·rw [← hk2]
     show (k1.start.map _).length ≤ 1000000
     rw [List.length_map, ← hzk]; exact hz2.n
   ·show (q.ks.map (·.k)).length ≤ 1000000
    rw [List.length_map, hq.out.1]; exact nks
   ·show (q.ks.map (·.k)).length ≤ q.kc
    rw [List.length_map, f5]; exact i5
end Go.Proofs.YtginnonjdbpamaaGreatDoor
