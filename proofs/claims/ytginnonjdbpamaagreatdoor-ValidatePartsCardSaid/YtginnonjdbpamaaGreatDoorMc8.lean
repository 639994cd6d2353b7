/- Contracts of functions and plain laws, joined: Kb9. -/
import Derived.Test.YtginnonjdbpamaaGreatDoorMc7
/- The walk of contract.validClause. -/
import Derived.Test.YtginnonjdbpamaaGreatDoorMc1
set_option maxHeartbeats 6400000
set_option maxRecDepth 100000
namespace Go.Proofs.YtginnonjdbpamaaGreatDoor
open Go.RowKit
theorem el16 : ElT Tryz.prog 52 16 := ⟨⟨_, Tryz.underlying52⟩, by kernel_rfl, ⟨.agg #[.int .i64 0, .int .i64 0, .int .i64 0, .int .i64 0, .slice none 0 0, .int .i64 0, .int .i64 0, .bool false, .bool false, .int .i64 0, .int .i64 0, .int .i64 0, .int .i64 0, .int .i64 0, .int .i64 0, .bool false], rfl, fun w => by kernel_rfl⟩⟩
theorem elS : ElT Tryz.prog 121 2 := ⟨⟨_, Tryz.underlying121⟩, by kernel_rfl, ⟨.agg #[.int .i64 0, .int .i64 0], rfl, fun w => by kernel_rfl⟩⟩
abbrev kL (x : Km) : List Value := [.int .i64 x.k.kind, .int .i64 x.k.role, .int .i64 x.k.act, .int .i64 x.k.need, .slice x.A x.k.start.length x.cap, .int .i64 x.k.aft, .int .i64 x.k.grace, .bool x.k.bus, .bool x.k.fin, .int .i64 x.k.pause, .int .i64 x.k.resume, .int .i64 x.k.v.1, .int .i64 x.k.v.2, .int .i64 x.k.unit, .int .i64 x.k.to_, .bool x.k.waived]
abbrev sL (s : Int × Int) : List Value := [.int .i64 s.1, .int .i64 s.2]
theorem cla_key (c : Con) (m : Cm) (i : Nat) (x : Km) (kd np nr ps mt : Bool) (w : World) (hx : m.ks[i]? = some x) (hi : i < c.cl.length) (hS : Seg w w.heap.size 16 eK m.k m.ks) (hT : Seg w w.heap.size 2 eS x.A x.k.start) (hU : Seg w w.heap.size 5 eU m.u c.un) (_nk : c.cl.length ≤ 1000000)
  (HK : Hid (∀ W, Below w.heap.size w W → Calls Tryz.prog 103 #[.agg (coA c m), .agg (kA x)] W fun e w' => e = .returned (.bool kd) ∧ Below W.heap.size W w')) (HNp : Hid (∀ W, Below w.heap.size w W → Calls Tryz.prog 104 #[.agg (coA c m), .int .i64 x.k.pause] W fun e w' => e = .returned (.bool np) ∧ Below W.heap.size W w')) (HNr : Hid (∀ W, Below w.heap.size w W → Calls Tryz.prog 104 #[.agg (coA c m), .int .i64 x.k.resume] W fun e w' => e = .returned (.bool nr) ∧ Below W.heap.size W w')) (HZ : Hid (∀ W, Below w.heap.size w W → Calls Tryz.prog 105 #[] W fun e w' => e = .returned (.agg #[.int .i64 0, .int .i64 1]) ∧ Below W.heap.size W w')) (HP : Hid (∀ W, Below w.heap.size w W → Calls Tryz.prog 106 #[.agg #[.int .i64 x.k.v.1, .int .i64 x.k.v.2]] W fun e w' => e = .returned (.bool ps) ∧ Below W.heap.size W w')) (HM : Hid (∀ W, Below w.heap.size w W → Calls Tryz.prog 107 #[.agg (coA c m), .int .i64 x.k.to_] W fun e w' => e = .returned (.bool mt) ∧ Below W.heap.size W w'))
  (R : Bool) (hR : Hid (R = (isI x.k.act c.ac.length && decide (1 ≤ x.k.aft) && decide (x.k.aft ≤ 400) && kd && decide (x.k.start.length ≤ 8) && x.k.start.all (xB7 c.cl.length i) && ((x.k.pause == -1 && x.k.resume == -1) || (x.k.pause != x.k.resume && np && nr)) &&
   (if x.k.unit == -1 then zer x.k.v && x.k.to_ == -1 else (x.k.kind == 1 || x.k.kind == 2) && isI x.k.unit c.un.length && (match c.un[x.k.unit.toNat]? with | some u => u.kind == 2 | none => false) && ps && mt)))) :
  Calls Tryz.prog 73 #[.agg (coA c m), .int .i64 (i : Nat)] w fun e w' => e = .returned (.bool R) ∧ Below w.heap.size w w' := by
 obtain ⟨b0, o0, eA0, hb0, hc⟩ := xAx hS hx
 have hix := xAq (t := 25) (size := 16) (cap := m.kc) eA0 hi (by kernel_rfl) (fun W => by kernel_rfl)
 have hrg0 : w.rangeAt b0 (o0 + i * 16) (kL x) := fun j v hv => hc j v hv
 have HT := qzL hT
 have HU := qzL hU
 clear hc hS hT hU hx eA0
 go_enter Tryz.func73, Tryz.ntmps73
 go_upto_region 1 with (fail)
 refine xAf ?_
 intro X hX
 have ga : Blk X w.heap.size 27 (coA c m) := by rw [hX]; exact Blk.new _ _ _
 have HB : Below w.heap.size w X := by rw [hX]; exact wa1 _ _
 have hrg : X.rangeAt b0 (o0 + i * 16) (kL x) := fun j v hv => (HB.cell (p := ⟨b0, _, none⟩) hb0).trans (hrg0 j v hv)
 obtain ⟨ba, eb⟩ : ∃ b, w.heap.size = b := ⟨_, rfl⟩
 rw [eb] at ga ⊢
 clear hX eb hrg0
 have k4 : X.cell? ⟨ba, 4, none⟩ = some (.slice m.k c.cl.length m.kc) := ga.cell 4
 go_upto_region 2 with ((refine xAo 52 el16 _ _ _ rfl rfl rfl rfl rfl rfl rfl rfl rfl b0 _ rfl (kL x) rfl hrg (by simp [Value.oneCell']) (by decide) (by simp) (by simp) ?_; simp only [Act.put, qzG, qzH, qzI]))
 refine xAf ?_
 intro Y hY
 have gb : Blk Y ba 27 (coA c m) := by rw [hY]; exact ga.alloc _
 have gk : Blk Y X.heap.size 52 (kL x).toArray := by rw [hY]; exact Blk.new _ _ _
 have HY : Hid (Below w.heap.size w Y) := by rw [hY]; exact xAc HB _
 obtain ⟨bk, ek⟩ : ∃ b, X.heap.size = b := ⟨_, rfl⟩
 rw [ek] at gk ⊢
 clear hY ek ga HB hrg hix k4
 obtain ⟨k0, k1, k2, k3, k4, k5, k6⟩ := coC (c := c) (m := m) (gb) rfl
 have c0 : Y.cell? ⟨bk, 0, none⟩ = some (.int .i64 x.k.kind) := (gk).cell 0
 have c1 : Y.cell? ⟨bk, 1, none⟩ = some (.int .i64 x.k.role) := (gk).cell 1
 have c2 : Y.cell? ⟨bk, 2, none⟩ = some (.int .i64 x.k.act) := (gk).cell 2
 have c3 : Y.cell? ⟨bk, 3, none⟩ = some (.int .i64 x.k.need) := (gk).cell 3
 have c4 : Y.cell? ⟨bk, 4, none⟩ = some (.slice x.A x.k.start.length x.cap) := (gk).cell 4
 have c5 : Y.cell? ⟨bk, 5, none⟩ = some (.int .i64 x.k.aft) := (gk).cell 5
 have c6 : Y.cell? ⟨bk, 6, none⟩ = some (.int .i64 x.k.grace) := (gk).cell 6
 have c7 : Y.cell? ⟨bk, 7, none⟩ = some (.bool x.k.bus) := (gk).cell 7
 have c8 : Y.cell? ⟨bk, 8, none⟩ = some (.bool x.k.fin) := (gk).cell 8
 have c9 : Y.cell? ⟨bk, 9, none⟩ = some (.int .i64 x.k.pause) := (gk).cell 9
 have c10 : Y.cell? ⟨bk, 10, none⟩ = some (.int .i64 x.k.resume) := (gk).cell 10
 have c11 : Y.cell? ⟨bk, 11, none⟩ = some (.int .i64 x.k.v.1) := (gk).cell 11
 have c12 : Y.cell? ⟨bk, 12, none⟩ = some (.int .i64 x.k.v.2) := (gk).cell 12
 have c13 : Y.cell? ⟨bk, 13, none⟩ = some (.int .i64 x.k.unit) := (gk).cell 13
 have c14 : Y.cell? ⟨bk, 14, none⟩ = some (.int .i64 x.k.to_) := (gk).cell 14
 have c15 : Y.cell? ⟨bk, 15, none⟩ = some (.bool x.k.waived) := (gk).cell 15
 have fin : ∀ {a : Act}, True := fun {_} => trivial
 clear fin
 by_cases p1 : x.k.act < 0
 ·have t1 := qzO p1
  have hf : Hid (R = false) := by unfold Hid; rw [hR.out, show isI x.k.act c.ac.length = false by unfold isI; rw [qzN (show ¬ 0 ≤ x.k.act by omega)]; rfl]; rfl
  clear p1
  go_wp2
  go_ret
  exact ⟨xAb hf.out.symm, HY.out⟩
 have t1 := qzN p1
 by_cases p2 : (c.ac.length : Int) ≤ x.k.act
 ·have t2 := qzO p2
  have hf : Hid (R = false) := by unfold Hid; rw [hR.out, show isI x.k.act c.ac.length = false by unfold isI; rw [qzN (show ¬ x.k.act < c.ac.length by omega), Bool.and_false]]; rfl
  clear p1 p2
  go_wp2
  go_ret
  exact ⟨xAb hf.out.symm, HY.out⟩
 have t2 := qzN p2
 have hI : isI x.k.act c.ac.length = true := xCb.2 ⟨by omega, by omega⟩
 by_cases p3 : x.k.aft < 1
 ·have t3 := qzO p3
  have hf : Hid (R = false) := by unfold Hid; rw [hR.out, qzN (show ¬ 1 ≤ x.k.aft by omega)]; simp
  clear p1 p2 p3 hI
  go_wp2
  go_ret
  exact ⟨xAb hf.out.symm, HY.out⟩
 have t3 := qzN p3
 by_cases p4 : 400 < x.k.aft
 ·have t4 := qzO p4
  have hf : Hid (R = false) := by unfold Hid; rw [hR.out, qzN (show ¬ x.k.aft ≤ 400 by omega)]; simp
  clear p1 p2 p3 p4 hI
  go_wp2
  go_ret
  exact ⟨xAb hf.out.symm, HY.out⟩
 have t4 := qzN p4
 have hR2 : Hid (R = (kd && decide (x.k.start.length ≤ 8) && x.k.start.all (xB7 c.cl.length i) && ((x.k.pause == -1 && x.k.resume == -1) || (x.k.pause != x.k.resume && np && nr)) &&
   (if x.k.unit == -1 then zer x.k.v && x.k.to_ == -1 else (x.k.kind == 1 || x.k.kind == 2) && isI x.k.unit c.un.length && (match c.un[x.k.unit.toNat]? with | some u => u.kind == 2 | none => false) && ps && mt))) := by
  unfold Hid; rw [hR.out, hI, qzO (show 1 ≤ x.k.aft by omega), qzO (show x.k.aft ≤ 400 by omega)]; rfl
 clear hR p1 p2 p3 p4 hI
 cases kd with
 | false =>
  have hf : Hid (R = false) := by unfold Hid; rw [hR2.out]; rfl
  go_wp2_with (go_at_call 103; (with_reducible refine (HK.out _ HY.out).mono ?_); rintro e w1 ⟨rfl, hbw1⟩; have d4 : w1.cell? ⟨bk, 4, none⟩ = some (.slice x.A x.k.start.length x.cap) := (gk.then_ hbw1).cell 4)
  go_ret
  exact ⟨xAb hf.out.symm, xAa HY.out hbw1⟩
 | true =>
 by_cases p5 : (8 : Int) < x.k.start.length
 ·have t5 := qzO p5
  have hf : Hid (R = false) := by unfold Hid; rw [hR2.out, qzN (show ¬ x.k.start.length ≤ 8 by omega)]; rfl
  go_wp2_with (go_at_call 103; (with_reducible refine (HK.out _ HY.out).mono ?_); rintro e w1 ⟨rfl, hbw1⟩; have d4 : w1.cell? ⟨bk, 4, none⟩ = some (.slice x.A x.k.start.length x.cap) := (gk.then_ hbw1).cell 4)
  go_ret
  exact ⟨xAb hf.out.symm, xAa HY.out hbw1⟩
 have t5 := qzN p5
 go_upto_region 6 with (go_at_call 103; (with_reducible refine (HK.out _ HY.out).mono ?_); rintro e w1 ⟨rfl, hbw1⟩; have d4 : w1.cell? ⟨bk, 4, none⟩ = some (.slice x.A x.k.start.length x.cap) := (gk.then_ hbw1).cell 4)
 refine xAf ?_
 intro Z hZ
 have gb2 : Blk Z ba 27 (coA c m) := by rw [hZ]; exact gb.then_ hbw1
 have gk2 : Blk Z bk 52 (kL x).toArray := by rw [hZ]; exact gk.then_ hbw1
 have HZ2 : Hid (Below w.heap.size w Z) := by rw [hZ]; exact xAa HY.out hbw1
 have hR3 : Hid (R = (x.k.start.all (xB7 c.cl.length i) && ((x.k.pause == -1 && x.k.resume == -1) || (x.k.pause != x.k.resume && np && nr)) &&
   (if x.k.unit == -1 then zer x.k.v && x.k.to_ == -1 else (x.k.kind == 1 || x.k.kind == 2) && isI x.k.unit c.un.length && (match c.un[x.k.unit.toNat]? with | some u => u.kind == 2 | none => false) && ps && mt))) := by
  unfold Hid; rw [hR2.out, qzO (show x.k.start.length ≤ 8 by omega)]; rfl
 clear hZ hbw1 gb gk HY t1 t2 t3 t4 t5 hR2 HK k0 k1 k2 k3 k4 k5 k6 c0 c1 c2 c3 c4 c5 c6 c7 c8 c9 c10 c11 c12 c13 c14 c15
 have j4 : Z.cell? ⟨bk, 4, none⟩ = some (.slice x.A x.k.start.length x.cap) := gk2.cell 4
 go_upto_region 7 with (fail)
 clear j4
 have HTZ : Hid (Seg Z Z.heap.size 2 eS x.A x.k.start) := (HT.out.below HZ2.out).more HZ2.out.size
 have HUZ : Hid (Seg Z Z.heap.size 5 eU m.u c.un) := (HU.out.below HZ2.out).more HZ2.out.size
 clear HT HU
 go_loopw [47] (fun y WR => ∃ j : Nat, j ≤ x.k.start.length ∧ y = .int .i64 j ∧ Hid (∀ n s, n < j → x.k.start[n]? = some s → xB7 c.cl.length i s = true) ∧ Below Z.heap.size Z WR) (fun y _ => 2000000 - (intOf y).toNat)
 case atStart => exact ⟨0, by omega, rfl, fun n u h => absurd h (by omega), Below.refl _ _⟩
 case round =>
  obtain ⟨j, hj, rfl, hN, hbr⟩ := hrel
  have ga := gb2.then_ hbr
  have gk := gk2.then_ hbr
  have HBR := qzL (xAa HZ2.out hbr)
  have HBZ := qzL hbr
  have l1 := ga.lt
  have l2 := gk.lt
  by_cases hlt : j < x.k.start.length
  ·have tj : decide ((j : Int) < (x.k.start.length : Int)) = true := qzO (by omega)
   obtain ⟨s, hs⟩ : ∃ s, x.k.start[j]? = some s := ⟨_, qzJ hlt⟩
   obtain ⟨b1, o1, eA1, hb1, hc⟩ := xAx (HTZ.out.below hbr) hs
   have hrg : wr.rangeAt b1 (o1 + j * 2) (sL s) := fun j v hv => hc j v hv
   have hix := xAq (t := 48) (size := 2) (cap := x.cap) eA1 hlt (by kernel_rfl) (fun W => by kernel_rfl)
   have HX := qzL hs
   clear hc hs hbr eA1
   go_upto_region 9 with ((refine xAo 121 elS _ _ _ rfl rfl rfl rfl rfl rfl rfl rfl rfl b1 _ rfl (sL s) rfl hrg (by simp [Value.oneCell']) (by decide) (by simp) (by simp) ?_; simp only [Act.put, qzG, qzH, qzI]))
   refine xAf ?_
   intro V hV
   have gv : Blk V ba 27 (coA c m) := by rw [hV]; exact ga.alloc _
   have gx : Blk V wr.heap.size 121 (sL s).toArray := by rw [hV]; exact Blk.new _ _ _
   have HV : Hid (Below wr.heap.size wr V) := by rw [hV]; exact wa1 _ _
   obtain ⟨bx, ex⟩ : ∃ b, wr.heap.size = b := ⟨_, rfl⟩
   rw [ex] at gx ⊢
   clear hV ex ga gk hrg hix
   have k4 : V.cell? ⟨ba, 4, none⟩ = some (.slice m.k c.cl.length m.kc) := gv.cell 4
   have s0 : V.cell? ⟨bx, 0, none⟩ = some (.int .i64 s.1) := gx.cell 0
   have s1 : V.cell? ⟨bx, 1, none⟩ = some (.int .i64 s.2) := gx.cell 1
   have bad : xB7 c.cl.length i s = false → Hid (R = false) := fun h => by
    have : x.k.start.all (xB7 c.cl.length i) = false := by
     rw [Bool.eq_false_iff]
     intro h2
     rw [List.all_eq_true] at h2
     have := h2 s (qzK HX.out)
     rw [h] at this
     cases this
    unfold Hid; rw [hR3.out, this]; rfl
   by_cases q1 : s.1 < 0
   ·have u1 := qzO q1
    have hf := bad (by unfold xB7 isI; rw [qzN (show ¬ 0 ≤ s.1 by omega)]; rfl)
    clear q1 bad
    go_wp2
    go_ret
    exact ⟨xAb hf.out.symm, xAa HBR.out HV.out⟩
   have u1 := qzN q1
   by_cases q2 : (c.cl.length : Int) ≤ s.1
   ·have u2 := qzO q2
    have hf := bad (by unfold xB7 isI; rw [qzN (show ¬ s.1 < (c.cl.length : Int) by omega)]; simp)
    clear q1 q2 bad
    go_wp2
    go_ret
    exact ⟨xAb hf.out.symm, xAa HBR.out HV.out⟩
   have u2 := qzN q2
   cases q3 : (s.1 == (i : Int)) with
   | true =>
    have hf := bad (by unfold xB7; rw [bne, q3]; simp)
    clear q1 q2 bad
    go_wp2
    go_ret
    exact ⟨xAb hf.out.symm, xAa HBR.out HV.out⟩
   | false =>
   by_cases q4 : s.2 < 1
   ·have u4 := qzO q4
    have hf := bad (by unfold xB7; rw [qzN (show ¬ 1 ≤ s.2 by omega)]; simp)
    clear q1 q2 q4 bad
    go_wp2
    go_ret
    exact ⟨xAb hf.out.symm, xAa HBR.out HV.out⟩
   have u4 := qzN q4
   by_cases q5 : 4 < s.2
   ·have u5 := qzO q5
    have hf := bad (by unfold xB7; rw [qzN (show ¬ s.2 ≤ 4 by omega)]; simp)
    clear q1 q2 q4 q5 bad
    go_wp2
    go_ret
    exact ⟨xAb hf.out.symm, xAa HBR.out HV.out⟩
   have u5 := qzN q5
   have good : Hid (xB7 c.cl.length i s = true) := by
    unfold Hid xB7
    rw [xCb.2 ⟨by omega, by omega⟩, bne, q3, qzO (show 1 ≤ s.2 by omega), qzO (show s.2 ≤ 4 by omega)]; rfl
   clear q1 q2 q4 q5 bad
   go_wp2
   go_roundw
   case rel => exact ⟨j + 1, by omega, by simp, fun n y hi hy => by
    by_cases h : n = j
    ·subst h
     rw [HX.out] at hy
     injection hy with hy
     subst hy
     exact good.out
    ·exact hN.out n y (by omega) hy, xAa HBZ.out HV.out⟩
   case measure => simp [intOf]; omega
  ·have tj : decide ((j : Int) < (x.k.start.length : Int)) = false := qzN (by omega)
   have hR4 : Hid (R = (((x.k.pause == -1 && x.k.resume == -1) || (x.k.pause != x.k.resume && np && nr)) &&
     (if x.k.unit == -1 then zer x.k.v && x.k.to_ == -1 else (x.k.kind == 1 || x.k.kind == 2) && isI x.k.unit c.un.length && (match c.un[x.k.unit.toNat]? with | some u => u.kind == 2 | none => false) && ps && mt))) := by
    have : x.k.start.all (xB7 c.cl.length i) = true := by
     rw [List.all_eq_true]
     intro s hs
     obtain ⟨n, hn, rfl⟩ := List.getElem_of_mem hs
     exact hN.out n _ (by omega) (qzJ hn)
    unfold Hid; rw [hR3.out, this]; rfl
   have HU2 : Hid (Seg wr wr.heap.size 5 eU m.u c.un) := (HUZ.out.below hbr).more hbr.size
   clear hR3 hN gb2 gk2 HBZ HZ2 hbr HTZ HUZ
   obtain ⟨k0, k1, k2, k3, k4, k5, k6⟩ := coC (c := c) (m := m) (ga) rfl
   have c0 : wr.cell? ⟨bk, 0, none⟩ = some (.int .i64 x.k.kind) := (gk).cell 0
   have c1 : wr.cell? ⟨bk, 1, none⟩ = some (.int .i64 x.k.role) := (gk).cell 1
   have c2 : wr.cell? ⟨bk, 2, none⟩ = some (.int .i64 x.k.act) := (gk).cell 2
   have c3 : wr.cell? ⟨bk, 3, none⟩ = some (.int .i64 x.k.need) := (gk).cell 3
   have c4 : wr.cell? ⟨bk, 4, none⟩ = some (.slice x.A x.k.start.length x.cap) := (gk).cell 4
   have c5 : wr.cell? ⟨bk, 5, none⟩ = some (.int .i64 x.k.aft) := (gk).cell 5
   have c6 : wr.cell? ⟨bk, 6, none⟩ = some (.int .i64 x.k.grace) := (gk).cell 6
   have c7 : wr.cell? ⟨bk, 7, none⟩ = some (.bool x.k.bus) := (gk).cell 7
   have c8 : wr.cell? ⟨bk, 8, none⟩ = some (.bool x.k.fin) := (gk).cell 8
   have c9 : wr.cell? ⟨bk, 9, none⟩ = some (.int .i64 x.k.pause) := (gk).cell 9
   have c10 : wr.cell? ⟨bk, 10, none⟩ = some (.int .i64 x.k.resume) := (gk).cell 10
   have c11 : wr.cell? ⟨bk, 11, none⟩ = some (.int .i64 x.k.v.1) := (gk).cell 11
   have c12 : wr.cell? ⟨bk, 12, none⟩ = some (.int .i64 x.k.v.2) := (gk).cell 12
   have c13 : wr.cell? ⟨bk, 13, none⟩ = some (.int .i64 x.k.unit) := (gk).cell 13
   have c14 : wr.cell? ⟨bk, 14, none⟩ = some (.int .i64 x.k.to_) := (gk).cell 14
   have c15 : wr.cell? ⟨bk, 15, none⟩ = some (.bool x.k.waived) := (gk).cell 15
   have both : ((x.k.pause == -1) = true ∧ (x.k.resume == -1) = true) ∨ (x.k.pause == -1) = false ∨ ((x.k.pause == -1) = true ∧ (x.k.resume == -1) = false) := by cases (x.k.pause == -1) <;> cases (x.k.resume == -1) <;> simp
   rcases both with ⟨e1, e2⟩ | both
   ·have v1 : (x.k.pause != -1) = false := by rw [bne, e1]; rfl
    have v2 : (x.k.resume != -1) = false := by rw [bne, e2]; rfl
    have hR5 : Hid (R = (if x.k.unit == -1 then zer x.k.v && x.k.to_ == -1 else (x.k.kind == 1 || x.k.kind == 2) && isI x.k.unit c.un.length && (match c.un[x.k.unit.toNat]? with | some u => u.kind == 2 | none => false) && ps && mt)) := by unfold Hid; rw [hR4.out, e1, e2]; rfl
    clear hR4
    go_upto_region 15 with (fail)
    clear v1 v2 e1 e2
    cases q1 : (x.k.unit == -1) with
    | true =>
     by_cases q2 : x.k.v.1 = 0 ∧ x.k.v.2 = 1
     ·have heq : ∀ W, (Op.equalIn 10000 50 (.agg #[.int .i64 x.k.v.1, .int .i64 x.k.v.2]) (.agg #[.int .i64 0, .int .i64 1])).run Tryz.prog W = .ok true W := fun W => by rw [eqv2, qzO q2]
      have hf : Hid (R = (x.k.to_ == -1)) := by unfold Hid; rw [hR5.out, q1]; unfold zer; rw [q2.1, q2.2]; rfl
      clear q2 hR5
      go_upto_region 16 with (fail)
      have rg0 := cR c11
      have rg1 := cR c12
      have rg2 := cR c14
      refine xAe [0, 1, 2, 3, 4, 5, 6, 7, 8] [9] (by kernel_rfl) (by kernel_rfl) pO ?_
      simp only [xAm, qzA, qzB, qzC, qzD, qzE, qzF]
      repeat (go_big_quiet_step ((go_at_call 105; exact xAp (fun W' hW => HZ.out W' (xAa HBR.out hW)) _ _)))
      refine wpQuiet_nil ?_
      intro Q hw2
      have hbQ := xAh hw2
      clear hw2 rg0 rg1 rg2
      go_wp2
      go_ret
      exact ⟨xAb (by first | exact hf.out.symm | (rw [hf.out]; rfl) | (rw [hf.out]; simp)), xAa HBR.out hbQ⟩
     ·have heq : ∀ W, (Op.equalIn 10000 50 (.agg #[.int .i64 x.k.v.1, .int .i64 x.k.v.2]) (.agg #[.int .i64 0, .int .i64 1])).run Tryz.prog W = .ok false W := fun W => by rw [eqv2, qzN q2]
      have hf : Hid (R = false) := by
       have : zer x.k.v = false := by
        rw [Bool.eq_false_iff]
        intro h
        unfold zer at h
        simp only [Bool.and_eq_true, beq_iff_eq] at h
        exact q2 h
       unfold Hid; rw [hR5.out, q1, this]; rfl
      clear q2 hR5
      go_upto_region 16 with (fail)
      have rg0 := cR c11
      have rg1 := cR c12
      have rg2 := cR c14
      refine xAe [0, 1, 2, 3, 4, 5, 6, 7, 8] [9] (by kernel_rfl) (by kernel_rfl) pO ?_
      simp only [xAm, qzA, qzB, qzC, qzD, qzE, qzF]
      repeat (go_big_quiet_step ((go_at_call 105; exact xAp (fun W' hW => HZ.out W' (xAa HBR.out hW)) _ _)))
      refine wpQuiet_nil ?_
      intro Q hw2
      have hbQ := xAh hw2
      clear hw2 rg0 rg1 rg2
      go_wp2
      go_ret
      exact ⟨xAb (by first | exact hf.out.symm | (rw [hf.out]; rfl) | (rw [hf.out]; simp)), xAa HBR.out hbQ⟩
    | false =>
     have hR6 : Hid (R = ((x.k.kind == 1 || x.k.kind == 2) && isI x.k.unit c.un.length && (match c.un[x.k.unit.toNat]? with | some u => u.kind == 2 | none => false) && ps && mt)) := by unfold Hid; rw [hR5.out, q1]; rfl
     clear hR5
     have ways : ((x.k.kind == 1) = false ∧ (x.k.kind == 2) = false) ∨ (x.k.kind == 1) = true ∨ ((x.k.kind == 1) = false ∧ (x.k.kind == 2) = true) := by cases (x.k.kind == 1) <;> cases (x.k.kind == 2) <;> simp
     rcases ways with ⟨e1, e2⟩ | ways
     ·have hf : Hid (R = false) := by unfold Hid; rw [hR6.out, e1, e2]; rfl
      clear hR6
      go_wp2
      go_ret
      exact ⟨xAb hf.out.symm, HBR.out⟩
     ·have hR7 : Hid (R = (isI x.k.unit c.un.length && (match c.un[x.k.unit.toNat]? with | some u => u.kind == 2 | none => false) && ps && mt)) := by
       have : (x.k.kind == 1 || x.k.kind == 2) = true := by rcases ways with e | ⟨e, e'⟩ <;> simp [*]
       unfold Hid; rw [hR6.out, this]; rfl
      clear hR6
      by_cases n1 : 0 ≤ x.k.unit
      ·have t1 := qzO n1
       by_cases n2 : x.k.unit < c.un.length
       ·have t2 := qzO n2
        obtain ⟨n, hn⟩ := Int.eq_ofNat_of_zero_le n1
        have hnl : n < c.un.length := by omega
        obtain ⟨u, hu⟩ : ∃ u, c.un[n]? = some u := ⟨_, qzJ hnl⟩
        obtain ⟨b2, o2, eA2, hb2, hcu⟩ := xAx HU2.out hu
        have hixu := xAq (t := 23) (size := 5) (cap := m.uc) eA2 hnl (by kernel_rfl) (fun W => by kernel_rfl)
        have x1 : wr.cell? ⟨b2, o2 + n * 5 + 1, none⟩ = some (.int .i64 u.kind) := hcu 1 _ rfl
        have hR8 : Hid (R = (u.kind == 2 && ps && mt)) := by unfold Hid; rw [hR7.out, xCb.2 ⟨n1, n2⟩, hn, Int.toNat_natCast, hu]; rfl
        rw [← hn] at hixu
        clear hcu hu eA2 hR7 hn n1 n2
        cases m1 : (u.kind == 2) with
        | false =>
         have hf : Hid (R = false) := by unfold Hid; rw [hR8.out, m1]; rfl
         clear hR8
         rcases ways with e1 | ⟨e1, e2⟩
         all_goals
          go_wp2
          go_ret
          exact ⟨xAb hf.out.symm, HBR.out⟩
        | true =>
         cases ps with
         | false =>
          have hf : Hid (R = false) := by unfold Hid; rw [hR8.out, m1]; rfl
          clear hR8
          rcases ways with e1 | ⟨e1, e2⟩
          all_goals
           go_wp2_with (go_at_call 106; (with_reducible refine (HP.out _ HBR.out).mono ?_); rintro e w5 ⟨rfl, hb5⟩; obtain ⟨z0, z1, z2, z3, z4, z5, z6⟩ := coC (c := c) (m := m) ((ga).then_ hb5) rfl; have y14 : w5.cell? ⟨bk, 14, none⟩ = some (.int .i64 x.k.to_) := ((gk).then_ hb5).cell 14)
           go_ret
           exact ⟨xAb hf.out.symm, xAa HBR.out hb5⟩
         | true =>
          have hf : Hid (R = mt) := by unfold Hid; rw [hR8.out, m1]; rfl
          clear hR8
          rcases ways with e1 | ⟨e1, e2⟩
          all_goals
           go_wp2_with (first | (go_at_call 106; (with_reducible refine (HP.out _ HBR.out).mono ?_); rintro e w5 ⟨rfl, hb5⟩; obtain ⟨z0, z1, z2, z3, z4, z5, z6⟩ := coC (c := c) (m := m) ((ga).then_ hb5) rfl; have y14 : w5.cell? ⟨bk, 14, none⟩ = some (.int .i64 x.k.to_) := ((gk).then_ hb5).cell 14) | (go_at_call 107; (with_reducible refine (HM.out _ (xAa HBR.out hb5)).mono ?_); rintro e w6 ⟨rfl, hb6⟩))
           go_ret
           exact ⟨xAb hf.out.symm, xAa (xAa HBR.out hb5) hb6⟩
       ·have t2 := qzN n2
        have hf : Hid (R = false) := by unfold Hid; rw [hR7.out, show isI x.k.unit c.un.length = false by unfold isI; rw [qzN n2, Bool.and_false]]; rfl
        clear hR7
        rcases ways with e1 | ⟨e1, e2⟩
        all_goals
         go_wp2
         go_ret
         exact ⟨xAb hf.out.symm, HBR.out⟩
      ·have t1 := qzN n1
       have hf : Hid (R = false) := by unfold Hid; rw [hR7.out, show isI x.k.unit c.un.length = false by unfold isI; rw [qzN n1]; rfl]; rfl
       clear hR7
       rcases ways with e1 | ⟨e1, e2⟩
       all_goals
        go_wp2
        go_ret
        exact ⟨xAb hf.out.symm, HBR.out⟩
   ·have hb0 : (x.k.pause == -1 && x.k.resume == -1) = false := by
     rcases both with e | ⟨e, e'⟩
     ·rw [e]; rfl
     ·rw [e, e']; rfl
    have hR5 : Hid (R = ((x.k.pause != x.k.resume && np && nr) && (if x.k.unit == -1 then zer x.k.v && x.k.to_ == -1 else (x.k.kind == 1 || x.k.kind == 2) && isI x.k.unit c.un.length && (match c.un[x.k.unit.toNat]? with | some u => u.kind == 2 | none => false) && ps && mt))) := by unfold Hid; rw [hR4.out, hb0]; rfl
    clear hR4 hb0
    have vw : ((x.k.pause != -1) = true) ∨ ((x.k.pause != -1) = false ∧ (x.k.resume != -1) = true) := by
     rcases both with e | ⟨e, e'⟩
     ·left; rw [bne, e]; rfl
     ·right; rw [bne, bne, e, e']; exact ⟨rfl, rfl⟩
    clear both
    cases e3 : (x.k.pause == x.k.resume) with
    | true =>
     have hf : Hid (R = false) := by unfold Hid; rw [hR5.out, bne, e3]; rfl
     clear hR5
     rcases vw with v1 | ⟨v1, v2⟩
     all_goals
      go_wp2
      go_ret
      exact ⟨xAb hf.out.symm, HBR.out⟩
    | false =>
     cases np with
     | false =>
      have hf : Hid (R = false) := by unfold Hid; rw [hR5.out, Bool.and_false]; rfl
      clear hR5
      rcases vw with v1 | ⟨v1, v2⟩
      all_goals
       go_wp2_with (go_at_call 104; (with_reducible refine (HNp.out _ HBR.out).mono ?_); rintro e w3 ⟨rfl, hb3⟩; obtain ⟨z0, z1, z2, z3, z4, z5, z6⟩ := coC (c := c) (m := m) (ga.then_ hb3) rfl; have y10 : w3.cell? ⟨bk, 10, none⟩ = some (.int .i64 x.k.resume) := (gk.then_ hb3).cell 10)
       go_ret
       exact ⟨xAb hf.out.symm, xAa HBR.out hb3⟩
     | true =>
      cases nr with
      | false =>
       have hf : Hid (R = false) := by unfold Hid; rw [hR5.out, Bool.and_false]; rfl
       clear hR5
       rcases vw with v1 | ⟨v1, v2⟩
       all_goals
        go_wp2_with (first | (go_at_call 104; (with_reducible refine (HNp.out _ HBR.out).mono ?_); rintro e w3 ⟨rfl, hb3⟩; obtain ⟨z0, z1, z2, z3, z4, z5, z6⟩ := coC (c := c) (m := m) (ga.then_ hb3) rfl; have y10 : w3.cell? ⟨bk, 10, none⟩ = some (.int .i64 x.k.resume) := (gk.then_ hb3).cell 10) | (go_at_call 104; (with_reducible refine (HNr.out _ (xAa HBR.out hb3)).mono ?_); rintro e w4 ⟨rfl, hb4⟩))
        go_ret
        exact ⟨xAb hf.out.symm, xAa (xAa HBR.out hb3) hb4⟩
      | true =>
       have hR6 := hR5
       clear hR5
       have hR5 : Hid (R = (if x.k.unit == -1 then zer x.k.v && x.k.to_ == -1 else (x.k.kind == 1 || x.k.kind == 2) && isI x.k.unit c.un.length && (match c.un[x.k.unit.toNat]? with | some u => u.kind == 2 | none => false) && ps && mt)) := by unfold Hid; rw [hR6.out, bne, e3]; rfl
       clear hR6
       rcases vw with v1 | ⟨v1, v2⟩
       all_goals
        go_upto_region 15 with (first | (go_at_call 104; (with_reducible refine (HNp.out _ HBR.out).mono ?_); rintro e w3 ⟨rfl, hb3⟩; obtain ⟨z0, z1, z2, z3, z4, z5, z6⟩ := coC (c := c) (m := m) (ga.then_ hb3) rfl; have y10 : w3.cell? ⟨bk, 10, none⟩ = some (.int .i64 x.k.resume) := (gk.then_ hb3).cell 10) | (go_at_call 104; (with_reducible refine (HNr.out _ (xAa HBR.out hb3)).mono ?_); rintro e w4 ⟨rfl, hb4⟩))
        refine xAf ?_
        intro U hU
        have gau : Blk U ba 27 (coA c m) := by rw [hU]; exact (ga.then_ hb3).then_ hb4
        have gku : Blk U bk 52 (kL x).toArray := by rw [hU]; exact (gk.then_ hb3).then_ hb4
        have HBU : Hid (Below w.heap.size w U) := by rw [hU]; exact xAa (xAa HBR.out hb3) hb4
        have HU3 : Hid (Seg U U.heap.size 5 eU m.u c.un) := by rw [hU]; exact (((HU2.out.below hb3).more hb3.size).below hb4).more hb4.size
        clear hU hb3 hb4 ga gk HBR HU2 v1 e3 k0 k1 k2 k3 k4 k5 k6 c0 c1 c2 c3 c4 c5 c6 c7 c8 c9 c10 c11 c12 c13 c14 c15
        have HU2 := HU3
        clear HU3
        obtain ⟨k0, k1, k2, k3, k4, k5, k6⟩ := coC (c := c) (m := m) (gau) rfl
        have c0 : U.cell? ⟨bk, 0, none⟩ = some (.int .i64 x.k.kind) := (gku).cell 0
        have c1 : U.cell? ⟨bk, 1, none⟩ = some (.int .i64 x.k.role) := (gku).cell 1
        have c2 : U.cell? ⟨bk, 2, none⟩ = some (.int .i64 x.k.act) := (gku).cell 2
        have c3 : U.cell? ⟨bk, 3, none⟩ = some (.int .i64 x.k.need) := (gku).cell 3
        have c4 : U.cell? ⟨bk, 4, none⟩ = some (.slice x.A x.k.start.length x.cap) := (gku).cell 4
        have c5 : U.cell? ⟨bk, 5, none⟩ = some (.int .i64 x.k.aft) := (gku).cell 5
        have c6 : U.cell? ⟨bk, 6, none⟩ = some (.int .i64 x.k.grace) := (gku).cell 6
        have c7 : U.cell? ⟨bk, 7, none⟩ = some (.bool x.k.bus) := (gku).cell 7
        have c8 : U.cell? ⟨bk, 8, none⟩ = some (.bool x.k.fin) := (gku).cell 8
        have c9 : U.cell? ⟨bk, 9, none⟩ = some (.int .i64 x.k.pause) := (gku).cell 9
        have c10 : U.cell? ⟨bk, 10, none⟩ = some (.int .i64 x.k.resume) := (gku).cell 10
        have c11 : U.cell? ⟨bk, 11, none⟩ = some (.int .i64 x.k.v.1) := (gku).cell 11
        have c12 : U.cell? ⟨bk, 12, none⟩ = some (.int .i64 x.k.v.2) := (gku).cell 12
        have c13 : U.cell? ⟨bk, 13, none⟩ = some (.int .i64 x.k.unit) := (gku).cell 13
        have c14 : U.cell? ⟨bk, 14, none⟩ = some (.int .i64 x.k.to_) := (gku).cell 14
        have c15 : U.cell? ⟨bk, 15, none⟩ = some (.bool x.k.waived) := (gku).cell 15
        cases q1 : (x.k.unit == -1) with
        | true =>
         by_cases q2 : x.k.v.1 = 0 ∧ x.k.v.2 = 1
         ·have heq : ∀ W, (Op.equalIn 10000 50 (.agg #[.int .i64 x.k.v.1, .int .i64 x.k.v.2]) (.agg #[.int .i64 0, .int .i64 1])).run Tryz.prog W = .ok true W := fun W => by rw [eqv2, qzO q2]
          have hf : Hid (R = (x.k.to_ == -1)) := by unfold Hid; rw [hR5.out, q1]; unfold zer; rw [q2.1, q2.2]; rfl
          clear q2 hR5
          go_upto_region 16 with (fail)
          have rg0 := cR c11
          have rg1 := cR c12
          have rg2 := cR c14
          refine xAe [0, 1, 2, 3, 4, 5, 6, 7, 8] [9] (by kernel_rfl) (by kernel_rfl) pO ?_
          simp only [xAm, qzA, qzB, qzC, qzD, qzE, qzF]
          repeat (go_big_quiet_step ((go_at_call 105; exact xAp (fun W' hW => HZ.out W' (xAa HBU.out hW)) _ _)))
          refine wpQuiet_nil ?_
          intro Q hw2
          have hbQ := xAh hw2
          clear hw2 rg0 rg1 rg2
          go_wp2
          go_ret
          exact ⟨xAb (by first | exact hf.out.symm | (rw [hf.out]; rfl) | (rw [hf.out]; simp)), xAa HBU.out hbQ⟩
         ·have heq : ∀ W, (Op.equalIn 10000 50 (.agg #[.int .i64 x.k.v.1, .int .i64 x.k.v.2]) (.agg #[.int .i64 0, .int .i64 1])).run Tryz.prog W = .ok false W := fun W => by rw [eqv2, qzN q2]
          have hf : Hid (R = false) := by
           have : zer x.k.v = false := by
            rw [Bool.eq_false_iff]
            intro h
            unfold zer at h
            simp only [Bool.and_eq_true, beq_iff_eq] at h
            exact q2 h
           unfold Hid; rw [hR5.out, q1, this]; rfl
          clear q2 hR5
          go_upto_region 16 with (fail)
          have rg0 := cR c11
          have rg1 := cR c12
          have rg2 := cR c14
          refine xAe [0, 1, 2, 3, 4, 5, 6, 7, 8] [9] (by kernel_rfl) (by kernel_rfl) pO ?_
          simp only [xAm, qzA, qzB, qzC, qzD, qzE, qzF]
          repeat (go_big_quiet_step ((go_at_call 105; exact xAp (fun W' hW => HZ.out W' (xAa HBU.out hW)) _ _)))
          refine wpQuiet_nil ?_
          intro Q hw2
          have hbQ := xAh hw2
          clear hw2 rg0 rg1 rg2
          go_wp2
          go_ret
          exact ⟨xAb (by first | exact hf.out.symm | (rw [hf.out]; rfl) | (rw [hf.out]; simp)), xAa HBU.out hbQ⟩
        | false =>
         have hR6 : Hid (R = ((x.k.kind == 1 || x.k.kind == 2) && isI x.k.unit c.un.length && (match c.un[x.k.unit.toNat]? with | some u => u.kind == 2 | none => false) && ps && mt)) := by unfold Hid; rw [hR5.out, q1]; rfl
         clear hR5
         have ways : ((x.k.kind == 1) = false ∧ (x.k.kind == 2) = false) ∨ (x.k.kind == 1) = true ∨ ((x.k.kind == 1) = false ∧ (x.k.kind == 2) = true) := by cases (x.k.kind == 1) <;> cases (x.k.kind == 2) <;> simp
         rcases ways with ⟨e1, e2⟩ | ways
         ·have hf : Hid (R = false) := by unfold Hid; rw [hR6.out, e1, e2]; rfl
          clear hR6
          go_wp2
          go_ret
          exact ⟨xAb hf.out.symm, HBU.out⟩
         ·have hR7 : Hid (R = (isI x.k.unit c.un.length && (match c.un[x.k.unit.toNat]? with | some u => u.kind == 2 | none => false) && ps && mt)) := by
           have : (x.k.kind == 1 || x.k.kind == 2) = true := by rcases ways with e | ⟨e, e'⟩ <;> simp [*]
           unfold Hid; rw [hR6.out, this]; rfl
          clear hR6
          by_cases n1 : 0 ≤ x.k.unit
          ·have t1 := qzO n1
           by_cases n2 : x.k.unit < c.un.length
           ·have t2 := qzO n2
            obtain ⟨n, hn⟩ := Int.eq_ofNat_of_zero_le n1
            have hnl : n < c.un.length := by omega
            obtain ⟨u, hu⟩ : ∃ u, c.un[n]? = some u := ⟨_, qzJ hnl⟩
            obtain ⟨b2, o2, eA2, hb2, hcu⟩ := xAx HU2.out hu
            have hixu := xAq (t := 23) (size := 5) (cap := m.uc) eA2 hnl (by kernel_rfl) (fun W => by kernel_rfl)
            have x1 : U.cell? ⟨b2, o2 + n * 5 + 1, none⟩ = some (.int .i64 u.kind) := hcu 1 _ rfl
            have hR8 : Hid (R = (u.kind == 2 && ps && mt)) := by unfold Hid; rw [hR7.out, xCb.2 ⟨n1, n2⟩, hn, Int.toNat_natCast, hu]; rfl
            rw [← hn] at hixu
            clear hcu hu eA2 hR7 hn n1 n2
            cases m1 : (u.kind == 2) with
            | false =>
             have hf : Hid (R = false) := by unfold Hid; rw [hR8.out, m1]; rfl
             clear hR8
             rcases ways with e1 | ⟨e1, e2⟩
             all_goals
              go_wp2
              go_ret
              exact ⟨xAb hf.out.symm, HBU.out⟩
            | true =>
             cases ps with
             | false =>
              have hf : Hid (R = false) := by unfold Hid; rw [hR8.out, m1]; rfl
              clear hR8
              rcases ways with e1 | ⟨e1, e2⟩
              all_goals
               go_wp2_with (go_at_call 106; (with_reducible refine (HP.out _ HBU.out).mono ?_); rintro e w5 ⟨rfl, hb5⟩; obtain ⟨z0, z1, z2, z3, z4, z5, z6⟩ := coC (c := c) (m := m) ((gau).then_ hb5) rfl; have y14 : w5.cell? ⟨bk, 14, none⟩ = some (.int .i64 x.k.to_) := ((gku).then_ hb5).cell 14)
               go_ret
               exact ⟨xAb hf.out.symm, xAa HBU.out hb5⟩
             | true =>
              have hf : Hid (R = mt) := by unfold Hid; rw [hR8.out, m1]; rfl
              clear hR8
              rcases ways with e1 | ⟨e1, e2⟩
              all_goals
               go_wp2_with (first | (go_at_call 106; (with_reducible refine (HP.out _ HBU.out).mono ?_); rintro e w5 ⟨rfl, hb5⟩; obtain ⟨z0, z1, z2, z3, z4, z5, z6⟩ := coC (c := c) (m := m) ((gau).then_ hb5) rfl; have y14 : w5.cell? ⟨bk, 14, none⟩ = some (.int .i64 x.k.to_) := ((gku).then_ hb5).cell 14) | (go_at_call 107; (with_reducible refine (HM.out _ (xAa HBU.out hb5)).mono ?_); rintro e w6 ⟨rfl, hb6⟩))
               go_ret
               exact ⟨xAb hf.out.symm, xAa (xAa HBU.out hb5) hb6⟩
           ·have t2 := qzN n2
            have hf : Hid (R = false) := by unfold Hid; rw [hR7.out, show isI x.k.unit c.un.length = false by unfold isI; rw [qzN n2, Bool.and_false]]; rfl
            clear hR7
            rcases ways with e1 | ⟨e1, e2⟩
            all_goals
             go_wp2
             go_ret
             exact ⟨xAb hf.out.symm, HBU.out⟩
          ·have t1 := qzN n1
           have hf : Hid (R = false) := by unfold Hid; rw [hR7.out, show isI x.k.unit c.un.length = false by unfold isI; rw [qzN n1]; rfl]; rfl
           clear hR7
           rcases ways with e1 | ⟨e1, e2⟩
           all_goals
            go_wp2
            go_ret
            exact ⟨xAb hf.out.symm, HBU.out⟩
end Go.Proofs.YtginnonjdbpamaaGreatDoor
