/- Contracts of functions and plain laws, joined: Kb8, Kb9, Kba, Pk3, Own, Own2, Hb. -/
import Derived.Test.YtffceokjeonpcaaGreatDoorMb3
import Derived.Test.YtffceokjeonpcaaGreatDoorMb2
import Derived.OwnWalk
import Derived.Deep.AppendLies
import Derived.Deep.RegionHeld
import Derived.Test.YtffceokjeonpcaaGreatDoorMb1
set_option maxHeartbeats 6400000
set_option maxRecDepth 100000
namespace Go.Proofs.YtffceokjeonpcaaGreatDoor
open Go.RowKit
theorem el7 : ElT Tryz.prog 92 7 := ⟨⟨_, Tryz.underlying92⟩, by kernel_rfl, ⟨.agg #[.int .i64 0, .int .i64 0, .int .i64 0, .int .i64 0, .int .i64 0, .int .i64 0, .int .i64 0], rfl, fun w => by kernel_rfl⟩⟩
abbrev aL (x : Atc) : List Value := [.int .i64 x.kind, .int .i64 x.role, .int .i64 x.give, .int .i64 x.to_, .int .i64 x.unit, .int .i64 x.lot.1, .int .i64 x.lot.2]
def lastO : Int → List Int → Int
 | d, [] => d
 | _, x :: l => lastO x l
theorem framed_key (c : Con) (m : Cm) (hd uo : Bool) (w : World) (hA : Seg w w.heap.size 7 eA m.a c.ac) (hO : Seg w w.heap.size 1 eI m.o c.off) (na : c.ac.length ≤ 1000000) (no : c.off.length ≤ 1000000)
  (HH : Hid (∀ W, Below w.heap.size w W → Calls Tryz.prog 87 #[.agg (coA c m)] W fun e w' => e = .returned (.bool hd) ∧ Below W.heap.size W w')) (HQ : Hid (∀ W, Below w.heap.size w W → Calls Tryz.prog 88 #[.slice m.u c.un.length m.uc] W fun e w' => (∃ k : Int, e = .returned (.tuple #[.int .i64 k, .bool uo])) ∧ Below W.heap.size W w'))
  (HA : Hid (∀ x ∈ c.ac, ∀ W, Below w.heap.size w W → Calls Tryz.prog 89 #[.agg (coA c m), .agg (aA x)] W fun e w' => e = .returned (.bool (c.actOk x)) ∧ Below W.heap.size W w'))
  (R : Bool) (hR : Hid (R = (decide (1 ≤ c.par) && decide (1 ≤ c.days) && decide (0 < c.hold.length) && hd && uo && c.ac.all c.actOk && incO c.days (-1) c.off))) :
  Calls Tryz.prog 61 #[.agg (coA c m)] w fun e w' => e = .returned (.bool R) ∧ Below w.heap.size w w' := by
 have HSA := qzL hA
 have HSO := qzL hO
 clear hA hO
 go_enter Tryz.func61, Tryz.ntmps61
 go_upto_region 1 with (fail)
 refine xAi ?_
 intro X hX
 have ga : Blk X w.heap.size 27 (coA c m) := by rw [hX]; exact Blk.new _ _ _
 have HB : Below w.heap.size w X := by rw [hX]; exact wa1 _ _
 obtain ⟨ba, eb⟩ : ∃ b, w.heap.size = b := ⟨_, rfl⟩
 rw [eb] at ga ⊢
 clear hX eb
 obtain ⟨k0, k1, k2, k3, k4, k5, k6⟩ := coC (c := c) (m := m) (ga) rfl
 by_cases p1 : c.par < 1
 ·have t1 := qzO p1
  have hf : Hid (R = false) := by unfold Hid; rw [hR.out, qzN (show ¬ 1 ≤ c.par by omega)]; rfl
  clear p1
  go_wp2
  go_ret
  exact ⟨xAb hf.out.symm, HB⟩
 have t1 := qzN p1
 by_cases p2 : c.days < 1
 ·have t2 := qzO p2
  have hf : Hid (R = false) := by unfold Hid; rw [hR.out, qzN (show ¬ 1 ≤ c.days by omega)]; simp
  clear p1 p2
  go_wp2
  go_ret
  exact ⟨xAb hf.out.symm, HB⟩
 have t2 := qzN p2
 cases p3 : ((c.hold.length : Int) == 0) with
 | true =>
  have hf : Hid (R = false) := by
   have : ¬ 0 < c.hold.length := by simp at p3; simp [p3]
   unfold Hid; rw [hR.out, qzN this]; simp
  clear p1 p2
  go_wp2
  go_ret
  exact ⟨xAb hf.out.symm, HB⟩
 | false =>
 have p4 : 0 < c.hold.length := by
  rcases Nat.eq_zero_or_pos c.hold.length with h | h
  ·rw [h] at p3; cases p3
  ·exact h
 have hR2 : Hid (R = (hd && uo && c.ac.all c.actOk && incO c.days (-1) c.off)) := by
  unfold Hid; rw [hR.out, qzO (show 1 ≤ c.par by omega), qzO (show 1 ≤ c.days by omega), qzO p4]; simp only [Bool.true_and]
 clear hR p1 p2 p4
 cases hd with
 | false =>
  have hf : Hid (R = false) := by unfold Hid; rw [hR2.out]; rfl
  go_wp2_with (go_at_call 87; (with_reducible refine (HH.out _ HB).mono ?_); rintro e w1 ⟨rfl, hbw1⟩)
  go_ret
  exact ⟨xAb hf.out.symm, xAa HB hbw1⟩
 | true =>
 go_upto_region 3 with (go_at_call 87; (with_reducible refine (HH.out _ HB).mono ?_); rintro e w1 ⟨rfl, hbw1⟩)
 refine xAi ?_
 intro Y hY
 have gb : Blk Y ba 27 (coA c m) := by rw [hY]; exact ga.then_ hbw1
 have HY : Below w.heap.size w Y := by rw [hY]; exact xAa HB hbw1
 clear hY hbw1 ga HB k0 k1 k2 k3 k4 k5 k6 t1 t2 p3 HH
 obtain ⟨k0, k1, k2, k3, k4, k5, k6⟩ := coC (c := c) (m := m) (gb) rfl
 have HQ2 := HQ.out Y HY
 clear HQ
 cases uo with
 | false =>
  have hf : Hid (R = false) := by unfold Hid; rw [hR2.out]; rfl
  go_wp2_with (go_at_call 88; (with_reducible refine HQ2.mono ?_); rintro e w1 ⟨⟨kk, rfl⟩, hbw1⟩)
  go_ret
  exact ⟨xAb hf.out.symm, xAa HY hbw1⟩
 | true =>
 go_upto_region 6 with (go_at_call 88; (with_reducible refine HQ2.mono ?_); rintro e w1 ⟨⟨kk, rfl⟩, hbw1⟩)
 refine xAi ?_
 intro Z hZ
 have gz : Blk Z ba 27 (coA c m) := by rw [hZ]; exact gb.then_ hbw1
 have HZ : Hid (Below w.heap.size w Z) := by rw [hZ]; exact xAa HY hbw1
 have lz : w.heap.size ≤ Z.heap.size := HZ.out.size
 clear hZ hbw1 gb HY k0 k1 k2 k3 k4 k5 k6 HQ2
 have k3 : Z.cell? ⟨ba, 3, none⟩ = some (.slice m.a c.ac.length m.ac) := gz.cell 3
 go_upto_region 7 with (fail)
 clear k3
 go_loopw [40] (fun y WR => ∃ j : Nat, j ≤ c.ac.length ∧ y = .int .i64 j ∧ Hid (∀ i x, i < j → c.ac[i]? = some x → c.actOk x = true) ∧ Below Z.heap.size Z WR) (fun y _ => 2000000 - (intOf y).toNat)
 case atStart => exact ⟨0, by omega, rfl, fun i u h => absurd h (by omega), Below.refl _ _⟩
 case round =>
  obtain ⟨j, hj, rfl, hN, hbr⟩ := hrel
  have gr := gz.then_ hbr
  have HBR := qzL (xAa HZ.out hbr)
  have HBZ := qzL hbr
  have lgr := gr.lt
  have lwr : w.heap.size ≤ wr.heap.size := HBR.out.size
  clear hbr
  by_cases hlt : j < c.ac.length
  ·have tj : decide ((j : Int) < (c.ac.length : Int)) = true := qzO (by omega)
   obtain ⟨x, hx⟩ : ∃ x, c.ac[j]? = some x := ⟨_, qzJ hlt⟩
   obtain ⟨b0, o0, eA0, hb0, hc⟩ := xAv (HSA.out.below HBR.out) hx
   have hrg : wr.rangeAt b0 (o0 + j * 7) (aL x) := fun j v hv => hc j v hv
   have HX := qzL hx
   have HC := qzL (HA.out x (qzK hx))
   have hix := xAp (t := 24) (size := 7) (cap := m.ac) eA0 hlt (by kernel_rfl) (fun W => by kernel_rfl)
   clear hc hx eA0
   cases hq : c.actOk x with
   | true =>
    rw [hq] at HC
    go_upto_region 9 with ((refine xAm 92 el7 _ _ _ rfl rfl rfl rfl rfl rfl rfl rfl rfl b0 _ rfl (aL x) rfl hrg (by simp [Value.oneCell']) (by decide) (by simp) (by simp) ?_; simp only [Act.put, qzG, qzH, qzI]))
    refine xAi ?_
    intro V hV
    have gv : Blk V ba 27 (coA c m) := by rw [hV]; exact gr.alloc _
    have gx : Blk V wr.heap.size 92 (aL x).toArray := by rw [hV]; exact Blk.new _ _ _
    have HV : Hid (Below wr.heap.size wr V) := by rw [hV]; exact wa1 _ _
    obtain ⟨bx, ex⟩ : ∃ b, wr.heap.size = b := ⟨_, rfl⟩
    rw [ex] at gx ⊢
    clear hV ex gr hrg hix
    obtain ⟨k0, k1, k2, k3, k4, k5, k6⟩ := coC (c := c) (m := m) (gv) rfl
    obtain ⟨j0, j1, j2, j3, j4, j5, j6⟩ := atC (c := x) gx rfl
    go_wp2_with (go_at_call 89; (with_reducible refine (HC.out _ (xAa HBR.out HV.out)).mono ?_); rintro e w1 ⟨rfl, hbw1⟩)
    go_roundw
    case rel => exact ⟨j + 1, by omega, by simp, fun i y hi hy => by
     by_cases h : i = j
     ·subst h
      rw [HX.out] at hy
      injection hy with hy
      subst hy
      exact hq
     ·exact hN.out i y (by omega) hy, xAa (xAa HBZ.out HV.out) hbw1⟩
    case measure => simp [intOf]; omega
   | false =>
    rw [hq] at HC
    have hf : Hid (R = false) := by
     have : c.ac.all c.actOk = false := by
      rw [Bool.eq_false_iff]
      intro h
      rw [List.all_eq_true] at h
      have := h x (qzK HX.out)
      rw [hq] at this
      cases this
     unfold Hid; rw [hR2.out, this]; rfl
    go_upto_region 9 with ((refine xAm 92 el7 _ _ _ rfl rfl rfl rfl rfl rfl rfl rfl rfl b0 _ rfl (aL x) rfl hrg (by simp [Value.oneCell']) (by decide) (by simp) (by simp) ?_; simp only [Act.put, qzG, qzH, qzI]))
    refine xAi ?_
    intro V hV
    have gv : Blk V ba 27 (coA c m) := by rw [hV]; exact gr.alloc _
    have gx : Blk V wr.heap.size 92 (aL x).toArray := by rw [hV]; exact Blk.new _ _ _
    have HV : Hid (Below wr.heap.size wr V) := by rw [hV]; exact wa1 _ _
    obtain ⟨bx, ex⟩ : ∃ b, wr.heap.size = b := ⟨_, rfl⟩
    rw [ex] at gx ⊢
    clear hV ex gr hrg hix
    obtain ⟨k0, k1, k2, k3, k4, k5, k6⟩ := coC (c := c) (m := m) (gv) rfl
    obtain ⟨j0, j1, j2, j3, j4, j5, j6⟩ := atC (c := x) gx rfl
    go_wp2_with (go_at_call 89; (with_reducible refine (HC.out _ (xAa HBR.out HV.out)).mono ?_); rintro e w1 ⟨rfl, hbw1⟩)
    go_ret
    exact ⟨xAb hf.out.symm, xAa (xAa HBR.out HV.out) hbw1⟩
  ·have tj : decide ((j : Int) < (c.ac.length : Int)) = false := qzN (by omega)
   have hR3 : Hid (R = incO c.days (-1) c.off) := by
    have : c.ac.all c.actOk = true := by
     rw [List.all_eq_true]
     intro x hx
     obtain ⟨i, hi, rfl⟩ := List.getElem_of_mem hx
     exact hN.out i _ (by omega) (qzJ hi)
    unfold Hid; rw [hR2.out, this]; rfl
   have k5 : wr.cell? ⟨ba, 5, none⟩ = some (.int .i64 c.days) := gr.cell 5
   have k6 : wr.cell? ⟨ba, 6, none⟩ = some (.slice m.o c.off.length m.oc) := gr.cell 6
   have HS2 : Hid (Seg wr wr.heap.size 1 eI m.o c.off) := (HSO.out.below HBR.out).more HBR.out.size
   clear hR2 hN gr gz HBZ HZ lz HSA HSO HA
   go_upto_region 14 with (fail)
   go_loopw [52, 7] (fun y v WR => ∃ (n : Nat) (last : Int), n ≤ c.off.length ∧ y = .int .i64 n ∧ v = .int .i64 last ∧ Hid (incO c.days (-1) c.off = incO c.days last (c.off.drop n)) ∧ WR = wr) (fun y _ _ => 2000000 - (intOf y).toNat)
   case atStart => exact ⟨0, -1, by omega, rfl, rfl, rfl, rfl⟩
   case round =>
    obtain ⟨n, last, hn, rfl, rfl, hI, rfl⟩ := hrel
    by_cases hlt : n < c.off.length
    ·have tn : decide ((n : Int) < (c.off.length : Int)) = true := qzO (by omega)
     obtain ⟨x, hx⟩ : ∃ x, c.off[n]? = some x := ⟨_, qzJ hlt⟩
     have hdr : c.off.drop n = x :: c.off.drop (n + 1) := by
      rw [List.drop_eq_getElem_cons hlt]
      rw [qzJ hlt] at hx
      injection hx with hx
      rw [hx]
     obtain ⟨b0, o0, eA0, hb0, hc⟩ := xAv HS2.out hx
     have x0 : wr.cell? ⟨b0, o0 + n, none⟩ = some (.int .i64 x) := by simpa using hc 0 _ rfl
     have HD : Hid (incO c.days (-1) c.off = (decide (last < x) && decide (x < c.days) && incO c.days x (c.off.drop (n + 1)))) := by unfold Hid; rw [hI.out, hdr]; rfl
     have hix := fun W => xAp (t := 22) (size := 1) (cap := m.oc) eA0 hlt (by kernel_rfl) (fun W => by kernel_rfl) W
     simp only [Nat.mul_one] at hix
     clear hc hx hdr hI eA0
     by_cases q1 : x ≤ last
     ·have u1 := qzO q1
      have hf : Hid (R = false) := by unfold Hid; rw [hR3.out, HD.out, qzN (show ¬ last < x by omega)]; rfl
      clear q1
      go_wp2
      go_ret
      exact ⟨xAb hf.out.symm, HBR.out⟩
     ·have u1 := qzN q1
      by_cases q2 : c.days ≤ x
      ·have u2 := qzO q2
       have hf : Hid (R = false) := by unfold Hid; rw [hR3.out, HD.out, qzN (show ¬ x < c.days by omega)]; simp
       clear q1 q2
       go_wp2
       go_ret
       exact ⟨xAb hf.out.symm, HBR.out⟩
      ·have u2 := qzN q2
       have HE : Hid (incO c.days (-1) c.off = incO c.days x (c.off.drop (n + 1))) := by unfold Hid; rw [HD.out, qzO (show last < x by omega), qzO (show x < c.days by omega)]; rfl
       clear q1 q2 HD
       go_wp2
       go_roundw
       case rel => exact ⟨n + 1, x, by omega, by simp, rfl, HE.out, by first | trivial | rfl⟩
       case measure => simp [intOf]; omega
    ·have tn : decide ((n : Int) < (c.off.length : Int)) = false := qzN (by omega)
     have hf : Hid (R = true) := by unfold Hid; rw [hR3.out, hI.out, List.drop_eq_nil_of_le (by omega)]; rfl
     go_wp2
     go_ret
     exact ⟨xAb hf.out.symm, HBR.out⟩
theorem el16 : ElT Tryz.prog 95 16 := ⟨⟨_, Tryz.underlying95⟩, by kernel_rfl, ⟨.agg #[.int .i64 0, .int .i64 0, .int .i64 0, .int .i64 0, .slice none 0 0, .int .i64 0, .int .i64 0, .bool false, .bool false, .int .i64 0, .int .i64 0, .int .i64 0, .int .i64 0, .int .i64 0, .int .i64 0, .bool false], rfl, fun w => by kernel_rfl⟩⟩
theorem elS : ElT Tryz.prog 143 2 := ⟨⟨_, Tryz.underlying143⟩, by kernel_rfl, ⟨.agg #[.int .i64 0, .int .i64 0], rfl, fun w => by kernel_rfl⟩⟩
abbrev kL (x : Km) : List Value := [.int .i64 x.k.kind, .int .i64 x.k.role, .int .i64 x.k.act, .int .i64 x.k.need, .slice x.A x.k.start.length x.cap, .int .i64 x.k.aft, .int .i64 x.k.grace, .bool x.k.bus, .bool x.k.fin, .int .i64 x.k.pause, .int .i64 x.k.resume, .int .i64 x.k.v.1, .int .i64 x.k.v.2, .int .i64 x.k.unit, .int .i64 x.k.to_, .bool x.k.waived]
abbrev sL (s : Int × Int) : List Value := [.int .i64 s.1, .int .i64 s.2]
theorem cla_key (c : Con) (m : Cm) (i : Nat) (x : Km) (kd np nr ps mt : Bool) (w : World) (hx : m.ks[i]? = some x) (hi : i < c.cl.length) (hS : Seg w w.heap.size 16 eK m.k m.ks) (hT : Seg w w.heap.size 2 eS x.A x.k.start) (hU : Seg w w.heap.size 5 eU m.u c.un) (_nk : c.cl.length ≤ 1000000)
  (HK : Hid (∀ W, Below w.heap.size w W → Calls Tryz.prog 90 #[.agg (coA c m), .agg (kA x)] W fun e w' => e = .returned (.bool kd) ∧ Below W.heap.size W w')) (HNp : Hid (∀ W, Below w.heap.size w W → Calls Tryz.prog 91 #[.agg (coA c m), .int .i64 x.k.pause] W fun e w' => e = .returned (.bool np) ∧ Below W.heap.size W w')) (HNr : Hid (∀ W, Below w.heap.size w W → Calls Tryz.prog 91 #[.agg (coA c m), .int .i64 x.k.resume] W fun e w' => e = .returned (.bool nr) ∧ Below W.heap.size W w')) (HZ : Hid (∀ W, Below w.heap.size w W → Calls Tryz.prog 92 #[] W fun e w' => e = .returned (.agg #[.int .i64 0, .int .i64 1]) ∧ Below W.heap.size W w')) (HP : Hid (∀ W, Below w.heap.size w W → Calls Tryz.prog 93 #[.agg #[.int .i64 x.k.v.1, .int .i64 x.k.v.2]] W fun e w' => e = .returned (.bool ps) ∧ Below W.heap.size W w')) (HM : Hid (∀ W, Below w.heap.size w W → Calls Tryz.prog 94 #[.agg (coA c m), .int .i64 x.k.to_] W fun e w' => e = .returned (.bool mt) ∧ Below W.heap.size W w'))
  (R : Bool) (hR : Hid (R = (isI x.k.act c.ac.length && decide (1 ≤ x.k.aft) && decide (x.k.aft ≤ 400) && kd && decide (x.k.start.length ≤ 8) && x.k.start.all (xCi c.cl.length i) && ((x.k.pause == -1 && x.k.resume == -1) || (x.k.pause != x.k.resume && np && nr)) &&
   (if x.k.unit == -1 then zer x.k.v && x.k.to_ == -1 else (x.k.kind == 1 || x.k.kind == 2) && isI x.k.unit c.un.length && (match c.un[x.k.unit.toNat]? with | some u => u.kind == 2 | none => false) && ps && mt)))) :
  Calls Tryz.prog 62 #[.agg (coA c m), .int .i64 (i : Nat)] w fun e w' => e = .returned (.bool R) ∧ Below w.heap.size w w' := by
 obtain ⟨b0, o0, eA0, hb0, hc⟩ := xAv hS hx
 have hix := xAp (t := 25) (size := 16) (cap := m.kc) eA0 hi (by kernel_rfl) (fun W => by kernel_rfl)
 have hrg0 : w.rangeAt b0 (o0 + i * 16) (kL x) := fun j v hv => hc j v hv
 have HT := qzL hT
 have HU := qzL hU
 clear hc hS hT hU hx eA0
 go_enter Tryz.func62, Tryz.ntmps62
 go_upto_region 1 with (fail)
 refine xAi ?_
 intro X hX
 have ga : Blk X w.heap.size 27 (coA c m) := by rw [hX]; exact Blk.new _ _ _
 have HB : Below w.heap.size w X := by rw [hX]; exact wa1 _ _
 have hrg : X.rangeAt b0 (o0 + i * 16) (kL x) := fun j v hv => (HB.cell (p := ⟨b0, _, none⟩) hb0).trans (hrg0 j v hv)
 obtain ⟨ba, eb⟩ : ∃ b, w.heap.size = b := ⟨_, rfl⟩
 rw [eb] at ga ⊢
 clear hX eb hrg0
 have k4 : X.cell? ⟨ba, 4, none⟩ = some (.slice m.k c.cl.length m.kc) := ga.cell 4
 go_upto_region 2 with ((refine xAm 95 el16 _ _ _ rfl rfl rfl rfl rfl rfl rfl rfl rfl b0 _ rfl (kL x) rfl hrg (by simp [Value.oneCell']) (by decide) (by simp) (by simp) ?_; simp only [Act.put, qzG, qzH, qzI]))
 refine xAi ?_
 intro Y hY
 have gb : Blk Y ba 27 (coA c m) := by rw [hY]; exact ga.alloc _
 have gk : Blk Y X.heap.size 95 (kL x).toArray := by rw [hY]; exact Blk.new _ _ _
 have HY : Hid (Below w.heap.size w Y) := by rw [hY]; exact xAc HB _
 obtain ⟨bk, ek⟩ : ∃ b, X.heap.size = b := ⟨_, rfl⟩
 rw [ek] at gk ⊢
 clear hY ek ga HB hrg hix k4
 obtain ⟨k0, k1, k2, k3, k4, k5, k6⟩ := coC (c := c) (m := m) (gb) rfl
 have c0 : Y.cell? ⟨bk, 0, none⟩ = some (.int .i64 x.k.kind) := (gk).cell 0
 have c1 : Y.cell? ⟨bk, 1, none⟩ = some (.int .i64 x.k.role) := (gk).cell 1
 have c2 : Y.cell? ⟨bk, 2, none⟩ = some (.int .i64 x.k.act) := (gk).cell 2
 have c3 : Y.cell? ⟨bk, 3, none⟩ = some (.int .i64 x.k.need) := (gk).cell 3
 have c4 : Y.cell? ⟨bk, 4, none⟩ = some (.slice x.A x.k.start.length x.cap) := (gk).cell 4
 have c5 : Y.cell? ⟨bk, 5, none⟩ = some (.int .i64 x.k.aft) := (gk).cell 5
 have c6 : Y.cell? ⟨bk, 6, none⟩ = some (.int .i64 x.k.grace) := (gk).cell 6
 have c7 : Y.cell? ⟨bk, 7, none⟩ = some (.bool x.k.bus) := (gk).cell 7
 have c8 : Y.cell? ⟨bk, 8, none⟩ = some (.bool x.k.fin) := (gk).cell 8
 have c9 : Y.cell? ⟨bk, 9, none⟩ = some (.int .i64 x.k.pause) := (gk).cell 9
 have c10 : Y.cell? ⟨bk, 10, none⟩ = some (.int .i64 x.k.resume) := (gk).cell 10
 have c11 : Y.cell? ⟨bk, 11, none⟩ = some (.int .i64 x.k.v.1) := (gk).cell 11
 have c12 : Y.cell? ⟨bk, 12, none⟩ = some (.int .i64 x.k.v.2) := (gk).cell 12
 have c13 : Y.cell? ⟨bk, 13, none⟩ = some (.int .i64 x.k.unit) := (gk).cell 13
 have c14 : Y.cell? ⟨bk, 14, none⟩ = some (.int .i64 x.k.to_) := (gk).cell 14
 have c15 : Y.cell? ⟨bk, 15, none⟩ = some (.bool x.k.waived) := (gk).cell 15
 have fin : ∀ {a : Act}, True := fun {_} => trivial
 clear fin
 by_cases p1 : x.k.act < 0
 ·have t1 := qzO p1
  have hf : Hid (R = false) := by unfold Hid; rw [hR.out, show isI x.k.act c.ac.length = false by unfold isI; rw [qzN (show ¬ 0 ≤ x.k.act by omega)]; rfl]; rfl
  clear p1
  go_wp2
  go_ret
  exact ⟨xAb hf.out.symm, HY.out⟩
 have t1 := qzN p1
 by_cases p2 : (c.ac.length : Int) ≤ x.k.act
 ·have t2 := qzO p2
  have hf : Hid (R = false) := by unfold Hid; rw [hR.out, show isI x.k.act c.ac.length = false by unfold isI; rw [qzN (show ¬ x.k.act < c.ac.length by omega), Bool.and_false]]; rfl
  clear p1 p2
  go_wp2
  go_ret
  exact ⟨xAb hf.out.symm, HY.out⟩
 have t2 := qzN p2
 have hI : isI x.k.act c.ac.length = true := xB3.2 ⟨by omega, by omega⟩
 by_cases p3 : x.k.aft < 1
 ·have t3 := qzO p3
  have hf : Hid (R = false) := by unfold Hid; rw [hR.out, qzN (show ¬ 1 ≤ x.k.aft by omega)]; simp
  clear p1 p2 p3 hI
  go_wp2
  go_ret
  exact ⟨xAb hf.out.symm, HY.out⟩
 have t3 := qzN p3
 by_cases p4 : 400 < x.k.aft
 ·have t4 := qzO p4
  have hf : Hid (R = false) := by unfold Hid; rw [hR.out, qzN (show ¬ x.k.aft ≤ 400 by omega)]; simp
  clear p1 p2 p3 p4 hI
  go_wp2
  go_ret
  exact ⟨xAb hf.out.symm, HY.out⟩
 have t4 := qzN p4
 have hR2 : Hid (R = (kd && decide (x.k.start.length ≤ 8) && x.k.start.all (xCi c.cl.length i) && ((x.k.pause == -1 && x.k.resume == -1) || (x.k.pause != x.k.resume && np && nr)) &&
   (if x.k.unit == -1 then zer x.k.v && x.k.to_ == -1 else (x.k.kind == 1 || x.k.kind == 2) && isI x.k.unit c.un.length && (match c.un[x.k.unit.toNat]? with | some u => u.kind == 2 | none => false) && ps && mt))) := by
  unfold Hid; rw [hR.out, hI, qzO (show 1 ≤ x.k.aft by omega), qzO (show x.k.aft ≤ 400 by omega)]; rfl
 clear hR p1 p2 p3 p4 hI
 cases kd with
 | false =>
  have hf : Hid (R = false) := by unfold Hid; rw [hR2.out]; rfl
  go_wp2_with (go_at_call 90; (with_reducible refine (HK.out _ HY.out).mono ?_); rintro e w1 ⟨rfl, hbw1⟩; have d4 : w1.cell? ⟨bk, 4, none⟩ = some (.slice x.A x.k.start.length x.cap) := (gk.then_ hbw1).cell 4)
  go_ret
  exact ⟨xAb hf.out.symm, xAa HY.out hbw1⟩
 | true =>
 by_cases p5 : (8 : Int) < x.k.start.length
 ·have t5 := qzO p5
  have hf : Hid (R = false) := by unfold Hid; rw [hR2.out, qzN (show ¬ x.k.start.length ≤ 8 by omega)]; rfl
  go_wp2_with (go_at_call 90; (with_reducible refine (HK.out _ HY.out).mono ?_); rintro e w1 ⟨rfl, hbw1⟩; have d4 : w1.cell? ⟨bk, 4, none⟩ = some (.slice x.A x.k.start.length x.cap) := (gk.then_ hbw1).cell 4)
  go_ret
  exact ⟨xAb hf.out.symm, xAa HY.out hbw1⟩
 have t5 := qzN p5
 go_upto_region 6 with (go_at_call 90; (with_reducible refine (HK.out _ HY.out).mono ?_); rintro e w1 ⟨rfl, hbw1⟩; have d4 : w1.cell? ⟨bk, 4, none⟩ = some (.slice x.A x.k.start.length x.cap) := (gk.then_ hbw1).cell 4)
 refine xAi ?_
 intro Z hZ
 have gb2 : Blk Z ba 27 (coA c m) := by rw [hZ]; exact gb.then_ hbw1
 have gk2 : Blk Z bk 95 (kL x).toArray := by rw [hZ]; exact gk.then_ hbw1
 have HZ2 : Hid (Below w.heap.size w Z) := by rw [hZ]; exact xAa HY.out hbw1
 have hR3 : Hid (R = (x.k.start.all (xCi c.cl.length i) && ((x.k.pause == -1 && x.k.resume == -1) || (x.k.pause != x.k.resume && np && nr)) &&
   (if x.k.unit == -1 then zer x.k.v && x.k.to_ == -1 else (x.k.kind == 1 || x.k.kind == 2) && isI x.k.unit c.un.length && (match c.un[x.k.unit.toNat]? with | some u => u.kind == 2 | none => false) && ps && mt))) := by
  unfold Hid; rw [hR2.out, qzO (show x.k.start.length ≤ 8 by omega)]; rfl
 clear hZ hbw1 gb gk HY t1 t2 t3 t4 t5 hR2 HK k0 k1 k2 k3 k4 k5 k6 c0 c1 c2 c3 c4 c5 c6 c7 c8 c9 c10 c11 c12 c13 c14 c15
 have j4 : Z.cell? ⟨bk, 4, none⟩ = some (.slice x.A x.k.start.length x.cap) := gk2.cell 4
 go_upto_region 7 with (fail)
 clear j4
 have HTZ : Hid (Seg Z Z.heap.size 2 eS x.A x.k.start) := (HT.out.below HZ2.out).more HZ2.out.size
 have HUZ : Hid (Seg Z Z.heap.size 5 eU m.u c.un) := (HU.out.below HZ2.out).more HZ2.out.size
 clear HT HU
 go_loopw [47] (fun y WR => ∃ j : Nat, j ≤ x.k.start.length ∧ y = .int .i64 j ∧ Hid (∀ n s, n < j → x.k.start[n]? = some s → xCi c.cl.length i s = true) ∧ Below Z.heap.size Z WR) (fun y _ => 2000000 - (intOf y).toNat)
 case atStart => exact ⟨0, by omega, rfl, fun n u h => absurd h (by omega), Below.refl _ _⟩
 case round =>
  obtain ⟨j, hj, rfl, hN, hbr⟩ := hrel
  have ga := gb2.then_ hbr
  have gk := gk2.then_ hbr
  have HBR := qzL (xAa HZ2.out hbr)
  have HBZ := qzL hbr
  have l1 := ga.lt
  have l2 := gk.lt
  by_cases hlt : j < x.k.start.length
  ·have tj : decide ((j : Int) < (x.k.start.length : Int)) = true := qzO (by omega)
   obtain ⟨s, hs⟩ : ∃ s, x.k.start[j]? = some s := ⟨_, qzJ hlt⟩
   obtain ⟨b1, o1, eA1, hb1, hc⟩ := xAv (HTZ.out.below hbr) hs
   have hrg : wr.rangeAt b1 (o1 + j * 2) (sL s) := fun j v hv => hc j v hv
   have hix := xAp (t := 93) (size := 2) (cap := x.cap) eA1 hlt (by kernel_rfl) (fun W => by kernel_rfl)
   have HX := qzL hs
   clear hc hs hbr eA1
   go_upto_region 9 with ((refine xAm 143 elS _ _ _ rfl rfl rfl rfl rfl rfl rfl rfl rfl b1 _ rfl (sL s) rfl hrg (by simp [Value.oneCell']) (by decide) (by simp) (by simp) ?_; simp only [Act.put, qzG, qzH, qzI]))
   refine xAi ?_
   intro V hV
   have gv : Blk V ba 27 (coA c m) := by rw [hV]; exact ga.alloc _
   have gx : Blk V wr.heap.size 143 (sL s).toArray := by rw [hV]; exact Blk.new _ _ _
   have HV : Hid (Below wr.heap.size wr V) := by rw [hV]; exact wa1 _ _
   obtain ⟨bx, ex⟩ : ∃ b, wr.heap.size = b := ⟨_, rfl⟩
   rw [ex] at gx ⊢
   clear hV ex ga gk hrg hix
   have k4 : V.cell? ⟨ba, 4, none⟩ = some (.slice m.k c.cl.length m.kc) := gv.cell 4
   have s0 : V.cell? ⟨bx, 0, none⟩ = some (.int .i64 s.1) := gx.cell 0
   have s1 : V.cell? ⟨bx, 1, none⟩ = some (.int .i64 s.2) := gx.cell 1
   have bad : xCi c.cl.length i s = false → Hid (R = false) := fun h => by
    have : x.k.start.all (xCi c.cl.length i) = false := by
     rw [Bool.eq_false_iff]
     intro h2
     rw [List.all_eq_true] at h2
     have := h2 s (qzK HX.out)
     rw [h] at this
     cases this
    unfold Hid; rw [hR3.out, this]; rfl
   by_cases q1 : s.1 < 0
   ·have u1 := qzO q1
    have hf := bad (by unfold xCi isI; rw [qzN (show ¬ 0 ≤ s.1 by omega)]; rfl)
    clear q1 bad
    go_wp2
    go_ret
    exact ⟨xAb hf.out.symm, xAa HBR.out HV.out⟩
   have u1 := qzN q1
   by_cases q2 : (c.cl.length : Int) ≤ s.1
   ·have u2 := qzO q2
    have hf := bad (by unfold xCi isI; rw [qzN (show ¬ s.1 < (c.cl.length : Int) by omega)]; simp)
    clear q1 q2 bad
    go_wp2
    go_ret
    exact ⟨xAb hf.out.symm, xAa HBR.out HV.out⟩
   have u2 := qzN q2
   cases q3 : (s.1 == (i : Int)) with
   | true =>
    have hf := bad (by unfold xCi; rw [bne, q3]; simp)
    clear q1 q2 bad
    go_wp2
    go_ret
    exact ⟨xAb hf.out.symm, xAa HBR.out HV.out⟩
   | false =>
   by_cases q4 : s.2 < 1
   ·have u4 := qzO q4
    have hf := bad (by unfold xCi; rw [qzN (show ¬ 1 ≤ s.2 by omega)]; simp)
    clear q1 q2 q4 bad
    go_wp2
    go_ret
    exact ⟨xAb hf.out.symm, xAa HBR.out HV.out⟩
   have u4 := qzN q4
   by_cases q5 : 4 < s.2
   ·have u5 := qzO q5
    have hf := bad (by unfold xCi; rw [qzN (show ¬ s.2 ≤ 4 by omega)]; simp)
    clear q1 q2 q4 q5 bad
    go_wp2
    go_ret
    exact ⟨xAb hf.out.symm, xAa HBR.out HV.out⟩
   have u5 := qzN q5
   have good : Hid (xCi c.cl.length i s = true) := by
    unfold Hid xCi
    rw [xB3.2 ⟨by omega, by omega⟩, bne, q3, qzO (show 1 ≤ s.2 by omega), qzO (show s.2 ≤ 4 by omega)]; rfl
   clear q1 q2 q4 q5 bad
   go_wp2
   go_roundw
   case rel => exact ⟨j + 1, by omega, by simp, fun n y hi hy => by
    by_cases h : n = j
    ·subst h
     rw [HX.out] at hy
     injection hy with hy
     subst hy
     exact good.out
    ·exact hN.out n y (by omega) hy, xAa HBZ.out HV.out⟩
   case measure => simp [intOf]; omega
  ·have tj : decide ((j : Int) < (x.k.start.length : Int)) = false := qzN (by omega)
   have hR4 : Hid (R = (((x.k.pause == -1 && x.k.resume == -1) || (x.k.pause != x.k.resume && np && nr)) &&
     (if x.k.unit == -1 then zer x.k.v && x.k.to_ == -1 else (x.k.kind == 1 || x.k.kind == 2) && isI x.k.unit c.un.length && (match c.un[x.k.unit.toNat]? with | some u => u.kind == 2 | none => false) && ps && mt))) := by
    have : x.k.start.all (xCi c.cl.length i) = true := by
     rw [List.all_eq_true]
     intro s hs
     obtain ⟨n, hn, rfl⟩ := List.getElem_of_mem hs
     exact hN.out n _ (by omega) (qzJ hn)
    unfold Hid; rw [hR3.out, this]; rfl
   have HU2 : Hid (Seg wr wr.heap.size 5 eU m.u c.un) := (HUZ.out.below hbr).more hbr.size
   clear hR3 hN gb2 gk2 HBZ HZ2 hbr HTZ HUZ
   obtain ⟨k0, k1, k2, k3, k4, k5, k6⟩ := coC (c := c) (m := m) (ga) rfl
   have c0 : wr.cell? ⟨bk, 0, none⟩ = some (.int .i64 x.k.kind) := (gk).cell 0
   have c1 : wr.cell? ⟨bk, 1, none⟩ = some (.int .i64 x.k.role) := (gk).cell 1
   have c2 : wr.cell? ⟨bk, 2, none⟩ = some (.int .i64 x.k.act) := (gk).cell 2
   have c3 : wr.cell? ⟨bk, 3, none⟩ = some (.int .i64 x.k.need) := (gk).cell 3
   have c4 : wr.cell? ⟨bk, 4, none⟩ = some (.slice x.A x.k.start.length x.cap) := (gk).cell 4
   have c5 : wr.cell? ⟨bk, 5, none⟩ = some (.int .i64 x.k.aft) := (gk).cell 5
   have c6 : wr.cell? ⟨bk, 6, none⟩ = some (.int .i64 x.k.grace) := (gk).cell 6
   have c7 : wr.cell? ⟨bk, 7, none⟩ = some (.bool x.k.bus) := (gk).cell 7
   have c8 : wr.cell? ⟨bk, 8, none⟩ = some (.bool x.k.fin) := (gk).cell 8
   have c9 : wr.cell? ⟨bk, 9, none⟩ = some (.int .i64 x.k.pause) := (gk).cell 9
   have c10 : wr.cell? ⟨bk, 10, none⟩ = some (.int .i64 x.k.resume) := (gk).cell 10
   have c11 : wr.cell? ⟨bk, 11, none⟩ = some (.int .i64 x.k.v.1) := (gk).cell 11
   have c12 : wr.cell? ⟨bk, 12, none⟩ = some (.int .i64 x.k.v.2) := (gk).cell 12
   have c13 : wr.cell? ⟨bk, 13, none⟩ = some (.int .i64 x.k.unit) := (gk).cell 13
   have c14 : wr.cell? ⟨bk, 14, none⟩ = some (.int .i64 x.k.to_) := (gk).cell 14
   have c15 : wr.cell? ⟨bk, 15, none⟩ = some (.bool x.k.waived) := (gk).cell 15
   have both : ((x.k.pause == -1) = true ∧ (x.k.resume == -1) = true) ∨ (x.k.pause == -1) = false ∨ ((x.k.pause == -1) = true ∧ (x.k.resume == -1) = false) := by cases (x.k.pause == -1) <;> cases (x.k.resume == -1) <;> simp
   rcases both with ⟨e1, e2⟩ | both
   ·have v1 : (x.k.pause != -1) = false := by rw [bne, e1]; rfl
    have v2 : (x.k.resume != -1) = false := by rw [bne, e2]; rfl
    have hR5 : Hid (R = (if x.k.unit == -1 then zer x.k.v && x.k.to_ == -1 else (x.k.kind == 1 || x.k.kind == 2) && isI x.k.unit c.un.length && (match c.un[x.k.unit.toNat]? with | some u => u.kind == 2 | none => false) && ps && mt)) := by unfold Hid; rw [hR4.out, e1, e2]; rfl
    clear hR4
    go_upto_region 15 with (fail)
    clear v1 v2 e1 e2
    cases q1 : (x.k.unit == -1) with
    | true =>
     by_cases q2 : x.k.v.1 = 0 ∧ x.k.v.2 = 1
     ·have heq : ∀ W, (Op.equalIn 10000 90 (.agg #[.int .i64 x.k.v.1, .int .i64 x.k.v.2]) (.agg #[.int .i64 0, .int .i64 1])).run Tryz.prog W = .ok true W := fun W => by rw [eqv2, qzO q2]
      have hf : Hid (R = (x.k.to_ == -1)) := by unfold Hid; rw [hR5.out, q1]; unfold zer; rw [q2.1, q2.2]; rfl
      clear q2 hR5
      go_upto_region 16 with (fail)
      have rg0 := cR c11
      have rg1 := cR c12
      have rg2 := cR c14
      refine xAg [0, 1, 2, 3, 4, 5, 6, 7, 8] [9] (by kernel_rfl) (by kernel_rfl) pO ?_
      simp only [xAn, qzA, qzB, qzC, qzD, qzE, qzF]
      repeat (go_big_quiet_step ((go_at_call 92; exact xAq (fun W' hW => HZ.out W' (xAa HBR.out hW)) _ _)))
      refine wpQuiet_nil ?_
      intro Q hw2
      have hbQ := xAj hw2
      clear hw2 rg0 rg1 rg2
      go_wp2
      go_ret
      exact ⟨xAb (by first | exact hf.out.symm | (rw [hf.out]; rfl) | (rw [hf.out]; simp)), xAa HBR.out hbQ⟩
     ·have heq : ∀ W, (Op.equalIn 10000 90 (.agg #[.int .i64 x.k.v.1, .int .i64 x.k.v.2]) (.agg #[.int .i64 0, .int .i64 1])).run Tryz.prog W = .ok false W := fun W => by rw [eqv2, qzN q2]
      have hf : Hid (R = false) := by
       have : zer x.k.v = false := by
        rw [Bool.eq_false_iff]
        intro h
        unfold zer at h
        simp only [Bool.and_eq_true, beq_iff_eq] at h
        exact q2 h
       unfold Hid; rw [hR5.out, q1, this]; rfl
      clear q2 hR5
      go_upto_region 16 with (fail)
      have rg0 := cR c11
      have rg1 := cR c12
      have rg2 := cR c14
      refine xAg [0, 1, 2, 3, 4, 5, 6, 7, 8] [9] (by kernel_rfl) (by kernel_rfl) pO ?_
      simp only [xAn, qzA, qzB, qzC, qzD, qzE, qzF]
      repeat (go_big_quiet_step ((go_at_call 92; exact xAq (fun W' hW => HZ.out W' (xAa HBR.out hW)) _ _)))
      refine wpQuiet_nil ?_
      intro Q hw2
      have hbQ := xAj hw2
      clear hw2 rg0 rg1 rg2
      go_wp2
      go_ret
      exact ⟨xAb (by first | exact hf.out.symm | (rw [hf.out]; rfl) | (rw [hf.out]; simp)), xAa HBR.out hbQ⟩
    | false =>
     have hR6 : Hid (R = ((x.k.kind == 1 || x.k.kind == 2) && isI x.k.unit c.un.length && (match c.un[x.k.unit.toNat]? with | some u => u.kind == 2 | none => false) && ps && mt)) := by unfold Hid; rw [hR5.out, q1]; rfl
     clear hR5
     have ways : ((x.k.kind == 1) = false ∧ (x.k.kind == 2) = false) ∨ (x.k.kind == 1) = true ∨ ((x.k.kind == 1) = false ∧ (x.k.kind == 2) = true) := by cases (x.k.kind == 1) <;> cases (x.k.kind == 2) <;> simp
     rcases ways with ⟨e1, e2⟩ | ways
     ·have hf : Hid (R = false) := by unfold Hid; rw [hR6.out, e1, e2]; rfl
      clear hR6
      go_wp2
      go_ret
      exact ⟨xAb hf.out.symm, HBR.out⟩
     ·have hR7 : Hid (R = (isI x.k.unit c.un.length && (match c.un[x.k.unit.toNat]? with | some u => u.kind == 2 | none => false) && ps && mt)) := by
       have : (x.k.kind == 1 || x.k.kind == 2) = true := by rcases ways with e | ⟨e, e'⟩ <;> simp [*]
       unfold Hid; rw [hR6.out, this]; rfl
      clear hR6
      by_cases n1 : 0 ≤ x.k.unit
      ·have t1 := qzO n1
       by_cases n2 : x.k.unit < c.un.length
       ·have t2 := qzO n2
        obtain ⟨n, hn⟩ := Int.eq_ofNat_of_zero_le n1
        have hnl : n < c.un.length := by omega
        obtain ⟨u, hu⟩ : ∃ u, c.un[n]? = some u := ⟨_, qzJ hnl⟩
        obtain ⟨b2, o2, eA2, hb2, hcu⟩ := xAv HU2.out hu
        have hixu := xAp (t := 23) (size := 5) (cap := m.uc) eA2 hnl (by kernel_rfl) (fun W => by kernel_rfl)
        have x1 : wr.cell? ⟨b2, o2 + n * 5 + 1, none⟩ = some (.int .i64 u.kind) := hcu 1 _ rfl
        have hR8 : Hid (R = (u.kind == 2 && ps && mt)) := by unfold Hid; rw [hR7.out, xB3.2 ⟨n1, n2⟩, hn, Int.toNat_natCast, hu]; rfl
        rw [← hn] at hixu
        clear hcu hu eA2 hR7 hn n1 n2
        cases m1 : (u.kind == 2) with
        | false =>
         have hf : Hid (R = false) := by unfold Hid; rw [hR8.out, m1]; rfl
         clear hR8
         rcases ways with e1 | ⟨e1, e2⟩
         all_goals
          go_wp2
          go_ret
          exact ⟨xAb hf.out.symm, HBR.out⟩
        | true =>
         cases ps with
         | false =>
          have hf : Hid (R = false) := by unfold Hid; rw [hR8.out, m1]; rfl
          clear hR8
          rcases ways with e1 | ⟨e1, e2⟩
          all_goals
           go_wp2_with (go_at_call 93; (with_reducible refine (HP.out _ HBR.out).mono ?_); rintro e w5 ⟨rfl, hb5⟩; obtain ⟨z0, z1, z2, z3, z4, z5, z6⟩ := coC (c := c) (m := m) ((ga).then_ hb5) rfl; have y14 : w5.cell? ⟨bk, 14, none⟩ = some (.int .i64 x.k.to_) := ((gk).then_ hb5).cell 14)
           go_ret
           exact ⟨xAb hf.out.symm, xAa HBR.out hb5⟩
         | true =>
          have hf : Hid (R = mt) := by unfold Hid; rw [hR8.out, m1]; rfl
          clear hR8
          rcases ways with e1 | ⟨e1, e2⟩
          all_goals
           go_wp2_with (first | (go_at_call 93; (with_reducible refine (HP.out _ HBR.out).mono ?_); rintro e w5 ⟨rfl, hb5⟩; obtain ⟨z0, z1, z2, z3, z4, z5, z6⟩ := coC (c := c) (m := m) ((ga).then_ hb5) rfl; have y14 : w5.cell? ⟨bk, 14, none⟩ = some (.int .i64 x.k.to_) := ((gk).then_ hb5).cell 14) | (go_at_call 94; (with_reducible refine (HM.out _ (xAa HBR.out hb5)).mono ?_); rintro e w6 ⟨rfl, hb6⟩))
           go_ret
           exact ⟨xAb hf.out.symm, xAa (xAa HBR.out hb5) hb6⟩
       ·have t2 := qzN n2
        have hf : Hid (R = false) := by unfold Hid; rw [hR7.out, show isI x.k.unit c.un.length = false by unfold isI; rw [qzN n2, Bool.and_false]]; rfl
        clear hR7
        rcases ways with e1 | ⟨e1, e2⟩
        all_goals
         go_wp2
         go_ret
         exact ⟨xAb hf.out.symm, HBR.out⟩
      ·have t1 := qzN n1
       have hf : Hid (R = false) := by unfold Hid; rw [hR7.out, show isI x.k.unit c.un.length = false by unfold isI; rw [qzN n1]; rfl]; rfl
       clear hR7
       rcases ways with e1 | ⟨e1, e2⟩
       all_goals
        go_wp2
        go_ret
        exact ⟨xAb hf.out.symm, HBR.out⟩
   ·have hb0 : (x.k.pause == -1 && x.k.resume == -1) = false := by
     rcases both with e | ⟨e, e'⟩
     ·rw [e]; rfl
     ·rw [e, e']; rfl
    have hR5 : Hid (R = ((x.k.pause != x.k.resume && np && nr) && (if x.k.unit == -1 then zer x.k.v && x.k.to_ == -1 else (x.k.kind == 1 || x.k.kind == 2) && isI x.k.unit c.un.length && (match c.un[x.k.unit.toNat]? with | some u => u.kind == 2 | none => false) && ps && mt))) := by unfold Hid; rw [hR4.out, hb0]; rfl
    clear hR4 hb0
    have vw : ((x.k.pause != -1) = true) ∨ ((x.k.pause != -1) = false ∧ (x.k.resume != -1) = true) := by
     rcases both with e | ⟨e, e'⟩
     ·left; rw [bne, e]; rfl
     ·right; rw [bne, bne, e, e']; exact ⟨rfl, rfl⟩
    clear both
    cases e3 : (x.k.pause == x.k.resume) with
    | true =>
     have hf : Hid (R = false) := by unfold Hid; rw [hR5.out, bne, e3]; rfl
     clear hR5
     rcases vw with v1 | ⟨v1, v2⟩
     all_goals
      go_wp2
      go_ret
      exact ⟨xAb hf.out.symm, HBR.out⟩
    | false =>
     cases np with
     | false =>
      have hf : Hid (R = false) := by unfold Hid; rw [hR5.out, Bool.and_false]; rfl
      clear hR5
      rcases vw with v1 | ⟨v1, v2⟩
      all_goals
       go_wp2_with (go_at_call 91; (with_reducible refine (HNp.out _ HBR.out).mono ?_); rintro e w3 ⟨rfl, hb3⟩; obtain ⟨z0, z1, z2, z3, z4, z5, z6⟩ := coC (c := c) (m := m) (ga.then_ hb3) rfl; have y10 : w3.cell? ⟨bk, 10, none⟩ = some (.int .i64 x.k.resume) := (gk.then_ hb3).cell 10)
       go_ret
       exact ⟨xAb hf.out.symm, xAa HBR.out hb3⟩
     | true =>
      cases nr with
      | false =>
       have hf : Hid (R = false) := by unfold Hid; rw [hR5.out, Bool.and_false]; rfl
       clear hR5
       rcases vw with v1 | ⟨v1, v2⟩
       all_goals
        go_wp2_with (first | (go_at_call 91; (with_reducible refine (HNp.out _ HBR.out).mono ?_); rintro e w3 ⟨rfl, hb3⟩; obtain ⟨z0, z1, z2, z3, z4, z5, z6⟩ := coC (c := c) (m := m) (ga.then_ hb3) rfl; have y10 : w3.cell? ⟨bk, 10, none⟩ = some (.int .i64 x.k.resume) := (gk.then_ hb3).cell 10) | (go_at_call 91; (with_reducible refine (HNr.out _ (xAa HBR.out hb3)).mono ?_); rintro e w4 ⟨rfl, hb4⟩))
        go_ret
        exact ⟨xAb hf.out.symm, xAa (xAa HBR.out hb3) hb4⟩
      | true =>
       have hR6 := hR5
       clear hR5
       have hR5 : Hid (R = (if x.k.unit == -1 then zer x.k.v && x.k.to_ == -1 else (x.k.kind == 1 || x.k.kind == 2) && isI x.k.unit c.un.length && (match c.un[x.k.unit.toNat]? with | some u => u.kind == 2 | none => false) && ps && mt)) := by unfold Hid; rw [hR6.out, bne, e3]; rfl
       clear hR6
       rcases vw with v1 | ⟨v1, v2⟩
       all_goals
        go_upto_region 15 with (first | (go_at_call 91; (with_reducible refine (HNp.out _ HBR.out).mono ?_); rintro e w3 ⟨rfl, hb3⟩; obtain ⟨z0, z1, z2, z3, z4, z5, z6⟩ := coC (c := c) (m := m) (ga.then_ hb3) rfl; have y10 : w3.cell? ⟨bk, 10, none⟩ = some (.int .i64 x.k.resume) := (gk.then_ hb3).cell 10) | (go_at_call 91; (with_reducible refine (HNr.out _ (xAa HBR.out hb3)).mono ?_); rintro e w4 ⟨rfl, hb4⟩))
        refine xAi ?_
        intro U hU
        have gau : Blk U ba 27 (coA c m) := by rw [hU]; exact (ga.then_ hb3).then_ hb4
        have gku : Blk U bk 95 (kL x).toArray := by rw [hU]; exact (gk.then_ hb3).then_ hb4
        have HBU : Hid (Below w.heap.size w U) := by rw [hU]; exact xAa (xAa HBR.out hb3) hb4
        have HU3 : Hid (Seg U U.heap.size 5 eU m.u c.un) := by rw [hU]; exact (((HU2.out.below hb3).more hb3.size).below hb4).more hb4.size
        clear hU hb3 hb4 ga gk HBR HU2 v1 e3 k0 k1 k2 k3 k4 k5 k6 c0 c1 c2 c3 c4 c5 c6 c7 c8 c9 c10 c11 c12 c13 c14 c15
        have HU2 := HU3
        clear HU3
        obtain ⟨k0, k1, k2, k3, k4, k5, k6⟩ := coC (c := c) (m := m) (gau) rfl
        have c0 : U.cell? ⟨bk, 0, none⟩ = some (.int .i64 x.k.kind) := (gku).cell 0
        have c1 : U.cell? ⟨bk, 1, none⟩ = some (.int .i64 x.k.role) := (gku).cell 1
        have c2 : U.cell? ⟨bk, 2, none⟩ = some (.int .i64 x.k.act) := (gku).cell 2
        have c3 : U.cell? ⟨bk, 3, none⟩ = some (.int .i64 x.k.need) := (gku).cell 3
        have c4 : U.cell? ⟨bk, 4, none⟩ = some (.slice x.A x.k.start.length x.cap) := (gku).cell 4
        have c5 : U.cell? ⟨bk, 5, none⟩ = some (.int .i64 x.k.aft) := (gku).cell 5
        have c6 : U.cell? ⟨bk, 6, none⟩ = some (.int .i64 x.k.grace) := (gku).cell 6
        have c7 : U.cell? ⟨bk, 7, none⟩ = some (.bool x.k.bus) := (gku).cell 7
        have c8 : U.cell? ⟨bk, 8, none⟩ = some (.bool x.k.fin) := (gku).cell 8
        have c9 : U.cell? ⟨bk, 9, none⟩ = some (.int .i64 x.k.pause) := (gku).cell 9
        have c10 : U.cell? ⟨bk, 10, none⟩ = some (.int .i64 x.k.resume) := (gku).cell 10
        have c11 : U.cell? ⟨bk, 11, none⟩ = some (.int .i64 x.k.v.1) := (gku).cell 11
        have c12 : U.cell? ⟨bk, 12, none⟩ = some (.int .i64 x.k.v.2) := (gku).cell 12
        have c13 : U.cell? ⟨bk, 13, none⟩ = some (.int .i64 x.k.unit) := (gku).cell 13
        have c14 : U.cell? ⟨bk, 14, none⟩ = some (.int .i64 x.k.to_) := (gku).cell 14
        have c15 : U.cell? ⟨bk, 15, none⟩ = some (.bool x.k.waived) := (gku).cell 15
        cases q1 : (x.k.unit == -1) with
        | true =>
         by_cases q2 : x.k.v.1 = 0 ∧ x.k.v.2 = 1
         ·have heq : ∀ W, (Op.equalIn 10000 90 (.agg #[.int .i64 x.k.v.1, .int .i64 x.k.v.2]) (.agg #[.int .i64 0, .int .i64 1])).run Tryz.prog W = .ok true W := fun W => by rw [eqv2, qzO q2]
          have hf : Hid (R = (x.k.to_ == -1)) := by unfold Hid; rw [hR5.out, q1]; unfold zer; rw [q2.1, q2.2]; rfl
          clear q2 hR5
          go_upto_region 16 with (fail)
          have rg0 := cR c11
          have rg1 := cR c12
          have rg2 := cR c14
          refine xAg [0, 1, 2, 3, 4, 5, 6, 7, 8] [9] (by kernel_rfl) (by kernel_rfl) pO ?_
          simp only [xAn, qzA, qzB, qzC, qzD, qzE, qzF]
          repeat (go_big_quiet_step ((go_at_call 92; exact xAq (fun W' hW => HZ.out W' (xAa HBU.out hW)) _ _)))
          refine wpQuiet_nil ?_
          intro Q hw2
          have hbQ := xAj hw2
          clear hw2 rg0 rg1 rg2
          go_wp2
          go_ret
          exact ⟨xAb (by first | exact hf.out.symm | (rw [hf.out]; rfl) | (rw [hf.out]; simp)), xAa HBU.out hbQ⟩
         ·have heq : ∀ W, (Op.equalIn 10000 90 (.agg #[.int .i64 x.k.v.1, .int .i64 x.k.v.2]) (.agg #[.int .i64 0, .int .i64 1])).run Tryz.prog W = .ok false W := fun W => by rw [eqv2, qzN q2]
          have hf : Hid (R = false) := by
           have : zer x.k.v = false := by
            rw [Bool.eq_false_iff]
            intro h
            unfold zer at h
            simp only [Bool.and_eq_true, beq_iff_eq] at h
            exact q2 h
           unfold Hid; rw [hR5.out, q1, this]; rfl
          clear q2 hR5
          go_upto_region 16 with (fail)
          have rg0 := cR c11
          have rg1 := cR c12
          have rg2 := cR c14
          refine xAg [0, 1, 2, 3, 4, 5, 6, 7, 8] [9] (by kernel_rfl) (by kernel_rfl) pO ?_
          simp only [xAn, qzA, qzB, qzC, qzD, qzE, qzF]
          repeat (go_big_quiet_step ((go_at_call 92; exact xAq (fun W' hW => HZ.out W' (xAa HBU.out hW)) _ _)))
          refine wpQuiet_nil ?_
          intro Q hw2
          have hbQ := xAj hw2
          clear hw2 rg0 rg1 rg2
          go_wp2
          go_ret
          exact ⟨xAb (by first | exact hf.out.symm | (rw [hf.out]; rfl) | (rw [hf.out]; simp)), xAa HBU.out hbQ⟩
        | false =>
         have hR6 : Hid (R = ((x.k.kind == 1 || x.k.kind == 2) && isI x.k.unit c.un.length && (match c.un[x.k.unit.toNat]? with | some u => u.kind == 2 | none => false) && ps && mt)) := by unfold Hid; rw [hR5.out, q1]; rfl
         clear hR5
         have ways : ((x.k.kind == 1) = false ∧ (x.k.kind == 2) = false) ∨ (x.k.kind == 1) = true ∨ ((x.k.kind == 1) = false ∧ (x.k.kind == 2) = true) := by cases (x.k.kind == 1) <;> cases (x.k.kind == 2) <;> simp
         rcases ways with ⟨e1, e2⟩ | ways
         ·have hf : Hid (R = false) := by unfold Hid; rw [hR6.out, e1, e2]; rfl
          clear hR6
          go_wp2
          go_ret
          exact ⟨xAb hf.out.symm, HBU.out⟩
         ·have hR7 : Hid (R = (isI x.k.unit c.un.length && (match c.un[x.k.unit.toNat]? with | some u => u.kind == 2 | none => false) && ps && mt)) := by
           have : (x.k.kind == 1 || x.k.kind == 2) = true := by rcases ways with e | ⟨e, e'⟩ <;> simp [*]
           unfold Hid; rw [hR6.out, this]; rfl
          clear hR6
          by_cases n1 : 0 ≤ x.k.unit
          ·have t1 := qzO n1
           by_cases n2 : x.k.unit < c.un.length
           ·have t2 := qzO n2
            obtain ⟨n, hn⟩ := Int.eq_ofNat_of_zero_le n1
            have hnl : n < c.un.length := by omega
            obtain ⟨u, hu⟩ : ∃ u, c.un[n]? = some u := ⟨_, qzJ hnl⟩
            obtain ⟨b2, o2, eA2, hb2, hcu⟩ := xAv HU2.out hu
            have hixu := xAp (t := 23) (size := 5) (cap := m.uc) eA2 hnl (by kernel_rfl) (fun W => by kernel_rfl)
            have x1 : U.cell? ⟨b2, o2 + n * 5 + 1, none⟩ = some (.int .i64 u.kind) := hcu 1 _ rfl
            have hR8 : Hid (R = (u.kind == 2 && ps && mt)) := by unfold Hid; rw [hR7.out, xB3.2 ⟨n1, n2⟩, hn, Int.toNat_natCast, hu]; rfl
            rw [← hn] at hixu
            clear hcu hu eA2 hR7 hn n1 n2
            cases m1 : (u.kind == 2) with
            | false =>
             have hf : Hid (R = false) := by unfold Hid; rw [hR8.out, m1]; rfl
             clear hR8
             rcases ways with e1 | ⟨e1, e2⟩
             all_goals
              go_wp2
              go_ret
              exact ⟨xAb hf.out.symm, HBU.out⟩
            | true =>
             cases ps with
             | false =>
              have hf : Hid (R = false) := by unfold Hid; rw [hR8.out, m1]; rfl
              clear hR8
              rcases ways with e1 | ⟨e1, e2⟩
              all_goals
               go_wp2_with (go_at_call 93; (with_reducible refine (HP.out _ HBU.out).mono ?_); rintro e w5 ⟨rfl, hb5⟩; obtain ⟨z0, z1, z2, z3, z4, z5, z6⟩ := coC (c := c) (m := m) ((gau).then_ hb5) rfl; have y14 : w5.cell? ⟨bk, 14, none⟩ = some (.int .i64 x.k.to_) := ((gku).then_ hb5).cell 14)
               go_ret
               exact ⟨xAb hf.out.symm, xAa HBU.out hb5⟩
             | true =>
              have hf : Hid (R = mt) := by unfold Hid; rw [hR8.out, m1]; rfl
              clear hR8
              rcases ways with e1 | ⟨e1, e2⟩
              all_goals
               go_wp2_with (first | (go_at_call 93; (with_reducible refine (HP.out _ HBU.out).mono ?_); rintro e w5 ⟨rfl, hb5⟩; obtain ⟨z0, z1, z2, z3, z4, z5, z6⟩ := coC (c := c) (m := m) ((gau).then_ hb5) rfl; have y14 : w5.cell? ⟨bk, 14, none⟩ = some (.int .i64 x.k.to_) := ((gku).then_ hb5).cell 14) | (go_at_call 94; (with_reducible refine (HM.out _ (xAa HBU.out hb5)).mono ?_); rintro e w6 ⟨rfl, hb6⟩))
               go_ret
               exact ⟨xAb hf.out.symm, xAa (xAa HBU.out hb5) hb6⟩
           ·have t2 := qzN n2
            have hf : Hid (R = false) := by unfold Hid; rw [hR7.out, show isI x.k.unit c.un.length = false by unfold isI; rw [qzN n2, Bool.and_false]]; rfl
            clear hR7
            rcases ways with e1 | ⟨e1, e2⟩
            all_goals
             go_wp2
             go_ret
             exact ⟨xAb hf.out.symm, HBU.out⟩
          ·have t1 := qzN n1
           have hf : Hid (R = false) := by unfold Hid; rw [hR7.out, show isI x.k.unit c.un.length = false by unfold isI; rw [qzN n1]; rfl]; rfl
           clear hR7
           rcases ways with e1 | ⟨e1, e2⟩
           all_goals
            go_wp2
            go_ret
            exact ⟨xAb hf.out.symm, HBU.out⟩
theorem kind_any (c : Con) (m : Cm) (x : Km) (w : World) (hs : Seg w w.heap.size 7 eA m.a c.ac) : Calls Tryz.prog 90 #[.agg (coA c m), .agg (kA x)] w fun e w' => e = .returned (.bool (c.kindOk x.k)) ∧ Below w.heap.size w w' :=
 kind_key c m x (c.mov x.k.role) (c.nat x.k.act) w (fun W => xDk c m _ W) (fun W hb => xIx c m _ W ((hs.below hb).more hb.size)) (c.kindOk x.k) rfl
theorem act_any (c : Con) (m : Cm) (x : Atc) (w : World) (hb : I64 x.lot.1 ∧ I64 x.lot.2) : Calls Tryz.prog 89 #[.agg (coA c m), .agg (aA x)] w fun e w' => e = .returned (.bool (c.actOk x)) ∧ Below w.heap.size w w' := by
 cases h : c.mov x.role with
 | true =>
  have e : c.actOk x = if x.kind == 1 then x.give == 0 && (x.to_ == -1 || c.mov x.to_) && (if x.unit == -1 then zer x.lot else isI x.unit c.un.length && psv (x.lot.1, x.lot.2)) else (x.kind == 2 || x.kind == 3) && c.mov x.give && decide (0 ≤ x.to_) && decide (x.to_ < c.par) && x.unit == -1 && zer x.lot := by
   unfold Con.actOk; rw [h]; rfl
  rw [e]
  exact act_mov c m x (c.mov x.role) (c.mov x.to_) (c.mov x.give) (psv (x.lot.1, x.lot.2)) w (fun W => xDk c m _ W) (fun W => xDk c m _ W) (fun W => xDk c m _ W) (fun W => xGk W) (fun W => xIt _ _ W hb.1 hb.2) h
 | false =>
  have e : c.actOk x = (x.kind == 1 && x.role == -1 && x.give == 0 && (x.to_ == -1 || c.mov x.to_) && x.unit == -1 && zer x.lot) := by
   unfold Con.actOk; rw [h]; rfl
  rw [e]
  exact act_nat c m x (c.mov x.role) (c.mov x.to_) (c.mov x.give) (psv (x.lot.1, x.lot.2)) w (fun W => xDk c m _ W) (fun W => xDk c m _ W) (fun W => xDk c m _ W) (fun W => xGk W) (fun W => xIt _ _ W hb.1 hb.2) h
theorem framed_any (c : Con) (m : Cm) (w : World) (h : Cont w c m) (hp : c.par ≤ 12) : Calls Tryz.prog 61 #[.agg (coA c m)] w fun e w' => e = .returned (.bool c.framed) ∧ Below w.heap.size w w' :=
 framed_key c m (c.hold.all fun h => decide (0 ≤ h) && decide (h < c.par)) (xGb c.un 0 c.un) w h.a h.o h.na h.no (fun W hb => held_any c m W ((h.h.below hb).more hb.size) h.nh (by omega)) (fun W hb => uns_any c.un m.u m.uc W ((h.u.below hb).more hb.size) h.bu h.nu h.cu)
  (fun x hx W _ => act_any c m x W (h.ba x hx)) c.framed rfl
theorem cla_any (c : Con) (m : Cm) (i : Nat) (k : Cla) (w : World) (h : Cont w c m) (hk : c.cl[i]? = some k) : Calls Tryz.prog 62 #[.agg (coA c m), .int .i64 (i : Nat)] w fun e w' => e = .returned (.bool (c.claOk i k)) ∧ Below w.heap.size w w' := by
 obtain ⟨x, hx, rfl⟩ := xC3 h.e hk
 have kx := h.t x (qzK hx)
 have hs : ∀ W, Below w.heap.size w W → Seg W W.heap.size 7 eA m.a c.ac := fun W hb => (h.a.below hb).more hb.size
 exact cla_key c m i x (c.kindOk x.k) (c.nat x.k.pause) (c.nat x.k.resume) (psv (x.k.v.1, x.k.v.2)) (c.mov x.k.to_) w hx (qzM hk).1 h.k kx.s h.u h.nk (fun W hb => kind_any c m x W (hs W hb)) (fun W hb => xIx c m _ W (hs W hb)) (fun W hb => xIx c m _ W (hs W hb))
  (fun W _ => xGk W) (fun W _ => xIt _ _ W kx.v.1 kx.v.2) (fun W _ => xDk c m _ W) (c.claOk i x.k) rfl
theorem xIh (c : Con) (m : Cm) (w : World) (h : Cont w c m) : Calls Tryz.prog 44 #[.agg (coA c m)] w fun e w' => (∃ a b : Int, e = .returned (.tuple #[.int .i64 a, .int .i64 b]) ∧ (a = 0 ↔ c.ok = true)) ∧ Below w.heap.size w w' := by
 have HC := qzL h
 clear h
 have nk := HC.out.nk
 go_enter Tryz.func44, Tryz.ntmps44
 go_upto_region 1 with (fail)
 refine xAi ?_
 intro X hX
 have ga : Blk X w.heap.size 27 (coA c m) := by rw [hX]; exact Blk.new _ _ _
 have HB : Hid (Below w.heap.size w X) := by rw [hX]; exact wa1 _ _
 obtain ⟨ba, eb⟩ : ∃ b, w.heap.size = b := ⟨_, rfl⟩
 rw [eb] at ga ⊢
 clear hX eb
 obtain ⟨k0, k1, k2, k3, k4, k5, k6⟩ := coC (c := c) (m := m) (ga) rfl
 have lim : ∀ {p : Prop} [Decidable p], ¬ p → (c.lim = true → p) → Hid (c.ok = false) := fun {p} _ hn hi => by
  unfold Hid Con.ok
  cases hl : c.lim with
  | false => rfl
  | true => exact absurd (hi hl) hn
 have lims : c.lim = true → c.par ≤ 12 ∧ c.days ≤ 2000 ∧ c.hold.length ≤ 12 ∧ c.un.length ≤ 20 ∧ c.ac.length ≤ 60 ∧ c.cl.length ≤ 400 := fun h => by
  unfold Con.lim at h
  simp only [Bool.and_eq_true, decide_eq_true_eq] at h
  omega
 by_cases p0 : 12 < c.par
 ·have t0 := qzO p0
  have hf := lim (p := c.par ≤ 12) (by omega) (fun h => by have := lims h; omega)
  clear lim lims
  go_wp2
  refine bodyPost_ret (by simp [results, Tryz.results44, go_sem, *]; rfl) rfl ⟨?_, ?_⟩
  ·first | exact ⟨_, ⟨_, rfl⟩, ⟨fun h => (by cases h), fun h => by rw [hf.out] at h; cases h⟩⟩ | exact ⟨_, _, rfl, ⟨fun h => (by cases h), fun h => by rw [hf.out] at h; cases h⟩⟩
  ·exact HB.out
 have t0 := qzN p0
 by_cases p1 : 2000 < c.days
 ·have t1 := qzO p1
  have hf := lim (p := c.days ≤ 2000) (by omega) (fun h => by have := lims h; omega)
  clear lim lims
  go_wp2
  refine bodyPost_ret (by simp [results, Tryz.results44, go_sem, *]; rfl) rfl ⟨?_, ?_⟩
  ·first | exact ⟨_, ⟨_, rfl⟩, ⟨fun h => (by cases h), fun h => by rw [hf.out] at h; cases h⟩⟩ | exact ⟨_, _, rfl, ⟨fun h => (by cases h), fun h => by rw [hf.out] at h; cases h⟩⟩
  ·exact HB.out
 have t1 := qzN p1
 by_cases p2 : (12 : Int) < c.hold.length
 ·have t2 := qzO p2
  have hf := lim (p := c.hold.length ≤ 12) (by omega) (fun h => by have := lims h; omega)
  clear lim lims
  go_wp2
  refine bodyPost_ret (by simp [results, Tryz.results44, go_sem, *]; rfl) rfl ⟨?_, ?_⟩
  ·first | exact ⟨_, ⟨_, rfl⟩, ⟨fun h => (by cases h), fun h => by rw [hf.out] at h; cases h⟩⟩ | exact ⟨_, _, rfl, ⟨fun h => (by cases h), fun h => by rw [hf.out] at h; cases h⟩⟩
  ·exact HB.out
 have t2 := qzN p2
 by_cases p3 : (20 : Int) < c.un.length
 ·have t3 := qzO p3
  have hf := lim (p := c.un.length ≤ 20) (by omega) (fun h => by have := lims h; omega)
  clear lim lims
  go_wp2
  refine bodyPost_ret (by simp [results, Tryz.results44, go_sem, *]; rfl) rfl ⟨?_, ?_⟩
  ·first | exact ⟨_, ⟨_, rfl⟩, ⟨fun h => (by cases h), fun h => by rw [hf.out] at h; cases h⟩⟩ | exact ⟨_, _, rfl, ⟨fun h => (by cases h), fun h => by rw [hf.out] at h; cases h⟩⟩
  ·exact HB.out
 have t3 := qzN p3
 by_cases p4 : (60 : Int) < c.ac.length
 ·have t4 := qzO p4
  have hf := lim (p := c.ac.length ≤ 60) (by omega) (fun h => by have := lims h; omega)
  clear lim lims
  go_wp2
  refine bodyPost_ret (by simp [results, Tryz.results44, go_sem, *]; rfl) rfl ⟨?_, ?_⟩
  ·first | exact ⟨_, ⟨_, rfl⟩, ⟨fun h => (by cases h), fun h => by rw [hf.out] at h; cases h⟩⟩ | exact ⟨_, _, rfl, ⟨fun h => (by cases h), fun h => by rw [hf.out] at h; cases h⟩⟩
  ·exact HB.out
 have t4 := qzN p4
 by_cases p5 : (400 : Int) < c.cl.length
 ·have t5 := qzO p5
  have hf := lim (p := c.cl.length ≤ 400) (by omega) (fun h => by have := lims h; omega)
  clear lim lims
  go_wp2
  refine bodyPost_ret (by simp [results, Tryz.results44, go_sem, *]; rfl) rfl ⟨?_, ?_⟩
  ·first | exact ⟨_, ⟨_, rfl⟩, ⟨fun h => (by cases h), fun h => by rw [hf.out] at h; cases h⟩⟩ | exact ⟨_, _, rfl, ⟨fun h => (by cases h), fun h => by rw [hf.out] at h; cases h⟩⟩
  ·exact HB.out
 have t5 := qzN p5
 have hlim : Hid (c.lim = true) := by
  unfold Hid Con.lim
  simp only [Bool.and_eq_true, decide_eq_true_eq]
  omega
 have HF := qzL (fun W hb => framed_any c m W (HC.out.then_ hb) (by omega))
 have hp0 : c.par ≤ 12 := by omega
 clear lim lims p0 p1 p2 p3 p4 p5
 cases hfr : c.framed with
 | false =>
  rw [hfr] at HF
  have hf : Hid (c.ok = false) := by unfold Hid Con.ok; rw [hfr, Bool.and_false]; rfl
  go_wp2_with (go_at_call 61; (with_reducible refine (HF.out _ HB.out).mono ?_); rintro e w1 ⟨rfl, hbw1⟩)
  refine bodyPost_ret (by simp [results, Tryz.results44, go_sem, *]; rfl) rfl ⟨?_, ?_⟩
  ·first | exact ⟨_, ⟨_, rfl⟩, ⟨fun h => (by cases h), fun h => by rw [hf.out] at h; cases h⟩⟩ | exact ⟨_, _, rfl, ⟨fun h => (by cases h), fun h => by rw [hf.out] at h; cases h⟩⟩
  ·exact xAa HB.out hbw1
 | true =>
 rw [hfr] at HF
 have hok : Hid (c.ok = c.clsOk 0 c.cl) := by unfold Hid Con.ok; rw [hlim.out, hfr]; rfl
 go_upto_region 5 with (go_at_call 61; (with_reducible refine (HF.out _ HB.out).mono ?_); rintro e w1 ⟨rfl, hbw1⟩)
 refine xAi ?_
 intro Y hY
 have gb : Blk Y ba 27 (coA c m) := by rw [hY]; exact ga.then_ hbw1
 have HY : Hid (Below w.heap.size w Y) := by rw [hY]; exact xAa HB.out hbw1
 clear hY hbw1 ga HB t0 t1 t2 t3 t4 t5 k0 k1 k2 k3 k4 k5 k6 HF hlim hfr hp0
 have k4 : Y.cell? ⟨ba, 4, none⟩ = some (.slice m.k c.cl.length m.kc) := gb.cell 4
 go_upto_region 6 with (fail)
 clear k4
 have lY := HY.out.size
 go_loopw [43] (fun y WR => ∃ j : Nat, j ≤ c.cl.length ∧ y = .int .i64 j ∧ Hid (∀ n k, n < j → c.cl[n]? = some k → c.claOk n k = true) ∧ Below Y.heap.size Y WR) (fun y _ => 2000000 - (intOf y).toNat)
 case atStart => exact ⟨0, by omega, rfl, fun n u h => absurd h (by omega), Below.refl _ _⟩
 case round =>
  obtain ⟨j, hj, rfl, hN, hbr⟩ := hrel
  have ga := gb.then_ hbr
  have HBR := qzL (xAa HY.out hbr)
  have HBZ := qzL hbr
  by_cases hlt : j < c.cl.length
  ·have tj : decide ((j : Int) < (c.cl.length : Int)) = true := qzO (by omega)
   obtain ⟨k, hk⟩ : ∃ k, c.cl[j]? = some k := ⟨_, qzJ hlt⟩
   have HX := qzL hk
   have HV := qzL (cla_any c m j k wr (HC.out.then_ HBR.out) hk)
   clear hk hbr
   obtain ⟨k0, k1, k2, k3, k4, k5, k6⟩ := coC (c := c) (m := m) (ga) rfl
   cases hq : c.claOk j k with
   | true =>
    rw [hq] at HV
    go_wp2_with (go_at_call 62; (with_reducible refine HV.out.mono ?_); rintro e w1 ⟨rfl, hbw1⟩)
    go_roundw
    case rel => exact ⟨j + 1, by omega, by simp, fun n y hi hy => by
     by_cases h : n = j
     ·subst h
      rw [HX.out] at hy
      injection hy with hy
      subst hy
      exact hq
     ·exact hN.out n y (by omega) hy, xAa HBZ.out hbw1⟩
    case measure => simp [intOf]; omega
   | false =>
    rw [hq] at HV
    have hf : Hid (c.ok = false) := by
     unfold Hid
     rw [hok.out, Bool.eq_false_iff]
     intro h
     have := (Con.clsOk_iff c c.cl 0).1 h j k HX.out
     rw [Nat.zero_add, hq] at this
     cases this
    go_wp2_with (go_at_call 62; (with_reducible refine HV.out.mono ?_); rintro e w1 ⟨rfl, hbw1⟩)
    refine bodyPost_ret (by simp [results, Tryz.results44, go_sem, *]; rfl) rfl ⟨?_, ?_⟩
    ·first | exact ⟨_, ⟨_, rfl⟩, ⟨fun h => (by cases h), fun h => by rw [hf.out] at h; cases h⟩⟩ | exact ⟨_, _, rfl, ⟨fun h => (by cases h), fun h => by rw [hf.out] at h; cases h⟩⟩
    ·exact xAa HBR.out hbw1
  ·have tj : decide ((j : Int) < (c.cl.length : Int)) = false := qzN (by omega)
   have hf : Hid (c.ok = true) := by
    unfold Hid
    rw [hok.out, Con.clsOk_iff]
    intro n k hk
    rw [Nat.zero_add]
    exact hN.out n k (by have := (qzM hk).1; omega) hk
   clear hbr hN gb
   go_wp2
   refine bodyPost_ret (by simp [results, Tryz.results44, go_sem, *]; rfl) rfl ⟨?_, ?_⟩
   ·first | exact ⟨_, ⟨_, rfl⟩, ⟨fun _ => hf.out, fun _ => rfl⟩⟩ | exact ⟨_, _, rfl, ⟨fun _ => hf.out, fun _ => rfl⟩⟩
   ·exact HBR.out
section
variable {P : Program} {ops : Array Oper} {Q : Exit → Act → World → Prop} {a : Act} {w : World} {rest : List Oper}
theorem wpList_new {o2 o3 : Oper} {n : Nat} (ty : TypeId) (E : ElT P ty n) (y : Operand) (d2 : Tmp) (g2 : o2.guard = none) (g3 : o3.guard = none)
  (ho2 : o2.op = .alloc ty) (hd2 : o2.dst = some d2) (ho3 : o3.op = .store ty (.tmp d2) y) (hd3 : o3.dst = none)
  (cs : List Value) (hn : cs.length = n) (h1 : ∀ v ∈ cs, v.oneCell' = true) (s2 : d2 < a.tmps.size) (hy : (a.put (some d2) (.pointer (some ⟨w.heap.size, 0, none⟩))).eval y = .agg cs.toArray)
  (h : wpList P ops Q rest (a.put (some d2) (.pointer (some ⟨w.heap.size, 0, none⟩))) (w.alloc (.cells cs.toArray ty))) : wpList P ops Q (o2 :: o3 :: rest) a w := by
 subst hn
 obtain ⟨⟨fs, hu⟩, hi, v, hz, hzr⟩ := E
 refine wpList_plain g2 fun K hK => ?_
 have hrun : (execOp (Act.eval a) o2).run P w = .ok (.value (.pointer (some ⟨w.heap.size, 0, none⟩))) (w.alloc (.cells v.cells ty)) := by
  unfold execOp
  simp only [ho2, Instr.alloc, Sem.run_bind, hzr, Result.andThen_ok, newVar, newRow]
  rfl
 unfold Oper.wp
 rw [hrun, Oper.upon_value]
 refine hK _ _ ?_
 rw [hd2]
 refine wpList_store_mid g3 ty _ _ ho3 w.heap.size 0 cs.toArray ?_ hy ?_ (by simpa using hi) (all_oneCell_toArray h1) ?_
 ·simp [Act.eval, Act.put, s2]
 ·intro j hj
  simp only [Nat.zero_add, List.size_toArray] at hj ⊢
  rw [World.cell?_alloc_at _ _ _ _ rfl, World.frozen?_alloc_at _ _ _ _ rfl]
  simp [hz, hj]
 ·rw [hd3]
  simp only
  rw [xC9 w ty _ cs hz]
  exact h
theorem xEx {g : Nat} {t : TypeId} : ∀ (vs pre old rest : List Value) (w : World), old.length = vs.length → Blk w g t (pre ++ old ++ rest).toArray → Blk (w.setCells g pre.length vs) g t (pre ++ vs ++ rest).toArray
 | [], pre, old, rest, w, h, hb => by
  obtain rfl : old = [] := List.eq_nil_of_length_eq_zero h
  exact hb
 | v :: vs, pre, old, rest, w, h, hb => by
  cases old with
  | nil => simp at h
  | cons r old =>
   simp only [World.setCells]
   have h1 := hb.set_ pre.length v
   have e1 : ((pre ++ r :: old ++ rest).toArray.setIfInBounds pre.length v) = ((pre ++ [v]) ++ old ++ rest).toArray := by simp
   rw [e1] at h1
   have h2 := xEx vs (pre ++ [v]) old rest _ (by simpa using h) h1
   simpa using h2
theorem ret_row {fn : Func} {r g : Nat} {t : TypeId} {cs : Array Value} (hres : fn.results = #[.cell r t]) (hp : a.tmps.getD r undef = .pointer (some ⟨g, 0, none⟩)) (hk : Blk w g t cs) (hu : ∃ fs, P.underlying t = some (.struct fs)) (hi : (P.info? t).map (·.size) = some cs.size) :
  (results fn a.tmps).run P w = .ok (.agg cs) w := by
 obtain ⟨fs, hu⟩ := hu
 have h1 := run_loadVar_row w g t t cs (0, 0) _ hk hu rfl hi
 rw [Array.getD_eq_getD_getElem?] at hp
 simp only [go_sem] at h1
 simp [results, hres, hp, go_sem]
 simpa using h1
end
def Own {α : Type} (w : World) (B : Nat) (T : TypeId) (size : Nat) (enc : α → List Value) (v : Value) (xs : List α) : Prop := w.ownsRow B T size v xs.length (xs.flatMap enc)
theorem getElem?_flatMap {α : Type} {enc : α → List Value} {size : Nat} (he : ∀ x, (enc x).length = size) : ∀ (xs : List α) (k j : Nat) (x : α), xs[k]? = some x → j < size → (xs.flatMap enc)[k * size + j]? = (enc x)[j]?
 | [], k, j, x, h, _ => by simp at h
 | y :: ys, 0, j, x, h, hj => by
  simp only [qzC, Option.some.injEq] at h
  subst h
  rw [List.flatMap_cons, Nat.zero_mul, Nat.zero_add, List.getElem?_append_left (by rw [he]; exact hj)]
 | y :: ys, k + 1, j, x, h, hj => by
  rw [qzB] at h
  rw [List.flatMap_cons, List.getElem?_append_right (by rw [he, Nat.add_mul]; omega), he, show (k + 1) * size + j - size = k * size + j by rw [Nat.add_mul]; omega]
  exact getElem?_flatMap he ys k j x h hj
section
variable {α : Type} {w w' : World} {B : Nat} {T : TypeId} {size : Nat} {enc : α → List Value} {v : Value} {xs : List α}
theorem Own.nil (w : World) (B : Nat) (T : TypeId) (size : Nat) (enc : α → List Value) : Own w B T size enc (.slice none 0 0) [] := World.ownsRow_nil w B T size
theorem xFs (h : Below w.heap.size w w') (row : Option Nat) : w.grownBy w' row := ⟨h.os, h.tape, h.output, h.size, fun i hi _ => h.block i hi⟩
theorem Own.below (h : Own w B T size enc v xs) (hb : Below w.heap.size w w') : Own w' B T size enc v xs := h.kept (xFs hb none) (by cases hv : v.ownBlock <;> simp)
theorem Own.alloc (h : Own w B T size enc v xs) (o : Obj) : Own (w.alloc o) B T size enc v xs := World.ownsRow.alloc h o
theorem Own.drewN (h : Own w B T size enc v xs) (n : Nat) : Own (w.drewN n) B T size enc v xs := h
theorem Own.setBelow (h : Own w B T size enc v xs) {p : Addr} (hp : p.block < B) (u : Value) : Own (w.setCell p u) B T size enc v xs := ownsRow_setCell_below h hp u
theorem Own.more (h : Own w B T size enc v xs) {B' : Nat} (hB : B' ≤ B) : Own w B' T size enc v xs := by
 refine ⟨h.1, ?_⟩
 rcases h.2 with h2 | ⟨g, cap, cur, hv, hg, r⟩
 ·exact .inl h2
 ·exact .inr ⟨g, cap, cur, hv, by omega, r⟩
theorem Own.seg (h : Own w B T size enc v xs) (he : ∀ x, (enc x).length = size) : ∃ A c, v = .slice A xs.length c ∧ xs.length ≤ c ∧ Seg w w.heap.size size enc A xs := by
 rcases h.2 with ⟨rfl, h0⟩ | ⟨g, cap, cur, rfl, hb, hg, hc, _, _, ht⟩
 ·obtain rfl : xs = [] := List.eq_nil_of_length_eq_zero h0
  exact ⟨none, 0, rfl, Nat.le_refl _, Seg.nil _ _ _ _ _⟩
 ·refine ⟨some ⟨g, 0, none⟩, cap, rfl, hc, fun k x hx => ⟨g, 0, rfl, (Array.getElem?_eq_some_iff.1 hg).1, fun j u hu => ?_⟩⟩
  have hj : j < size := by rw [← he x]; exact (qzM hu).1
  have hk : k < xs.length := (qzM hx).1
  have h1 : k * size + j < xs.length * size := by
   have : (k + 1) * size ≤ xs.length * size := Nat.mul_le_mul_right _ hk
   rw [Nat.add_mul] at this; omega
  have h2 := h.cellAt (g := g) (cap := cap) (k * size + j) h1
  simp only [Nat.zero_add]
  rw [h2, getElem?_flatMap he xs k j x hx hj]; exact hu
end
theorem xBh {P : Program} {α : Type} (w : World) {ops : Array Oper} {rest : List Oper} {o : Oper} {a : Act} {Q : Exit → Act → World → Prop} (hgd : o.guard = none) (s x : Operand) (t : TypeId)
  (ho : o.op = .call { callee := .builtin .append, args := #[s, x], argTypes := #[t, t] })
  (B : Nat) (e : TypeId) (i : TypeInfo) (z : Value) (size bytes : Nat) (ht : P.underlying t = some (.slice e)) (hi : P.info? e = some i) (hz : i.zero = some z)
  (hsize : i.size = size) (hby : i.bytes = bytes) (hzs : z.cells.size = size) (hsz : 0 < size) (hb1 : bytes ≤ 100000)
  (enc : α → List Value) (he : ∀ y, (enc y).length = size) (h1 : ∀ y, ∀ u ∈ enc y, u.oneCell' = true)
  (v : Value) (xs : List α) (hs : a.eval s = v) (hown : Own w B e size enc v xs) (hl : xs.length ≤ 1000000)
  (g c : Nat) (y : α) (hx : a.eval x = .slice (some ⟨g, 0, none⟩) 1 c) (hblk : Blk w g e (enc y).toArray) (hbase : B ≤ w.heap.size)
  (h : ∀ v' w', Own w' B e size enc v' (xs ++ [y]) → Below B w w' → w.grownBy w' v.ownBlock → wpList P ops Q rest (a.put o.dst v') w') : wpList P ops Q (o :: rest) a w := by
 refine wpList_append_own w hgd s x t ho B e i z size bytes ht hi hz hsize hby hzs hsz v xs.length (xs.flatMap enc) hs hown ⟨g, 0, none⟩ 1 c (enc y) hx (by rw [he]; simp) ?_ (h1 y) (by unfold maxLen; omega) ?_ hbase ?_
 ·intro j u hu
  have hadd : (⟨g, 0, none⟩ : Addr).add j = ⟨g, j, none⟩ := by unfold Addr.add; split <;> simp_all
  rw [hadd, hblk.cell j]; simpa using hu
 ·have : (xs.length + 1) * bytes ≤ 1000001 * 100000 := Nat.mul_le_mul (by omega) hb1
  omega
 ·intro v' w' h2 h3 _
  refine h v' w' ?_ ((Below.refl B w).grown h3 hbase fun k hk => (World.ownsRow.lt hown k hk).1) h3
  unfold Own
  rw [List.length_append, List.flatMap_append]
  simpa using h2
section
variable {α : Type} {w w' : World} {B : Nat} {T : TypeId} {enc : α → List Value} {xs : List α} {g n cap : Nat}
theorem Own.keepB {size : Nat} {v : Value} {B' : Nat} (h : Own w B T size enc v xs) (hb : Below B' w w') (hg : ∀ k, v.ownBlock = some k → k < B') : Own w' B T size enc v xs := by
 refine ⟨h.1, ?_⟩
 rcases h.2 with h2 | ⟨g, cap, cur, hv, hg', hh, r⟩
 ·exact .inl h2
 ·exact .inr ⟨g, cap, cur, hv, hg', (hb.block g (hg g (by rw [hv]; rfl))).trans hh, r⟩
theorem Own.setNe {size : Nat} {v : Value} (h : Own w B T size enc v xs) {p : Addr} (hne : ∀ k, v.ownBlock = some k → k ≠ p.block) (u : Value) : Own (w.setCell p u) B T size enc v xs := by
 refine ⟨h.1, ?_⟩
 rcases h.2 with h2 | ⟨g, cap, cur, hv, hg', hh, r⟩
 ·exact .inl h2
 ·exact .inr ⟨g, cap, cur, hv, hg', (Below.heap_setCell w p u g (hne g (by rw [hv]; rfl))).trans hh, r⟩
end
def lenV : Value → Nat | .slice _ n _ => n | _ => 0
theorem lenV_own {α : Type} {w : World} {B : Nat} {T : TypeId} {size : Nat} {enc : α → List Value} {v : Value} {xs : List α} (h : Own w B T size enc v xs) : lenV v = xs.length := by
 rcases h.2 with ⟨h1, h2⟩ | ⟨_, _, _, h1, _⟩
 ·rw [h1]; exact h2.symm
 ·rw [h1]; rfl
open Go.Sort
section
variable {P : Program} {ops : Array Oper} {md : Region.Mode} {S : World → Prop} {Q : Exit → Act → World → Prop} {hs ts : List Nat}
def wpHB (P : Program) (md : Region.Mode) (ops : Array Oper) (Q : Exit → Act → World → Prop) (S : World → Prop) (hs ts : List Nat) : Nat → Array Bool → Act → World → Prop
 | 0, listed, a, w => Cl md ops listed → (overB md ops hs listed = true ∧ tlB md ops ts listed = true) ∧ wpList P ops Q (xAn ops ts) a w
 | f + 1, listed, a, w => Cl md ops listed → Region.ready md ops listed ≠ [] ∧ ∀ i ∈ Region.ready md ops listed, hs.contains i = true ∧ wpOp P ops Q i (fun a' w' => S w' ∧ wpHB P md ops Q S hs ts f (listed.setIfInBounds i true) a' w') a w
theorem xE9 (hsel : Region.noSelect ops = true) (hQ : xCs Q) : ∀ (f : Nat) (listed : Array Bool) (a : Act) (w : World), Cl md ops listed → wpHB P md ops Q S hs ts f listed a w → wpAny P md ops Q (f + ts.length) listed a w
 | 0, listed, a, w, hcl, h => by
  obtain ⟨⟨h1, h2⟩, h3⟩ := h hcl
  rw [Nat.zero_add]
  exact xBu hsel hQ ts listed a w h2 h3
 | f + 1, listed, a, w, hcl, h => by
  obtain ⟨h1, h2⟩ := h hcl
  rw [show f + 1 + ts.length = (f + ts.length) + 1 by omega]
  exact ⟨fun h0 => absurd h0 h1, fun i hi => wpOp_mono (fun a' w' h' => xE9 hsel hQ f _ a' w' (hcl.set hi) h'.2) (h2 i hi).2⟩
theorem wpHB_first {i : Nat} {oi : Oper} {v : Value} (hi : ops[i]? = some oi) (hsel : ∀ (j : Nat) (o : Oper) cs b, ops[j]? = some o → o.op ≠ .select cs b) (hd : dirB md ops hs = true) (hin : i ∈ hs)
  (hQ : ∀ c a w, Q (.panic c) (a.put oi.dst v) w → Q (.panic c) a w) :
  ∀ (f : Nat) (listed : Array Bool) (a : Act) (w : World),
   (∀ j oj, ops[j]? = some oj → j ≠ i → listed.getD j true = false → (∀ e ∈ oj.after, Region.binds md e = true → e.on ≠ i) → oi.apart ops oj = true) →
   i ∈ Region.ready md ops listed → YieldsIf P ops S oi v a → S w →
   wpHB P md ops Q S hs ts f (listed.setIfInBounds i true) (a.put oi.dst v) w → wpHB P md ops Q S hs ts (f + 1) listed a w := by
 intro f
 induction f with
 | zero =>
  intro listed a w _ hr hy hS H hcl
  have H' := H (hcl.set hr)
  have hun := (mem_ready.1 hr).1
  refine ⟨fun h => (by rw [h] at hr; cases hr), fun j hj => ?_⟩
  have hjn : hs.contains j = true := by
   cases hc : hs.contains j with
   | true => rfl
   | false => exact absurd hj (xE6 hd hcl hc hin hun)
  refine ⟨hjn, ?_⟩
  by_cases hji : j = i
  ·subst hji; exact hy.wpOp hi hS ⟨hS, H⟩
  ·have h5 := List.all_eq_true.1 H'.1.1 j (ready_mono hj hji)
   rw [hjn] at h5
   cases h5
 | succ f ih =>
  intro listed a w hfree hr hy hS H hcl
  have H' := H (hcl.set hr)
  have hun := (mem_ready.1 hr).1
  refine ⟨fun h => (by rw [h] at hr; cases hr), fun j hj => ?_⟩
  have hjn : hs.contains j = true := by
   cases hc : hs.contains j with
   | true => rfl
   | false => exact absurd hj (xE6 hd hcl hc hin hun)
  refine ⟨hjn, ?_⟩
  by_cases hji : j = i
  ·subst hji; exact hy.wpOp hi hS ⟨hS, H⟩
  ·have h1 := (H'.2 j (ready_mono hj hji)).2
   obtain ⟨hjun, oj, hoj, hall⟩ := mem_ready.1 hj
   have hnot : ∀ e ∈ oj.after, Region.binds md e = true → e.on ≠ i := fun e he hb heq => by
    have h3 := hall e he hb
    rw [heq, getD_both hun] at h3
    cases h3
   have h2 := wpOp_putIf hoj (hfree j oj hoj hji hjun hnot) (fun cs b => hsel i oi cs b hi) (fun cs b => hsel j oj cs b hoj) hQ hy h1
   have hfree' : ∀ k ok, ops[k]? = some ok → k ≠ i → (listed.setIfInBounds j true).getD k true = false →
     (∀ e ∈ ok.after, Region.binds md e = true → e.on ≠ i) → oi.apart ops ok = true := fun k ok hk hki hku hno => by
    refine hfree k ok hk hki ?_ hno
    by_cases hjk : j = k
    ·subst hjk; exact hjun
    ·rw [getD_set_ne true hjk] at hku; exact hku
   refine wpOp_mono (fun a' w' h3 => ⟨h3.2.1, ih (listed.setIfInBounds j true) a' w' hfree' (ready_mono hr (Ne.symm hji)) h3.1 h3.2.1 ?_⟩) h2
   rw [Array.setIfInBounds_comm _ _ hji]
   exact h3.2.2
theorem xAd {i : Nat} {oi : Oper} {v : Value} {f : Nat} {listed : Array Bool} {a : Act} {w : World} (hd : dirB md ops hs = true) (hsel : Region.noSelect ops = true) (hQ : xCs Q) (hi : ops[i]? = some oi) (hin : hs.contains i = true)
  (hf : Region.free md ops listed i = true) (hr : (Region.ready md ops listed).contains i = true) (hy : YieldsIf P ops S oi v a) (hS : S w)
  (h : wpHB P md ops Q S hs ts f (listed.setIfInBounds i true) (a.put oi.dst v) w) : wpHB P md ops Q S hs ts (f + 1) listed a w :=
 wpHB_first hi (Region.noSelect_spec hsel) hd (by simpa using hin) (fun c a w hq => hQ c _ _ w (by cases oi.dst <;> rfl) hq) f listed a w (Region.free_spec hi hf) (by simpa using hr) hy hS h
def AllHB (P : Program) (md : Region.Mode) (ops : Array Oper) (Q : Exit → Act → World → Prop) (S : World → Prop) (hs ts : List Nat) (f : Nat) (listed : Array Bool) (a : Act) (w : World) (rs : List Nat) : Prop :=
 ∀ i ∈ rs, hs.contains i = true ∧ wpOp P ops Q i (fun a' w' => S w' ∧ wpHB P md ops Q S hs ts f (listed.setIfInBounds i true) a' w') a w
theorem AllHB.nil {f : Nat} {listed : Array Bool} {a : Act} {w : World} : AllHB P md ops Q S hs ts f listed a w [] := fun _ h => by cases h
theorem AllHB.cons {f : Nat} {listed : Array Bool} {a : Act} {w : World} {i : Nat} {o : Oper} {rs : List Nat} (hin : hs.contains i = true) (ho : ops[i]? = some o)
  (h : ∀ K' : Act → World → Prop, Go.Shut (∀ a w, S w → (S w → wpHB P md ops Q S hs ts f (listed.setIfInBounds i true) a w) → K' a w) → if Region.wanted o (yielded ops a.tmps) = true then Oper.wp P o a w K' Q else K' (a.put o.dst undef) w)
  (hr : AllHB P md ops Q S hs ts f listed a w rs) : AllHB P md ops Q S hs ts f listed a w (i :: rs) := fun j hj => by
 rcases List.mem_cons.1 hj with rfl | hj
 ·exact ⟨hin, wpOp_step ho (fun K' hK => h K' (fun a w hS hW => hK a w ⟨hS, hW hS⟩))⟩
 ·exact hr j hj
theorem xAt {rs : List Nat} {f : Nat} {listed : Array Bool} {a : Act} {w : World} (hr : Region.ready md ops listed = rs) (hne : rs ≠ [])
  (h : AllHB P md ops Q S hs ts f listed a w rs) : wpHB P md ops Q S hs ts (f + 1) listed a w := fun _ => ⟨fun h0 => hne (hr ▸ h0), hr ▸ h⟩
theorem xA6 {listed : Array Bool} {a : Act} {w : World} (h1 : overB md ops hs listed = true) (h2 : tlB md ops ts listed = true) (h : wpList P ops Q (xAn ops ts) a w) : wpHB P md ops Q S hs ts 0 listed a w := fun _ => ⟨⟨h1, h2⟩, h⟩
end
theorem xBf {P : Program} {id : Nat} {Q : Exit → Act → World → Prop} {a : Act} {w : World} {l : List Oper} (S : World → Prop) (hs ts : List Nat) (hm : P.follows .mixedOrders = true)
  (hB : (Region.noSelect l.toArray && decide (hs.length + ts.length = l.toArray.size) && dirB .any l.toArray hs) = true) (hQ : xCs Q) (hS : S w.drew)
  (h : dirB .any l.toArray hs = true → Region.noSelect l.toArray = true → xCs Q → S w.drew → wpHB P .any l.toArray Q S hs ts hs.length (Array.replicate l.toArray.size false) a w.drew) : (Code.region id l.toArray true).wp P Q a w := by
 simp only [Bool.and_eq_true, decide_eq_true_eq] at hB
 obtain ⟨⟨hsel, hn⟩, hd⟩ := hB
 refine wp_region_any hm ?_
 have := xE9 (md := .any) (ts := ts) hsel hQ hs.length (Array.replicate l.toArray.size false) a w.drew (fun j oj _ hl => by rw [getD_replicate_false] at hl; cases hl) (h hd hsel hQ hS)
 rwa [hn] at this
theorem yieldsIf_row {P : Program} {ops : Array Oper} {S : World → Prop} {op : Oper} {a : Act} (hw : Region.wanted op (yielded ops a.tmps) = true) (ty : TypeId) (x : Operand) (ho : op.op = .load ty x) (g : Nat) (hx : a.eval x = .pointer (some ⟨g, 0, none⟩)) (t : TypeId) (cs : Array Value) (hS : ∀ w, S w → Blk w g t cs)
  (hu : ∃ fs, P.underlying ty = some (.struct fs)) (hi : (P.info? ty).map (·.size) = some cs.size) : YieldsIf P ops S op (.agg cs) a := by
 obtain ⟨fs, hu⟩ := hu
 refine .inl ⟨hw, fun w hs => ?_⟩
 have h1 := run_loadVar_row w g t ty cs (0, 0) _ (hS w hs) hu rfl hi
 unfold execOp
 simp only [ho, hx, Instr.loadAt, Instr.sureAddr, Sem.run_bind, Sem.run_pure, Result.andThen_ok]
 rw [h1]
 rfl
theorem Blk.range {w : World} {b : Nat} {t : TypeId} {pre mid post : List Value} (h : Blk w b t (pre ++ mid ++ post).toArray) : w.rangeAt b pre.length mid := fun j v hv => by
 rw [h.cell]
 have hj := (qzM hv).1
 rw [qzA, List.append_assoc, List.getElem?_append_right (by omega), show pre.length + j - pre.length = j by omega, List.getElem?_append_left hj]
 exact hv
structure Upd (w w' : World) (g : Nat) : Prop where
 b : ∀ B, B ≤ g → Below B w w'
 f : ∀ x, x ≠ g → w'.heap[x]? = w.heap[x]?
 s : w'.heap.size = w.heap.size
theorem Upd.cell {w w' : World} {g : Nat} (h : Upd w w' g) {x o : Nat} (hx : x ≠ g) : w'.cell? ⟨x, o, none⟩ = w.cell? ⟨x, o, none⟩ := World.cell?_of_block (h.f x hx)
theorem Blk.upd {w w' : World} {g b : Nat} {t : TypeId} {cs : Array Value} (h : Blk w b t cs) (u : Upd w w' g) (hb : b ≠ g) : Blk w' b t cs := (u.f b hb).trans h
theorem Upd.refl (w : World) (g : Nat) : Upd w w g := ⟨fun _ _ => Below.refl _ _, fun _ _ => rfl, rfl⟩
theorem Upd.setCell {w w' : World} {g : Nat} (h : Upd w w' g) (o : Nat) (v : Value) : Upd w (w'.setCell ⟨g, o, none⟩ v) g :=
 ⟨fun B hB => (h.b B hB).setCell (p := ⟨g, o, none⟩) hB v, fun x hx => (Below.heap_setCell w' ⟨g, o, none⟩ v x hx).trans (h.f x hx), by simpa using h.s⟩
theorem Upd.setCells {w : World} {g : Nat} : ∀ (vs : List Value) (o : Nat) (w' : World), Upd w w' g → Upd w (w'.setCells g o vs) g
 | [], _, _, h => h
 | v :: vs, o, w', h => by
  simp only [World.setCells]
  exact Upd.setCells vs (o + 1) _ (h.setCell o v)
theorem Upd.trans {a b c : World} {g : Nat} (h : Upd a b g) (k : Upd b c g) : Upd a c g := ⟨fun B hB => (h.b B hB).trans (k.b B hB), fun x hx => (k.f x hx).trans (h.f x hx), k.s.trans h.s⟩
theorem Seg.upd {α : Type} {w w' : World} {g B size : Nat} {enc : α → List Value} {A : Option Addr} {xs : List α} (h : Seg w B size enc A xs) (u : Upd w w' g) (hp : ∀ a, A = some a → a.block ≠ g) : Seg w' B size enc A xs := fun k x hx => by
 obtain ⟨b, off, e, hb, hc⟩ := h k x hx
 exact ⟨b, off, e, hb, fun j v hv => (u.cell (hp _ e)).trans (hc j v hv)⟩
theorem Own.upd {α : Type} {w w' : World} {B g : Nat} {T : TypeId} {size : Nat} {enc : α → List Value} {v : Value} {xs : List α} (h : Own w B T size enc v xs) (u : Upd w w' g) (hg : ∀ k, v.ownBlock = some k → k ≠ g) : Own w' B T size enc v xs := by
 refine ⟨h.1, ?_⟩
 rcases h.2 with h2 | ⟨k, cap, cur, hv, hk, hh, r⟩
 ·exact .inl h2
 ·exact .inr ⟨k, cap, cur, hv, hk, by rw [u.f k (hg k (by rw [hv]; rfl))]; exact hh, r⟩
theorem xGy {P : Program} {o : Oper} {a : Act} {w : World} {K : Act → World → Prop} {Q : Exit → Act → World → Prop} (ty : TypeId) (x y : Operand) (ho : o.op = .store ty x y) (g : Nat) (t : TypeId) (pre old post cs : List Value) (hx : a.eval x = .pointer (some ⟨g, pre.length, none⟩)) (hy : a.eval y = .agg cs.toArray)
  (hb : Blk w g t (pre ++ old ++ post).toArray) (hlen : old.length = cs.length) (hi : (P.info? ty).map (·.size) = some cs.length) (h1 : ∀ v ∈ cs, v.oneCell' = true)
  (h : ∀ w', Blk w' g t (pre ++ cs ++ post).toArray → Upd w w' g → K (a.put o.dst undef) w') : o.wp P a w K Q := by
 refine wp_store_mid ty x y ho g pre.length cs.toArray hx hy ?_ (by simpa using hi) (all_oneCell_toArray h1) ?_
 ·intro j hj
  simp only [List.size_toArray] at hj
  rw [hb.cell, hb.frozen]
  refine ⟨?_, rfl⟩
  simp; omega
 ·rw [List.toList_toArray]
  exact h _ (xEx cs pre old post w hlen hb) (Upd.setCells cs pre.length w (Upd.refl w g))
theorem xAh {P : Program} {ops : Array Oper} {rest : List Oper} {Q : Exit → Act → World → Prop} {a : Act} {w : World} {o : Oper} (hgd : o.guard = none) (ty : TypeId) (x y : Operand) (ho : o.op = .store ty x y) (g : Nat) (t : TypeId) (pre old post cs : List Value) (hx : a.eval x = .pointer (some ⟨g, pre.length, none⟩)) (hy : a.eval y = .agg cs.toArray)
  (hb : Blk w g t (pre ++ old ++ post).toArray) (hlen : old.length = cs.length) (hi : (P.info? ty).map (·.size) = some cs.length) (h1 : ∀ v ∈ cs, v.oneCell' = true)
  (h : ∀ w', Blk w' g t (pre ++ cs ++ post).toArray → Upd w w' g → wpList P ops Q rest (a.put o.dst undef) w') : wpList P ops Q (o :: rest) a w :=
 wpList_plain hgd fun _K hK => xGy ty x y ho g t pre old post cs hx hy hb hlen hi h1 fun w' h2 h3 => hK _ _ (h w' h2 h3)
end Go.Proofs.YtffceokjeonpcaaGreatDoor
