/- Contracts of functions and plain laws, joined: Uh. -/
import Derived.Test.YtginnonjdbpamaaGreatDoorMc24
/- The walk of a reading's tick. -/
import Derived.Test.YtginnonjdbpamaaGreatDoorMc1
set_option maxHeartbeats 12800000
set_option maxRecDepth 100000
namespace Go.Proofs.YtginnonjdbpamaaGreatDoor
open Go.RowKit Go.Sort Go.Maps
theorem tickR_any (w0 : World) (b : Nat) (c : Con) (m : Cm) (r : Rd) (wl : Int → List Int) (q : Rq) (w : World) (t : Int) (hW : Rdm w0 w b c m r wl q) (hok : c.ok = true) (hI : RInv c r) (hday : 0 ≤ r.day ∧ r.day ≤ 1000000) :
  Calls Tryz.prog 89 #[.pointer (some ⟨b, 0, none⟩), .int .i64 t] w fun e w' => RetD w0 w b c m r (r.tickW c) wl q (fun x => x = b ∨ x = q.o ∨ x = q.k) e w' := by
 have HW := qzL hW
 have HI := qzL hI
 have HOK := qzL hok
 have nk := hW.cn.nk
 have no := hW.no
 have hlo : r.oc.length = c.cl.length := hW.lo
 have HLO := qzL hlo
 have HQ := qzL hW.qb
 obtain ⟨fr, hfr⟩ : ∃ fr, decide (r.day ∈ c.off) = fr := ⟨_, rfl⟩
 have HF := qzL (fun W (hb : Below w.heap.size w W) => freeR_any c m q.bc r.day W (hW.then_ hb).gc (((hW.cn.o.below hW.hb).more (by have := hW.hb.size; omega : w0.heap.size ≤ w.heap.size)).below hb |>.more hb.size) (ok_off hok) hW.cn.no)
 rw [hfr] at HF
 have HTW : Hid (r.tickW c = { r with day := r.day + 1, oc := List.zipWith (xBn fr r.steps) c.cl r.oc }) := by unfold Hid Rd.tickW; rw [hfr]
 obtain ⟨i3, hi3, hz30, hz31, hz32⟩ := info_parts (show (Tryz.prog.info? 3).map (fun i => (i.zero, i.size, i.bytes)) = some (some (.int .i64 0), 1, 8) by kernel_rfl)
 have k11 : w.cell? ⟨b, 11, none⟩ = some (.func (.func 84) #[] #[.pointer (some ⟨q.bc, 0, none⟩)]) := hW.g.cell 11
 have k8 : w.cell? ⟨b, 8, none⟩ = some (.int .i64 r.day) := hW.g.cell 8
 clear hW hI hok hfr hlo
 go_enter Tryz.func89, Tryz.ntmps89
 go_upto_region 1 with (fail)
 have rg0 := cR k11
 have rg1 := cR k8
 refine xAe [0, 1, 2, 3, 4, 5, 6, 7, 8] [9] (by kernel_rfl) (by kernel_rfl) pO ?_
 simp only [xAm, qzA, qzB, qzC, qzD, qzE, qzF]
 repeat (go_big_quiet_step ((go_at_call 84; exact xAp (fun W' hW => HF.out W' hW) _ _)))
 refine wpQuiet_nil ?_
 intro Y hw2
 have hbY := xAh hw2
 clear hw2 rg0 rg1
 have HYB := qzL hbY
 have HRY := qzL (HW.out.then_ hbY)
 clear k11 k8 hbY
 have k8 : Y.cell? ⟨b, 8, none⟩ = some (.int .i64 r.day) := HRY.out.g.cell 8
 have f8 : Y.frozen? ⟨b, 8, none⟩ = false := HRY.out.g.frozen 8
 go_upto_region 4 with (fail)
 refine xAf ?_
 intro X hX
 have HRX : Hid (Rdm w0 X b c m { r with day := r.day + 1 } wl q) := by rw [hX]; exact HRY.out.setDay _
 have HKX : Hid (Kept w X (fun x => x = b ∨ x = q.o ∨ x = q.k)) := by rw [hX]; exact (Kept.of_below HYB.out).setCell (.inl rfl)
 clear hX k8 f8
 have k4 : X.cell? ⟨b, 4, none⟩ = some (.slice m.k c.cl.length m.kc) := HRX.out.g.cell 4
 have h0 : Hid (RLp (xBn fr r.steps) w0 w X b c m { r with day := r.day + 1 } wl q (fun x => x = b ∨ x = q.o ∨ x = q.k) w.heap.size 0 (.slice none 0 0) []) := ⟨HRX.out, HKX.out, Own.nil _ _ _ _ _, EndS.zero⟩
 go_upto_region 5 with (fail)
 clear HRX HKX HRY HYB k4
 go_loopw [6, 32] (fun v y WR => ∃ (i : Nat) (L : List Int), y = .int .i64 i ∧ i ≤ c.cl.length ∧ Hid (RLp (xBn fr r.steps) w0 w WR b c m { r with day := r.day + 1 } wl q (fun x => x = b ∨ x = q.o ∨ x = q.k) w.heap.size i v L)) (fun _ y _ => 2000000 - (intOf y).toNat)
 case atStart => exact ⟨0, [], rfl, by omega, h0⟩
 case round =>
  clear h0
  obtain ⟨i, L, rfl, hi, hP⟩ := hrel
  by_cases hlt : i < c.cl.length
  case neg =>
   obtain rfl : i = c.cl.length := by omega
   have tl : decide (((c.cl.length : Nat) : Int) < ((c.cl.length : Nat) : Int)) = false := qzN (by omega)
   go_wp2
   go_ret
   have hP := hP.out
   have hrd := hP.rd
   rw [xEx (show ({ r with day := r.day + 1 } : Rd).oc.length = c.cl.length from HLO.out)] at hrd
   rw [HTW.out]
   exact ⟨_, L, rfl, hrd, hP.k, hP.o, EndS.all (r := r) (show EndS _ c.cl r.oc c.cl.length L from hP.e) rfl⟩
  have tl : decide ((i : Int) < (c.cl.length : Int)) = true := qzO (by omega)
  obtain ⟨k, hk⟩ : ∃ k, c.cl[i]? = some k := ⟨_, qzJ hlt⟩
  obtain ⟨x, hx⟩ : ∃ x, r.oc[i]? = some x := ⟨_, qzJ (by rw [HLO.out]; exact hlt)⟩
  have hmx : (mixP (xBn fr r.steps) c.cl r.oc i)[i]? = some x := (xFj HLO.out hlt).trans hx
  have hmi := qzL (HI.out.inv i k x hk hx)
  have hkv := xDr HOK.out (qzK hk)
  have hkb := xH3 HOK.out (qzK hk)
  have hg0 := hkv.g0
  have hg1 := hkv.g1
  have ha1 := hkv.a1
  have hkd := qzL hkv.kd
  have HG1 := qzL hg1
  obtain ⟨hb1, hb2⟩ := hkb
  obtain ⟨oc', hoc⟩ : ∃ l, mixP (xBn fr r.steps) c.cl r.oc i = l := ⟨_, rfl⟩
  have hR0 := hP.out.rd
  rw [show ({ r with day := r.day + 1 } : Rd).oc = r.oc from rfl, hoc] at hR0
  rw [hoc] at hmx
  have HOC := qzL hoc
  obtain ⟨r2, hr2⟩ : ∃ R, ({ r with day := r.day + 1 } : Rd).wo oc' = R := ⟨_, rfl⟩
  have ho2 : r2.oc = oc' := by rw [← hr2]
  have hs2 : Hid (r2.steps = r.steps) := by unfold Hid; rw [← hr2]
  rw [hr2] at hR0
  rw [← ho2] at hmx
  have HR2 := qzL hr2
  have HO2 := qzL ho2
  have HR := qzL hR0
  have HMX := qzL hmx
  have HK := qzL hk
  have HX := qzL hx
  have hil : i < r2.oc.length := (qzM hmx).1
  have n2 := hR0.no
  have hok2 := hP.out.o
  have hLn : Hid (L.length ≤ 1000000) := by unfold Hid; have := hP.out.e.n; omega
  obtain ⟨kx, hkx, hkk⟩ := xCv hR0.cn.e hk
  subst hkk
  obtain ⟨b0, o0, eA0, hb0, hc0⟩ := xAx (hR0.cn.k.below hR0.hb) hkx
  have hix0 := fun W => xAq (t := 25) (size := 16) (cap := m.kc) eA0 hlt (by kernel_rfl) (fun W => by kernel_rfl) W
  have hix := fun W => xAy (t := 37) (size := 5) (g := q.o) (cap := q.oc) hil (by kernel_rfl) (fun W => by kernel_rfl) W
  have hixk := fun W => xAy (t := 82) (size := 2) (g := q.k) (cap := q.kc) hil (by kernel_rfl) (fun W => by kernel_rfl) W
  have hrg : wr.rangeAt b0 (o0 + i * 16) (kL kx) := fun j v hv => hc0 j v hv
  have lwr := hP.out.k.size
  have HO := qzL hok2
  clear hc0 eA0 hkx hk hx hmx hoc hr2 hR0 hok2 hg1 hkv ho2
  go_upto_region 7 with ((refine xBu 52 el16 _ _ _ _ _ rfl rfl rfl rfl rfl rfl rfl rfl rfl rfl rfl rfl b0 _ rfl (kL kx) rfl hrg (by simp [Value.oneCell']) (by decide) (by decide) (by decide) (by simp) (by simp) (.int .i64 (i : Nat)) rfl ?_; simp only [Act.put, qzG, qzH, qzI]))
  refine xAf ?_
  intro V hV
  have gx : Blk V wr.heap.size 52 (kL kx).toArray := by rw [hV]; exact Blk.new _ _ _
  have HVB : Hid (Below wr.heap.size wr V) := by rw [hV]; exact wa1 _ _
  obtain ⟨bx, ex⟩ : ∃ b, wr.heap.size = b := ⟨_, rfl⟩
  have lbx : Hid (w.heap.size ≤ bx) := by unfold Hid; omega
  rw [ex] at gx ⊢
  have GX := qzL gx
  have HRV := qzL (HR.out.then_ HVB.out)
  have HOV := qzL (HO.out.below HVB.out)
  have HRUN := qzL (xFe w0 b c m r2 wl q i x V HRV.out HMX.out)
  clear hV ex hrg hix0 gx hb0
  obtain ⟨rb, hrb⟩ : ∃ z, x.1.runs = z := ⟨_, rfl⟩
  obtain ⟨pb, hpb⟩ : ∃ z, x.2.pau = z := ⟨_, rfl⟩
  obtain ⟨ub, hub⟩ : ∃ z, kx.k.bus = z := ⟨_, rfl⟩
  rw [hrb] at HRUN
  have HRB := qzL hrb
  have HPB := qzL hpb
  have HUB := qzL hub
  clear hrb hpb hub
  cases rb with
  | false =>
   have hs : Hid (xBn fr r.steps kx.k x = x) := by unfold Hid xBn xB3; rw [if_pos (.inl HRB.out)]
   go_wp2_with (go_at_call 113; (with_reducible refine HRUN.out.mono ?_); rintro e w1 ⟨rfl, hb1'⟩)
   go_roundw
   case rel => exact ⟨i + 1, L, by simp, by omega, hP.out.skip HLO.out HK.out HX.out hs.out (xAa HVB.out hb1')⟩
   case measure => simp [intOf]; omega
  | true =>
  cases pb with
  | true =>
   have hs : Hid (xBn fr r.steps kx.k x = x) := by unfold Hid xBn xB3; rw [if_pos (.inr (.inl HPB.out))]
   go_wp2_with (go_at_call 113; (with_reducible refine HRUN.out.mono ?_); rintro e w1 ⟨rfl, hb1'⟩; have hrw := HRV.out.then_ hb1'; have k13' : w1.cell? ⟨b, 13, none⟩ = some (.slice (some ⟨q.k, 0, none⟩) r2.oc.length q.kc) := hrw.g.cell 13; have z1' : w1.cell? ⟨q.k, i * 2 + 1, none⟩ = some (.bool x.2.pau) := (hrw.cnt HMX.out).2.1; rw [HPB.out] at z1'; have y7' : w1.cell? ⟨bx, 7, none⟩ = some (.bool kx.k.bus) := (GX.out.then_ hb1').cell 7; rw [HUB.out] at y7'; clear hrw)
   go_roundw
   case rel => exact ⟨i + 1, L, by simp, by omega, hP.out.skip HLO.out HK.out HX.out hs.out (xAa HVB.out hb1')⟩
   case measure => simp [intOf]; omega
  | false =>
  by_cases hskip : ub = true ∧ fr = true
  case pos =>
   obtain ⟨rfl, rfl⟩ := hskip
   have hs : Hid (xBn true r.steps kx.k x = x) := by unfold Hid xBn xB3; rw [if_pos (.inr (.inr ⟨HUB.out, rfl⟩))]
   go_wp2_with (go_at_call 113; (with_reducible refine HRUN.out.mono ?_); rintro e w1 ⟨rfl, hb1'⟩; have hrw := HRV.out.then_ hb1'; have k13' : w1.cell? ⟨b, 13, none⟩ = some (.slice (some ⟨q.k, 0, none⟩) r2.oc.length q.kc) := hrw.g.cell 13; have z1' : w1.cell? ⟨q.k, i * 2 + 1, none⟩ = some (.bool x.2.pau) := (hrw.cnt HMX.out).2.1; rw [HPB.out] at z1'; have y7' : w1.cell? ⟨bx, 7, none⟩ = some (.bool kx.k.bus) := (GX.out.then_ hb1').cell 7; rw [HUB.out] at y7'; clear hrw)
   go_roundw
   case rel => exact ⟨i + 1, L, by simp, by omega, hP.out.skip HLO.out HK.out HX.out hs.out (xAa HVB.out hb1')⟩
   case measure => simp [intOf]; omega
  have hgo : Hid (¬ (x.1.runs = false ∨ x.2.pau = true ∨ (kx.k.bus = true ∧ fr = true))) := by
   unfold Hid
   rw [HRB.out, HPB.out, HUB.out]
   rintro (h | h | h)
   ·cases h
   ·cases h
   ·exact hskip h
  obtain ⟨hInv, hGN, hTo⟩ := hmi.out
  have hdb : 0 ≤ x.2.days ∧ x.2.days ≤ 1000 := by
   rcases hInv.run.1 HRB.out with e | e
   ·have := hInv.l1 e; omega
   ·have := hInv.l2 e; omega
  clear hInv hGN hTo
  have hcases : ub = false ∨ (ub = true ∧ fr = false) := by
   cases ub with
   | false => exact .inl rfl
   | true =>
    cases hf : fr with
    | false => exact .inr ⟨rfl, rfl⟩
    | true => exact absurd ⟨rfl, hf⟩ hskip
  have hmore : ∀ (W : World) , Hid (Below V.heap.size V W) → Hid (Rdm w0 W b c m r2 wl q) := fun W h => HRV.out.then_ h.out
  clear hskip
  rcases hcases with rfl | ⟨rfl, rfl⟩
  ·go_upto_region 8 with (go_at_call 113; (with_reducible refine HRUN.out.mono ?_); rintro e w1 ⟨rfl, hb1'⟩; have hrw := HRV.out.then_ hb1'; have k13' : w1.cell? ⟨b, 13, none⟩ = some (.slice (some ⟨q.k, 0, none⟩) r2.oc.length q.kc) := hrw.g.cell 13; have z1' : w1.cell? ⟨q.k, i * 2 + 1, none⟩ = some (.bool x.2.pau) := (hrw.cnt HMX.out).2.1; rw [HPB.out] at z1'; have y7' : w1.cell? ⟨bx, 7, none⟩ = some (.bool kx.k.bus) := (GX.out.then_ hb1').cell 7; rw [HUB.out] at y7'; clear hrw)
   refine xAf ?_
   intro U hU
   have hbU : Below V.heap.size V U := by rw [hU]; exact hb1'
   have HBU := qzL (xAa HVB.out hbU)
   have HRU := qzL (HRV.out.then_ hbU)
   have GU := qzL (GX.out.then_ hbU)
   have HOU := qzL (HOV.out.below hbU)
   clear hU hb1' k13' z1' y7' hbU HRUN
   have k13 : U.cell? ⟨b, 13, none⟩ = some (.slice (some ⟨q.k, 0, none⟩) r2.oc.length q.kc) := HRU.out.g.cell 13
   obtain ⟨⟨z0, f0⟩, _⟩ := HRU.out.cnt HMX.out
   go_upto_region 9 with (fail)
   refine xAf ?_
   intro Z hZ
   have HRZ : Hid (Rdm w0 Z b c m (r2.wo (r2.oc.set i (x.1, ⟨x.2.days + 1, x.2.pau⟩))) wl q) := by rw [hZ]; exact HRU.out.setK (j := 0) (y := ⟨x.2.days + 1, x.2.pau⟩) HMX.out (by omega) rfl
   have HKZ : Hid (Kept wr Z (fun y => y = b ∨ y = q.o ∨ y = q.k)) := by rw [hZ]; exact (Kept.of_below HBU.out).setCell (.inr (.inr rfl))
   have nxk : Hid (bx ≠ q.k ∧ bx ≠ q.o) := by unfold Hid; have h1 := HQ.out.k; have h2 := HQ.out.o; have := lbx.out; omega
   have GZ : Hid (Blk Z bx 52 (kL kx).toArray) := by rw [hZ]; exact GU.out.far nxk.out.1 _
   have HOZ : Hid (Own Z w.heap.size 3 1 eI u6 L) := by rw [hZ]; exact HOU.out.setNe (HOU.out.ne_ (p := q.k) HQ.out.k) _
   clear hZ k13 z0 f0
   have k13 : Z.cell? ⟨b, 13, none⟩ = some (.slice (some ⟨q.k, 0, none⟩) r2.oc.length q.kc) := by have := HRZ.out.g.cell 13; simpa using this
   have k14 : Z.cell? ⟨b, 14, none⟩ = some (.slice (some ⟨q.o, 0, none⟩) r2.oc.length q.oc) := by have := HRZ.out.g.cell 14; simpa using this
   have hxz : (r2.wo (r2.oc.set i (x.1, ⟨x.2.days + 1, x.2.pau⟩))).oc[i]? = some (x.1, ⟨x.2.days + 1, x.2.pau⟩) := List.getElem?_set_self hil
   have HXZ := qzL hxz
   obtain ⟨⟨z0, _⟩, _⟩ := HRZ.out.cnt hxz
   obtain ⟨⟨o0', of0⟩, _⟩ := HRZ.out.out hxz
   have x5 : Z.cell? ⟨bx, 5, none⟩ = some (.int .i64 kx.k.aft) := GZ.out.cell 5
   have x6 : Z.cell? ⟨bx, 6, none⟩ = some (.int .i64 kx.k.grace) := GZ.out.cell 6
   have x0 : Z.cell? ⟨bx, 0, none⟩ = some (.int .i64 kx.k.kind) := GZ.out.cell 0
   clear hxz
   have hset : Hid (∀ y, (r2.wo (r2.oc.set i (x.1, ⟨x.2.days + 1, x.2.pau⟩))).wo ((r2.wo (r2.oc.set i (x.1, ⟨x.2.days + 1, x.2.pau⟩))).oc.set i y) = ({ r with day := r.day + 1 } : Rd).wo ((mixP (xBn fr r.steps) c.cl r.oc i).set i y)) := fun y => by
    have e9 : ∀ (a d : Out × Cnt), (r2.oc.set i a).set i d = r2.oc.set i d := fun a d => List.set_set _
    show r2.wo ((r2.oc.set i _).set i y) = _
    rw [e9, HO2.out, ← HR2.out, ← HOC.out]
   have hset1 : Hid (r2.wo (r2.oc.set i (x.1, ⟨x.2.days + 1, x.2.pau⟩)) = ({ r with day := r.day + 1 } : Rd).wo ((mixP (xBn fr r.steps) c.cl r.oc i).set i (x.1, ⟨x.2.days + 1, x.2.pau⟩))) := by
    unfold Hid
    rw [HO2.out, ← HR2.out, ← HOC.out]
   by_cases h1 : x.2.days + 1 < kx.k.aft
   ·have t1 := qzO h1
    have hf : Hid (xBn fr r.steps kx.k x = (x.1, ⟨x.2.days + 1, x.2.pau⟩)) := by unfold Hid xBn xB3; rw [if_neg hgo.out, if_pos h1]
    clear h1
    go_wp2
    go_roundw
    case rel => exact ⟨i + 1, L, by simp, by omega, hP.out.chg HLO.out HK.out HX.out (by have := HRZ.out; rwa [hset1.out] at this) hf.out.symm HKZ.out HOZ.out (by rw [hf.out]; exact HRB.out)⟩
    case measure => simp [intOf]; omega
   have t1 := qzN h1
   by_cases h2 : x.2.days + 1 < kx.k.aft + kx.k.grace
   ·have t2 := qzO h2
    have hf : Hid (xBn fr r.steps kx.k x = ({ x.1 with st := 2 }, ⟨x.2.days + 1, x.2.pau⟩)) := by unfold Hid xBn xB3; rw [if_neg hgo.out, if_neg h1, if_pos h2]
    have hfr : Hid ((xBn fr r.steps kx.k x).1.runs = true) := by unfold Hid; rw [hf.out]; exact HRB.out
    have hR9 := qzL (HRZ.out.setO (j := 0) (y := { x.1 with st := 2 }) (v := .int .i64 2) HXZ.out (by omega) rfl)
    rw [hset.out] at hR9
    clear h1 h2
    go_wp2
    go_roundw
    case rel => exact ⟨i + 1, L, by simp, by omega, hP.out.chg HLO.out HK.out HX.out hR9.out hf.out.symm (HKZ.out.setCell (.inr (.inl rfl))) (HOZ.out.setNe (HOZ.out.ne_ (p := q.o) HQ.out.o) _) hfr.out⟩
    case measure => simp [intOf]; omega
   have t2 := qzN h2
   have HE := qzL (fun st => xG5 w0 b c m _ wl q i _ st Z HRZ.out HXZ.out)
   have hfE : Hid (xBn fr r.steps kx.k x = ({ x.1 with st := if kx.k.kind = 1 then 4 else if kx.k.kind = 2 then 3 else 5, to_ := r.steps }, ⟨x.2.days + 1, x.2.pau⟩)) := by unfold Hid xBn xB3; rw [if_neg hgo.out, if_neg h1, if_neg h2]
   clear h1 h2
   have hkd3 : kx.k.kind = 1 ∨ kx.k.kind = 2 ∨ (kx.k.kind = 3 ∨ kx.k.kind = 4) := hkd.out
   rcases hkd3 with e | e | e
   ·have k1 : (kx.k.kind == 1) = true := by simp [e]
    have k2 : (kx.k.kind == 2) = false := by simp [e]
    have hst : Hid (xBn fr r.steps kx.k x = ({ x.1 with st := 4, to_ := r.steps }, ⟨x.2.days + 1, x.2.pau⟩)) := by unfold Hid; rw [hfE.out]; rw [if_pos e]
    clear e
    go_wp2_with (first | (go_at_call 115; (with_reducible refine (HE.out 4).mono ?_); rintro e w1 ⟨rfl, hr1, hk1⟩; clear k13 k14 z0 o0' of0 x5 x6 x0; have HO1 := qzL (HOZ.out.keepP hk1 (fun y e => by rw [e]; exact HQ.out.o)); have lw1 : w.heap.size ≤ w1.heap.size := (by have := hP.out.k.size; have := HKZ.out.size; have := hk1.size; omega)) | (at_builtin; refine xA8 _ rfl (.tmp 114) (.tmp 116) _ rfl w.heap.size 3 i3 _ 1 8 Tryz.underlying22 hi3 hz30 hz31 hz32 rfl (by omega) (by omega) eI xAz xCu _ L rfl (HO1.out.alloc _) hLn.out _ 1 (i : Int) rfl (Blk.new _ _ _) (by simp; omega) ?_; intro v' w2 hO2 hb2 hg2))
    rw [hset.out] at hr1
    have hN := qzL (hP.out.app HQ.out HW.out.hb.size HLO.out HK.out HX.out hr1 (by rw [hst.out, hs2.out]) (HKZ.out.trans (hk1.weak fun y e => .inr (.inl e))) HO1.out hO2 hb2 hg2)
    go_roundw
    case rel => exact ⟨i + 1, _, by simp, by omega, hN⟩
    case measure => simp [intOf]; omega
   ·have k1 : (kx.k.kind == 1) = false := by simp [e]
    have k2 : (kx.k.kind == 2) = true := by simp [e]
    have hst : Hid (xBn fr r.steps kx.k x = ({ x.1 with st := 3, to_ := r.steps }, ⟨x.2.days + 1, x.2.pau⟩)) := by unfold Hid; rw [hfE.out]; rw [if_neg (by omega), if_pos e]
    clear e
    go_wp2_with (first | (go_at_call 115; (with_reducible refine (HE.out 3).mono ?_); rintro e w1 ⟨rfl, hr1, hk1⟩; clear k13 k14 z0 o0' of0 x5 x6 x0; have HO1 := qzL (HOZ.out.keepP hk1 (fun y e => by rw [e]; exact HQ.out.o)); have lw1 : w.heap.size ≤ w1.heap.size := (by have := hP.out.k.size; have := HKZ.out.size; have := hk1.size; omega)) | (at_builtin; refine xA8 _ rfl (.tmp 114) (.tmp 116) _ rfl w.heap.size 3 i3 _ 1 8 Tryz.underlying22 hi3 hz30 hz31 hz32 rfl (by omega) (by omega) eI xAz xCu _ L rfl (HO1.out.alloc _) hLn.out _ 1 (i : Int) rfl (Blk.new _ _ _) (by simp; omega) ?_; intro v' w2 hO2 hb2 hg2))
    rw [hset.out] at hr1
    have hN := qzL (hP.out.app HQ.out HW.out.hb.size HLO.out HK.out HX.out hr1 (by rw [hst.out, hs2.out]) (HKZ.out.trans (hk1.weak fun y e => .inr (.inl e))) HO1.out hO2 hb2 hg2)
    go_roundw
    case rel => exact ⟨i + 1, _, by simp, by omega, hN⟩
    case measure => simp [intOf]; omega
   ·have k1 : (kx.k.kind == 1) = false := by rcases e with e | e <;> simp [e]
    have k2 : (kx.k.kind == 2) = false := by rcases e with e | e <;> simp [e]
    have hst : Hid (xBn fr r.steps kx.k x = ({ x.1 with st := 5, to_ := r.steps }, ⟨x.2.days + 1, x.2.pau⟩)) := by unfold Hid; rw [hfE.out]; rw [if_neg (by omega), if_neg (by omega)]
    clear e
    go_wp2_with (first | (go_at_call 115; (with_reducible refine (HE.out 5).mono ?_); rintro e w1 ⟨rfl, hr1, hk1⟩; clear k13 k14 z0 o0' of0 x5 x6 x0; have HO1 := qzL (HOZ.out.keepP hk1 (fun y e => by rw [e]; exact HQ.out.o)); have lw1 : w.heap.size ≤ w1.heap.size := (by have := hP.out.k.size; have := HKZ.out.size; have := hk1.size; omega)) | (at_builtin; refine xA8 _ rfl (.tmp 114) (.tmp 116) _ rfl w.heap.size 3 i3 _ 1 8 Tryz.underlying22 hi3 hz30 hz31 hz32 rfl (by omega) (by omega) eI xAz xCu _ L rfl (HO1.out.alloc _) hLn.out _ 1 (i : Int) rfl (Blk.new _ _ _) (by simp; omega) ?_; intro v' w2 hO2 hb2 hg2))
    rw [hset.out] at hr1
    have hN := qzL (hP.out.app HQ.out HW.out.hb.size HLO.out HK.out HX.out hr1 (by rw [hst.out, hs2.out]) (HKZ.out.trans (hk1.weak fun y e => .inr (.inl e))) HO1.out hO2 hb2 hg2)
    go_roundw
    case rel => exact ⟨i + 1, _, by simp, by omega, hN⟩
    case measure => simp [intOf]; omega
  ·go_upto_region 8 with (go_at_call 113; (with_reducible refine HRUN.out.mono ?_); rintro e w1 ⟨rfl, hb1'⟩; have hrw := HRV.out.then_ hb1'; have k13' : w1.cell? ⟨b, 13, none⟩ = some (.slice (some ⟨q.k, 0, none⟩) r2.oc.length q.kc) := hrw.g.cell 13; have z1' : w1.cell? ⟨q.k, i * 2 + 1, none⟩ = some (.bool x.2.pau) := (hrw.cnt HMX.out).2.1; rw [HPB.out] at z1'; have y7' : w1.cell? ⟨bx, 7, none⟩ = some (.bool kx.k.bus) := (GX.out.then_ hb1').cell 7; rw [HUB.out] at y7'; clear hrw)
   refine xAf ?_
   intro U hU
   have hbU : Below V.heap.size V U := by rw [hU]; exact hb1'
   have HBU := qzL (xAa HVB.out hbU)
   have HRU := qzL (HRV.out.then_ hbU)
   have GU := qzL (GX.out.then_ hbU)
   have HOU := qzL (HOV.out.below hbU)
   clear hU hb1' k13' z1' y7' hbU HRUN
   have k13 : U.cell? ⟨b, 13, none⟩ = some (.slice (some ⟨q.k, 0, none⟩) r2.oc.length q.kc) := HRU.out.g.cell 13
   obtain ⟨⟨z0, f0⟩, _⟩ := HRU.out.cnt HMX.out
   go_upto_region 9 with (fail)
   refine xAf ?_
   intro Z hZ
   have HRZ : Hid (Rdm w0 Z b c m (r2.wo (r2.oc.set i (x.1, ⟨x.2.days + 1, x.2.pau⟩))) wl q) := by rw [hZ]; exact HRU.out.setK (j := 0) (y := ⟨x.2.days + 1, x.2.pau⟩) HMX.out (by omega) rfl
   have HKZ : Hid (Kept wr Z (fun y => y = b ∨ y = q.o ∨ y = q.k)) := by rw [hZ]; exact (Kept.of_below HBU.out).setCell (.inr (.inr rfl))
   have nxk : Hid (bx ≠ q.k ∧ bx ≠ q.o) := by unfold Hid; have h1 := HQ.out.k; have h2 := HQ.out.o; have := lbx.out; omega
   have GZ : Hid (Blk Z bx 52 (kL kx).toArray) := by rw [hZ]; exact GU.out.far nxk.out.1 _
   have HOZ : Hid (Own Z w.heap.size 3 1 eI u6 L) := by rw [hZ]; exact HOU.out.setNe (HOU.out.ne_ (p := q.k) HQ.out.k) _
   clear hZ k13 z0 f0
   have k13 : Z.cell? ⟨b, 13, none⟩ = some (.slice (some ⟨q.k, 0, none⟩) r2.oc.length q.kc) := by have := HRZ.out.g.cell 13; simpa using this
   have k14 : Z.cell? ⟨b, 14, none⟩ = some (.slice (some ⟨q.o, 0, none⟩) r2.oc.length q.oc) := by have := HRZ.out.g.cell 14; simpa using this
   have hxz : (r2.wo (r2.oc.set i (x.1, ⟨x.2.days + 1, x.2.pau⟩))).oc[i]? = some (x.1, ⟨x.2.days + 1, x.2.pau⟩) := List.getElem?_set_self hil
   have HXZ := qzL hxz
   obtain ⟨⟨z0, _⟩, _⟩ := HRZ.out.cnt hxz
   obtain ⟨⟨o0', of0⟩, _⟩ := HRZ.out.out hxz
   have x5 : Z.cell? ⟨bx, 5, none⟩ = some (.int .i64 kx.k.aft) := GZ.out.cell 5
   have x6 : Z.cell? ⟨bx, 6, none⟩ = some (.int .i64 kx.k.grace) := GZ.out.cell 6
   have x0 : Z.cell? ⟨bx, 0, none⟩ = some (.int .i64 kx.k.kind) := GZ.out.cell 0
   clear hxz
   have hset : Hid (∀ y, (r2.wo (r2.oc.set i (x.1, ⟨x.2.days + 1, x.2.pau⟩))).wo ((r2.wo (r2.oc.set i (x.1, ⟨x.2.days + 1, x.2.pau⟩))).oc.set i y) = ({ r with day := r.day + 1 } : Rd).wo ((mixP (xBn false r.steps) c.cl r.oc i).set i y)) := fun y => by
    have e9 : ∀ (a d : Out × Cnt), (r2.oc.set i a).set i d = r2.oc.set i d := fun a d => List.set_set _
    show r2.wo ((r2.oc.set i _).set i y) = _
    rw [e9, HO2.out, ← HR2.out, ← HOC.out]
   have hset1 : Hid (r2.wo (r2.oc.set i (x.1, ⟨x.2.days + 1, x.2.pau⟩)) = ({ r with day := r.day + 1 } : Rd).wo ((mixP (xBn false r.steps) c.cl r.oc i).set i (x.1, ⟨x.2.days + 1, x.2.pau⟩))) := by
    unfold Hid
    rw [HO2.out, ← HR2.out, ← HOC.out]
   by_cases h1 : x.2.days + 1 < kx.k.aft
   ·have t1 := qzO h1
    have hf : Hid (xBn false r.steps kx.k x = (x.1, ⟨x.2.days + 1, x.2.pau⟩)) := by unfold Hid xBn xB3; rw [if_neg hgo.out, if_pos h1]
    clear h1
    go_wp2
    go_roundw
    case rel => exact ⟨i + 1, L, by simp, by omega, hP.out.chg HLO.out HK.out HX.out (by have := HRZ.out; rwa [hset1.out] at this) hf.out.symm HKZ.out HOZ.out (by rw [hf.out]; exact HRB.out)⟩
    case measure => simp [intOf]; omega
   have t1 := qzN h1
   by_cases h2 : x.2.days + 1 < kx.k.aft + kx.k.grace
   ·have t2 := qzO h2
    have hf : Hid (xBn false r.steps kx.k x = ({ x.1 with st := 2 }, ⟨x.2.days + 1, x.2.pau⟩)) := by unfold Hid xBn xB3; rw [if_neg hgo.out, if_neg h1, if_pos h2]
    have hfr : Hid ((xBn false r.steps kx.k x).1.runs = true) := by unfold Hid; rw [hf.out]; exact HRB.out
    have hR9 := qzL (HRZ.out.setO (j := 0) (y := { x.1 with st := 2 }) (v := .int .i64 2) HXZ.out (by omega) rfl)
    rw [hset.out] at hR9
    clear h1 h2
    go_wp2
    go_roundw
    case rel => exact ⟨i + 1, L, by simp, by omega, hP.out.chg HLO.out HK.out HX.out hR9.out hf.out.symm (HKZ.out.setCell (.inr (.inl rfl))) (HOZ.out.setNe (HOZ.out.ne_ (p := q.o) HQ.out.o) _) hfr.out⟩
    case measure => simp [intOf]; omega
   have t2 := qzN h2
   have HE := qzL (fun st => xG5 w0 b c m _ wl q i _ st Z HRZ.out HXZ.out)
   have hfE : Hid (xBn false r.steps kx.k x = ({ x.1 with st := if kx.k.kind = 1 then 4 else if kx.k.kind = 2 then 3 else 5, to_ := r.steps }, ⟨x.2.days + 1, x.2.pau⟩)) := by unfold Hid xBn xB3; rw [if_neg hgo.out, if_neg h1, if_neg h2]
   clear h1 h2
   have hkd3 : kx.k.kind = 1 ∨ kx.k.kind = 2 ∨ (kx.k.kind = 3 ∨ kx.k.kind = 4) := hkd.out
   rcases hkd3 with e | e | e
   ·have k1 : (kx.k.kind == 1) = true := by simp [e]
    have k2 : (kx.k.kind == 2) = false := by simp [e]
    have hst : Hid (xBn false r.steps kx.k x = ({ x.1 with st := 4, to_ := r.steps }, ⟨x.2.days + 1, x.2.pau⟩)) := by unfold Hid; rw [hfE.out]; rw [if_pos e]
    clear e
    go_wp2_with (first | (go_at_call 115; (with_reducible refine (HE.out 4).mono ?_); rintro e w1 ⟨rfl, hr1, hk1⟩; clear k13 k14 z0 o0' of0 x5 x6 x0; have HO1 := qzL (HOZ.out.keepP hk1 (fun y e => by rw [e]; exact HQ.out.o)); have lw1 : w.heap.size ≤ w1.heap.size := (by have := hP.out.k.size; have := HKZ.out.size; have := hk1.size; omega)) | (at_builtin; refine xA8 _ rfl (.tmp 114) (.tmp 116) _ rfl w.heap.size 3 i3 _ 1 8 Tryz.underlying22 hi3 hz30 hz31 hz32 rfl (by omega) (by omega) eI xAz xCu _ L rfl (HO1.out.alloc _) hLn.out _ 1 (i : Int) rfl (Blk.new _ _ _) (by simp; omega) ?_; intro v' w2 hO2 hb2 hg2))
    rw [hset.out] at hr1
    have hN := qzL (hP.out.app HQ.out HW.out.hb.size HLO.out HK.out HX.out hr1 (by rw [hst.out, hs2.out]) (HKZ.out.trans (hk1.weak fun y e => .inr (.inl e))) HO1.out hO2 hb2 hg2)
    go_roundw
    case rel => exact ⟨i + 1, _, by simp, by omega, hN⟩
    case measure => simp [intOf]; omega
   ·have k1 : (kx.k.kind == 1) = false := by simp [e]
    have k2 : (kx.k.kind == 2) = true := by simp [e]
    have hst : Hid (xBn false r.steps kx.k x = ({ x.1 with st := 3, to_ := r.steps }, ⟨x.2.days + 1, x.2.pau⟩)) := by unfold Hid; rw [hfE.out]; rw [if_neg (by omega), if_pos e]
    clear e
    go_wp2_with (first | (go_at_call 115; (with_reducible refine (HE.out 3).mono ?_); rintro e w1 ⟨rfl, hr1, hk1⟩; clear k13 k14 z0 o0' of0 x5 x6 x0; have HO1 := qzL (HOZ.out.keepP hk1 (fun y e => by rw [e]; exact HQ.out.o)); have lw1 : w.heap.size ≤ w1.heap.size := (by have := hP.out.k.size; have := HKZ.out.size; have := hk1.size; omega)) | (at_builtin; refine xA8 _ rfl (.tmp 114) (.tmp 116) _ rfl w.heap.size 3 i3 _ 1 8 Tryz.underlying22 hi3 hz30 hz31 hz32 rfl (by omega) (by omega) eI xAz xCu _ L rfl (HO1.out.alloc _) hLn.out _ 1 (i : Int) rfl (Blk.new _ _ _) (by simp; omega) ?_; intro v' w2 hO2 hb2 hg2))
    rw [hset.out] at hr1
    have hN := qzL (hP.out.app HQ.out HW.out.hb.size HLO.out HK.out HX.out hr1 (by rw [hst.out, hs2.out]) (HKZ.out.trans (hk1.weak fun y e => .inr (.inl e))) HO1.out hO2 hb2 hg2)
    go_roundw
    case rel => exact ⟨i + 1, _, by simp, by omega, hN⟩
    case measure => simp [intOf]; omega
   ·have k1 : (kx.k.kind == 1) = false := by rcases e with e | e <;> simp [e]
    have k2 : (kx.k.kind == 2) = false := by rcases e with e | e <;> simp [e]
    have hst : Hid (xBn false r.steps kx.k x = ({ x.1 with st := 5, to_ := r.steps }, ⟨x.2.days + 1, x.2.pau⟩)) := by unfold Hid; rw [hfE.out]; rw [if_neg (by omega), if_neg (by omega)]
    clear e
    go_wp2_with (first | (go_at_call 115; (with_reducible refine (HE.out 5).mono ?_); rintro e w1 ⟨rfl, hr1, hk1⟩; clear k13 k14 z0 o0' of0 x5 x6 x0; have HO1 := qzL (HOZ.out.keepP hk1 (fun y e => by rw [e]; exact HQ.out.o)); have lw1 : w.heap.size ≤ w1.heap.size := (by have := hP.out.k.size; have := HKZ.out.size; have := hk1.size; omega)) | (at_builtin; refine xA8 _ rfl (.tmp 114) (.tmp 116) _ rfl w.heap.size 3 i3 _ 1 8 Tryz.underlying22 hi3 hz30 hz31 hz32 rfl (by omega) (by omega) eI xAz xCu _ L rfl (HO1.out.alloc _) hLn.out _ 1 (i : Int) rfl (Blk.new _ _ _) (by simp; omega) ?_; intro v' w2 hO2 hb2 hg2))
    rw [hset.out] at hr1
    have hN := qzL (hP.out.app HQ.out HW.out.hb.size HLO.out HK.out HX.out hr1 (by rw [hst.out, hs2.out]) (HKZ.out.trans (hk1.weak fun y e => .inr (.inl e))) HO1.out hO2 hb2 hg2)
    go_roundw
    case rel => exact ⟨i + 1, _, by simp, by omega, hN⟩
    case measure => simp [intOf]; omega
end Go.Proofs.YtginnonjdbpamaaGreatDoor
