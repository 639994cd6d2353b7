/- Contracts of functions and plain laws, joined: Uh, Ui, Uj. -/
import Derived.Test.YtffceokjeonpcaaGreatDoorMb15
import Derived.Maps.AppendAt
import Derived.Test.YtffceokjeonpcaaGreatDoorMb1
set_option maxHeartbeats 12800000
set_option maxRecDepth 100000
namespace Go.Proofs.YtffceokjeonpcaaGreatDoor
open Go.RowKit Go.Sort Go.Maps
theorem tickR_any (w0 : World) (b : Nat) (c : Con) (m : Cm) (r : Rd) (wl : Int → List Int) (q : Rq) (w : World) (t : Int) (hW : Rdm w0 w b c m r wl q) (hok : c.ok = true) (hI : RInv c r) (hday : 0 ≤ r.day ∧ r.day ≤ 1000000) :
  Calls Tryz.prog 86 #[.pointer (some ⟨b, 0, none⟩), .int .i64 t] w fun e w' => RetD w0 w b c m r (r.tickW c) wl q (fun x => x = b ∨ x = q.o ∨ x = q.k) e w' := by
 have HW := qzL hW
 have HI := qzL hI
 have HOK := qzL hok
 have nk := hW.cn.nk
 have no := hW.no
 have hlo : r.oc.length = c.cl.length := hW.lo
 have HLO := qzL hlo
 have HQ := qzL hW.qb
 obtain ⟨fr, hfr⟩ : ∃ fr, decide (r.day ∈ c.off) = fr := ⟨_, rfl⟩
 have HF := qzL (fun W (hb : Below w.heap.size w W) => freeR_any c m q.bc r.day W (hW.then_ hb).gc (((hW.cn.o.below hW.hb).more (by have := hW.hb.size; omega : w0.heap.size ≤ w.heap.size)).below hb |>.more hb.size) (ok_off hok) hW.cn.no)
 rw [hfr] at HF
 have HTW : Hid (r.tickW c = { r with day := r.day + 1, oc := List.zipWith (xBr fr r.steps) c.cl r.oc }) := by unfold Hid Rd.tickW; rw [hfr]
 obtain ⟨i3, hi3, hz30, hz31, hz32⟩ := info_parts (show (Tryz.prog.info? 3).map (fun i => (i.zero, i.size, i.bytes)) = some (some (.int .i64 0), 1, 8) by kernel_rfl)
 have k11 : w.cell? ⟨b, 11, none⟩ = some (.func (.func 81) #[] #[.pointer (some ⟨q.bc, 0, none⟩)]) := hW.g.cell 11
 have k8 : w.cell? ⟨b, 8, none⟩ = some (.int .i64 r.day) := hW.g.cell 8
 clear hW hI hok hfr hlo
 go_enter Tryz.func86, Tryz.ntmps86
 go_upto_region 1 with (fail)
 have rg0 := cR k11
 have rg1 := cR k8
 refine xAg [0, 1, 2, 3, 4, 5, 6, 7, 8] [9] (by kernel_rfl) (by kernel_rfl) pO ?_
 simp only [xAn, qzA, qzB, qzC, qzD, qzE, qzF]
 repeat (go_big_quiet_step ((go_at_call 81; exact xAq (fun W' hW => HF.out W' hW) _ _)))
 refine wpQuiet_nil ?_
 intro Y hw2
 have hbY := xAj hw2
 clear hw2 rg0 rg1
 have HYB := qzL hbY
 have HRY := qzL (HW.out.then_ hbY)
 clear k11 k8 hbY
 have k8 : Y.cell? ⟨b, 8, none⟩ = some (.int .i64 r.day) := HRY.out.g.cell 8
 have f8 : Y.frozen? ⟨b, 8, none⟩ = false := HRY.out.g.frozen 8
 go_upto_region 4 with (fail)
 refine xAi ?_
 intro X hX
 have HRX : Hid (Rdm w0 X b c m { r with day := r.day + 1 } wl q) := by rw [hX]; exact HRY.out.setDay _
 have HKX : Hid (Kept w X (fun x => x = b ∨ x = q.o ∨ x = q.k)) := by rw [hX]; exact (Kept.of_below HYB.out).setCell (.inl rfl)
 clear hX k8 f8
 have k4 : X.cell? ⟨b, 4, none⟩ = some (.slice m.k c.cl.length m.kc) := HRX.out.g.cell 4
 have h0 : Hid (RLp (xBr fr r.steps) w0 w X b c m { r with day := r.day + 1 } wl q (fun x => x = b ∨ x = q.o ∨ x = q.k) w.heap.size 0 (.slice none 0 0) []) := ⟨HRX.out, HKX.out, Own.nil _ _ _ _ _, EndS.zero⟩
 go_upto_region 5 with (fail)
 clear HRX HKX HRY HYB k4
 go_loopw [6, 32] (fun v y WR => ∃ (i : Nat) (L : List Int), y = .int .i64 i ∧ i ≤ c.cl.length ∧ Hid (RLp (xBr fr r.steps) w0 w WR b c m { r with day := r.day + 1 } wl q (fun x => x = b ∨ x = q.o ∨ x = q.k) w.heap.size i v L)) (fun _ y _ => 2000000 - (intOf y).toNat)
 case atStart => exact ⟨0, [], rfl, by omega, h0⟩
 case round =>
  clear h0
  obtain ⟨i, L, rfl, hi, hP⟩ := hrel
  by_cases hlt : i < c.cl.length
  case neg =>
   obtain rfl : i = c.cl.length := by omega
   have tl : decide (((c.cl.length : Nat) : Int) < ((c.cl.length : Nat) : Int)) = false := qzN (by omega)
   go_wp2
   go_ret
   have hP := hP.out
   have hrd := hP.rd
   rw [xE0 (show ({ r with day := r.day + 1 } : Rd).oc.length = c.cl.length from HLO.out)] at hrd
   rw [HTW.out]
   exact ⟨_, L, rfl, hrd, hP.k, hP.o, EndS.all (r := r) (show EndS _ c.cl r.oc c.cl.length L from hP.e) rfl⟩
  have tl : decide ((i : Int) < (c.cl.length : Int)) = true := qzO (by omega)
  obtain ⟨k, hk⟩ : ∃ k, c.cl[i]? = some k := ⟨_, qzJ hlt⟩
  obtain ⟨x, hx⟩ : ∃ x, r.oc[i]? = some x := ⟨_, qzJ (by rw [HLO.out]; exact hlt)⟩
  have hmx : (mixP (xBr fr r.steps) c.cl r.oc i)[i]? = some x := (xFi HLO.out hlt).trans hx
  have hmi := qzL (HI.out.inv i k x hk hx)
  have hkv := xDa HOK.out (qzK hk)
  have hkb := xH1 HOK.out (qzK hk)
  have hg0 := hkv.g0
  have hg1 := hkv.g1
  have ha1 := hkv.a1
  have hkd := qzL hkv.kd
  have HG1 := qzL hg1
  obtain ⟨hb1, hb2⟩ := hkb
  obtain ⟨oc', hoc⟩ : ∃ l, mixP (xBr fr r.steps) c.cl r.oc i = l := ⟨_, rfl⟩
  have hR0 := hP.out.rd
  rw [show ({ r with day := r.day + 1 } : Rd).oc = r.oc from rfl, hoc] at hR0
  rw [hoc] at hmx
  have HOC := qzL hoc
  obtain ⟨r2, hr2⟩ : ∃ R, ({ r with day := r.day + 1 } : Rd).wo oc' = R := ⟨_, rfl⟩
  have ho2 : r2.oc = oc' := by rw [← hr2]
  have hs2 : Hid (r2.steps = r.steps) := by unfold Hid; rw [← hr2]
  rw [hr2] at hR0
  rw [← ho2] at hmx
  have HR2 := qzL hr2
  have HO2 := qzL ho2
  have HR := qzL hR0
  have HMX := qzL hmx
  have HK := qzL hk
  have HX := qzL hx
  have hil : i < r2.oc.length := (qzM hmx).1
  have n2 := hR0.no
  have hok2 := hP.out.o
  have hLn : Hid (L.length ≤ 1000000) := by unfold Hid; have := hP.out.e.n; omega
  obtain ⟨kx, hkx, hkk⟩ := xC3 hR0.cn.e hk
  subst hkk
  obtain ⟨b0, o0, eA0, hb0, hc0⟩ := xAv (hR0.cn.k.below hR0.hb) hkx
  have hix0 := fun W => xAp (t := 25) (size := 16) (cap := m.kc) eA0 hlt (by kernel_rfl) (fun W => by kernel_rfl) W
  have hix := fun W => xA4 (t := 52) (size := 5) (g := q.o) (cap := q.oc) hil (by kernel_rfl) (fun W => by kernel_rfl) W
  have hixk := fun W => xA4 (t := 84) (size := 2) (g := q.k) (cap := q.kc) hil (by kernel_rfl) (fun W => by kernel_rfl) W
  have hrg : wr.rangeAt b0 (o0 + i * 16) (kL kx) := fun j v hv => hc0 j v hv
  have lwr := hP.out.k.size
  have HO := qzL hok2
  clear hc0 eA0 hkx hk hx hmx hoc hr2 hR0 hok2 hg1 hkv ho2
  go_upto_region 7 with ((refine xBt 95 el16 _ _ _ _ _ rfl rfl rfl rfl rfl rfl rfl rfl rfl rfl rfl rfl b0 _ rfl (kL kx) rfl hrg (by simp [Value.oneCell']) (by decide) (by decide) (by decide) (by simp) (by simp) (.int .i64 (i : Nat)) rfl ?_; simp only [Act.put, qzG, qzH, qzI]))
  refine xAi ?_
  intro V hV
  have gx : Blk V wr.heap.size 95 (kL kx).toArray := by rw [hV]; exact Blk.new _ _ _
  have HVB : Hid (Below wr.heap.size wr V) := by rw [hV]; exact wa1 _ _
  obtain ⟨bx, ex⟩ : ∃ b, wr.heap.size = b := ⟨_, rfl⟩
  have lbx : Hid (w.heap.size ≤ bx) := by unfold Hid; omega
  rw [ex] at gx ⊢
  have GX := qzL gx
  have HRV := qzL (HR.out.then_ HVB.out)
  have HOV := qzL (HO.out.below HVB.out)
  have HRUN := qzL (xFe w0 b c m r2 wl q i x V HRV.out HMX.out)
  clear hV ex hrg hix0 gx hb0
  obtain ⟨rb, hrb⟩ : ∃ z, x.1.runs = z := ⟨_, rfl⟩
  obtain ⟨pb, hpb⟩ : ∃ z, x.2.pau = z := ⟨_, rfl⟩
  obtain ⟨ub, hub⟩ : ∃ z, kx.k.bus = z := ⟨_, rfl⟩
  rw [hrb] at HRUN
  have HRB := qzL hrb
  have HPB := qzL hpb
  have HUB := qzL hub
  clear hrb hpb hub
  cases rb with
  | false =>
   have hs : Hid (xBr fr r.steps kx.k x = x) := by unfold Hid xBr xB7; rw [if_pos (.inl HRB.out)]
   go_wp2_with (go_at_call 106; (with_reducible refine HRUN.out.mono ?_); rintro e w1 ⟨rfl, hb1'⟩)
   go_roundw
   case rel => exact ⟨i + 1, L, by simp, by omega, hP.out.skip HLO.out HK.out HX.out hs.out (xAa HVB.out hb1')⟩
   case measure => simp [intOf]; omega
  | true =>
  cases pb with
  | true =>
   have hs : Hid (xBr fr r.steps kx.k x = x) := by unfold Hid xBr xB7; rw [if_pos (.inr (.inl HPB.out))]
   go_wp2_with (go_at_call 106; (with_reducible refine HRUN.out.mono ?_); rintro e w1 ⟨rfl, hb1'⟩; have hrw := HRV.out.then_ hb1'; have k13' : w1.cell? ⟨b, 13, none⟩ = some (.slice (some ⟨q.k, 0, none⟩) r2.oc.length q.kc) := hrw.g.cell 13; have z1' : w1.cell? ⟨q.k, i * 2 + 1, none⟩ = some (.bool x.2.pau) := (hrw.cnt HMX.out).2.1; rw [HPB.out] at z1'; have y7' : w1.cell? ⟨bx, 7, none⟩ = some (.bool kx.k.bus) := (GX.out.then_ hb1').cell 7; rw [HUB.out] at y7'; clear hrw)
   go_roundw
   case rel => exact ⟨i + 1, L, by simp, by omega, hP.out.skip HLO.out HK.out HX.out hs.out (xAa HVB.out hb1')⟩
   case measure => simp [intOf]; omega
  | false =>
  by_cases hskip : ub = true ∧ fr = true
  case pos =>
   obtain ⟨rfl, rfl⟩ := hskip
   have hs : Hid (xBr true r.steps kx.k x = x) := by unfold Hid xBr xB7; rw [if_pos (.inr (.inr ⟨HUB.out, rfl⟩))]
   go_wp2_with (go_at_call 106; (with_reducible refine HRUN.out.mono ?_); rintro e w1 ⟨rfl, hb1'⟩; have hrw := HRV.out.then_ hb1'; have k13' : w1.cell? ⟨b, 13, none⟩ = some (.slice (some ⟨q.k, 0, none⟩) r2.oc.length q.kc) := hrw.g.cell 13; have z1' : w1.cell? ⟨q.k, i * 2 + 1, none⟩ = some (.bool x.2.pau) := (hrw.cnt HMX.out).2.1; rw [HPB.out] at z1'; have y7' : w1.cell? ⟨bx, 7, none⟩ = some (.bool kx.k.bus) := (GX.out.then_ hb1').cell 7; rw [HUB.out] at y7'; clear hrw)
   go_roundw
   case rel => exact ⟨i + 1, L, by simp, by omega, hP.out.skip HLO.out HK.out HX.out hs.out (xAa HVB.out hb1')⟩
   case measure => simp [intOf]; omega
  have hgo : Hid (¬ (x.1.runs = false ∨ x.2.pau = true ∨ (kx.k.bus = true ∧ fr = true))) := by
   unfold Hid
   rw [HRB.out, HPB.out, HUB.out]
   rintro (h | h | h)
   ·cases h
   ·cases h
   ·exact hskip h
  obtain ⟨hInv, hGN, hTo⟩ := hmi.out
  have hdb : 0 ≤ x.2.days ∧ x.2.days ≤ 1000 := by
   rcases hInv.run.1 HRB.out with e | e
   ·have := hInv.l1 e; omega
   ·have := hInv.l2 e; omega
  clear hInv hGN hTo
  have hcases : ub = false ∨ (ub = true ∧ fr = false) := by
   cases ub with
   | false => exact .inl rfl
   | true =>
    cases hf : fr with
    | false => exact .inr ⟨rfl, rfl⟩
    | true => exact absurd ⟨rfl, hf⟩ hskip
  have hmore : ∀ (W : World) , Hid (Below V.heap.size V W) → Hid (Rdm w0 W b c m r2 wl q) := fun W h => HRV.out.then_ h.out
  clear hskip
  rcases hcases with rfl | ⟨rfl, rfl⟩
  ·go_upto_region 8 with (go_at_call 106; (with_reducible refine HRUN.out.mono ?_); rintro e w1 ⟨rfl, hb1'⟩; have hrw := HRV.out.then_ hb1'; have k13' : w1.cell? ⟨b, 13, none⟩ = some (.slice (some ⟨q.k, 0, none⟩) r2.oc.length q.kc) := hrw.g.cell 13; have z1' : w1.cell? ⟨q.k, i * 2 + 1, none⟩ = some (.bool x.2.pau) := (hrw.cnt HMX.out).2.1; rw [HPB.out] at z1'; have y7' : w1.cell? ⟨bx, 7, none⟩ = some (.bool kx.k.bus) := (GX.out.then_ hb1').cell 7; rw [HUB.out] at y7'; clear hrw)
   refine xAi ?_
   intro U hU
   have hbU : Below V.heap.size V U := by rw [hU]; exact hb1'
   have HBU := qzL (xAa HVB.out hbU)
   have HRU := qzL (HRV.out.then_ hbU)
   have GU := qzL (GX.out.then_ hbU)
   have HOU := qzL (HOV.out.below hbU)
   clear hU hb1' k13' z1' y7' hbU HRUN
   have k13 : U.cell? ⟨b, 13, none⟩ = some (.slice (some ⟨q.k, 0, none⟩) r2.oc.length q.kc) := HRU.out.g.cell 13
   obtain ⟨⟨z0, f0⟩, _⟩ := HRU.out.cnt HMX.out
   go_upto_region 9 with (fail)
   refine xAi ?_
   intro Z hZ
   have HRZ : Hid (Rdm w0 Z b c m (r2.wo (r2.oc.set i (x.1, ⟨x.2.days + 1, x.2.pau⟩))) wl q) := by rw [hZ]; exact HRU.out.setK (j := 0) (y := ⟨x.2.days + 1, x.2.pau⟩) HMX.out (by omega) rfl
   have HKZ : Hid (Kept wr Z (fun y => y = b ∨ y = q.o ∨ y = q.k)) := by rw [hZ]; exact (Kept.of_below HBU.out).setCell (.inr (.inr rfl))
   have nxk : Hid (bx ≠ q.k ∧ bx ≠ q.o) := by unfold Hid; have h1 := HQ.out.k; have h2 := HQ.out.o; have := lbx.out; omega
   have GZ : Hid (Blk Z bx 95 (kL kx).toArray) := by rw [hZ]; exact GU.out.far nxk.out.1 _
   have HOZ : Hid (Own Z w.heap.size 3 1 eI u6 L) := by rw [hZ]; exact HOU.out.setNe (HOU.out.ne_ (p := q.k) HQ.out.k) _
   clear hZ k13 z0 f0
   have k13 : Z.cell? ⟨b, 13, none⟩ = some (.slice (some ⟨q.k, 0, none⟩) r2.oc.length q.kc) := by have := HRZ.out.g.cell 13; simpa using this
   have k14 : Z.cell? ⟨b, 14, none⟩ = some (.slice (some ⟨q.o, 0, none⟩) r2.oc.length q.oc) := by have := HRZ.out.g.cell 14; simpa using this
   have hxz : (r2.wo (r2.oc.set i (x.1, ⟨x.2.days + 1, x.2.pau⟩))).oc[i]? = some (x.1, ⟨x.2.days + 1, x.2.pau⟩) := List.getElem?_set_self hil
   have HXZ := qzL hxz
   obtain ⟨⟨z0, _⟩, _⟩ := HRZ.out.cnt hxz
   obtain ⟨⟨o0', of0⟩, _⟩ := HRZ.out.out hxz
   have x5 : Z.cell? ⟨bx, 5, none⟩ = some (.int .i64 kx.k.aft) := GZ.out.cell 5
   have x6 : Z.cell? ⟨bx, 6, none⟩ = some (.int .i64 kx.k.grace) := GZ.out.cell 6
   have x0 : Z.cell? ⟨bx, 0, none⟩ = some (.int .i64 kx.k.kind) := GZ.out.cell 0
   clear hxz
   have hset : Hid (∀ y, (r2.wo (r2.oc.set i (x.1, ⟨x.2.days + 1, x.2.pau⟩))).wo ((r2.wo (r2.oc.set i (x.1, ⟨x.2.days + 1, x.2.pau⟩))).oc.set i y) = ({ r with day := r.day + 1 } : Rd).wo ((mixP (xBr fr r.steps) c.cl r.oc i).set i y)) := fun y => by
    have e9 : ∀ (a d : Out × Cnt), (r2.oc.set i a).set i d = r2.oc.set i d := fun a d => List.set_set _
    show r2.wo ((r2.oc.set i _).set i y) = _
    rw [e9, HO2.out, ← HR2.out, ← HOC.out]
   have hset1 : Hid (r2.wo (r2.oc.set i (x.1, ⟨x.2.days + 1, x.2.pau⟩)) = ({ r with day := r.day + 1 } : Rd).wo ((mixP (xBr fr r.steps) c.cl r.oc i).set i (x.1, ⟨x.2.days + 1, x.2.pau⟩))) := by
    unfold Hid
    rw [HO2.out, ← HR2.out, ← HOC.out]
   by_cases h1 : x.2.days + 1 < kx.k.aft
   ·have t1 := qzO h1
    have hf : Hid (xBr fr r.steps kx.k x = (x.1, ⟨x.2.days + 1, x.2.pau⟩)) := by unfold Hid xBr xB7; rw [if_neg hgo.out, if_pos h1]
    clear h1
    go_wp2
    go_roundw
    case rel => exact ⟨i + 1, L, by simp, by omega, hP.out.chg HLO.out HK.out HX.out (by have := HRZ.out; rwa [hset1.out] at this) hf.out.symm HKZ.out HOZ.out (by rw [hf.out]; exact HRB.out)⟩
    case measure => simp [intOf]; omega
   have t1 := qzN h1
   by_cases h2 : x.2.days + 1 < kx.k.aft + kx.k.grace
   ·have t2 := qzO h2
    have hf : Hid (xBr fr r.steps kx.k x = ({ x.1 with st := 2 }, ⟨x.2.days + 1, x.2.pau⟩)) := by unfold Hid xBr xB7; rw [if_neg hgo.out, if_neg h1, if_pos h2]
    have hfr : Hid ((xBr fr r.steps kx.k x).1.runs = true) := by unfold Hid; rw [hf.out]; exact HRB.out
    have hR9 := qzL (HRZ.out.setO (j := 0) (y := { x.1 with st := 2 }) (v := .int .i64 2) HXZ.out (by omega) rfl)
    rw [hset.out] at hR9
    clear h1 h2
    go_wp2
    go_roundw
    case rel => exact ⟨i + 1, L, by simp, by omega, hP.out.chg HLO.out HK.out HX.out hR9.out hf.out.symm (HKZ.out.setCell (.inr (.inl rfl))) (HOZ.out.setNe (HOZ.out.ne_ (p := q.o) HQ.out.o) _) hfr.out⟩
    case measure => simp [intOf]; omega
   have t2 := qzN h2
   have HE := qzL (fun st => xGq w0 b c m _ wl q i _ st Z HRZ.out HXZ.out)
   have hfE : Hid (xBr fr r.steps kx.k x = ({ x.1 with st := if kx.k.kind = 1 then 4 else if kx.k.kind = 2 then 3 else 5, to_ := r.steps }, ⟨x.2.days + 1, x.2.pau⟩)) := by unfold Hid xBr xB7; rw [if_neg hgo.out, if_neg h1, if_neg h2]
   clear h1 h2
   have hkd3 : kx.k.kind = 1 ∨ kx.k.kind = 2 ∨ (kx.k.kind = 3 ∨ kx.k.kind = 4) := hkd.out
   rcases hkd3 with e | e | e
   ·have k1 : (kx.k.kind == 1) = true := by simp [e]
    have k2 : (kx.k.kind == 2) = false := by simp [e]
    have hst : Hid (xBr fr r.steps kx.k x = ({ x.1 with st := 4, to_ := r.steps }, ⟨x.2.days + 1, x.2.pau⟩)) := by unfold Hid; rw [hfE.out]; rw [if_pos e]
    clear e
    go_wp2_with (first | (go_at_call 108; (with_reducible refine (HE.out 4).mono ?_); rintro e w1 ⟨rfl, hr1, hk1⟩; clear k13 k14 z0 o0' of0 x5 x6 x0; have HO1 := qzL (HOZ.out.keepP hk1 (fun y e => by rw [e]; exact HQ.out.o)); have lw1 : w.heap.size ≤ w1.heap.size := (by have := hP.out.k.size; have := HKZ.out.size; have := hk1.size; omega)) | (at_builtin; refine xBh _ rfl (.tmp 114) (.tmp 116) _ rfl w.heap.size 3 i3 _ 1 8 Tryz.underlying22 hi3 hz30 hz31 hz32 rfl (by omega) (by omega) eI xAz xCx _ L rfl (HO1.out.alloc _) hLn.out _ 1 (i : Int) rfl (Blk.new _ _ _) (by simp; omega) ?_; intro v' w2 hO2 hb2 hg2))
    rw [hset.out] at hr1
    have hN := qzL (hP.out.app HQ.out HW.out.hb.size HLO.out HK.out HX.out hr1 (by rw [hst.out, hs2.out]) (HKZ.out.trans (hk1.weak fun y e => .inr (.inl e))) HO1.out hO2 hb2 hg2)
    go_roundw
    case rel => exact ⟨i + 1, _, by simp, by omega, hN⟩
    case measure => simp [intOf]; omega
   ·have k1 : (kx.k.kind == 1) = false := by simp [e]
    have k2 : (kx.k.kind == 2) = true := by simp [e]
    have hst : Hid (xBr fr r.steps kx.k x = ({ x.1 with st := 3, to_ := r.steps }, ⟨x.2.days + 1, x.2.pau⟩)) := by unfold Hid; rw [hfE.out]; rw [if_neg (by omega), if_pos e]
    clear e
    go_wp2_with (first | (go_at_call 108; (with_reducible refine (HE.out 3).mono ?_); rintro e w1 ⟨rfl, hr1, hk1⟩; clear k13 k14 z0 o0' of0 x5 x6 x0; have HO1 := qzL (HOZ.out.keepP hk1 (fun y e => by rw [e]; exact HQ.out.o)); have lw1 : w.heap.size ≤ w1.heap.size := (by have := hP.out.k.size; have := HKZ.out.size; have := hk1.size; omega)) | (at_builtin; refine xBh _ rfl (.tmp 114) (.tmp 116) _ rfl w.heap.size 3 i3 _ 1 8 Tryz.underlying22 hi3 hz30 hz31 hz32 rfl (by omega) (by omega) eI xAz xCx _ L rfl (HO1.out.alloc _) hLn.out _ 1 (i : Int) rfl (Blk.new _ _ _) (by simp; omega) ?_; intro v' w2 hO2 hb2 hg2))
    rw [hset.out] at hr1
    have hN := qzL (hP.out.app HQ.out HW.out.hb.size HLO.out HK.out HX.out hr1 (by rw [hst.out, hs2.out]) (HKZ.out.trans (hk1.weak fun y e => .inr (.inl e))) HO1.out hO2 hb2 hg2)
    go_roundw
    case rel => exact ⟨i + 1, _, by simp, by omega, hN⟩
    case measure => simp [intOf]; omega
   ·have k1 : (kx.k.kind == 1) = false := by rcases e with e | e <;> simp [e]
    have k2 : (kx.k.kind == 2) = false := by rcases e with e | e <;> simp [e]
    have hst : Hid (xBr fr r.steps kx.k x = ({ x.1 with st := 5, to_ := r.steps }, ⟨x.2.days + 1, x.2.pau⟩)) := by unfold Hid; rw [hfE.out]; rw [if_neg (by omega), if_neg (by omega)]
    clear e
    go_wp2_with (first | (go_at_call 108; (with_reducible refine (HE.out 5).mono ?_); rintro e w1 ⟨rfl, hr1, hk1⟩; clear k13 k14 z0 o0' of0 x5 x6 x0; have HO1 := qzL (HOZ.out.keepP hk1 (fun y e => by rw [e]; exact HQ.out.o)); have lw1 : w.heap.size ≤ w1.heap.size := (by have := hP.out.k.size; have := HKZ.out.size; have := hk1.size; omega)) | (at_builtin; refine xBh _ rfl (.tmp 114) (.tmp 116) _ rfl w.heap.size 3 i3 _ 1 8 Tryz.underlying22 hi3 hz30 hz31 hz32 rfl (by omega) (by omega) eI xAz xCx _ L rfl (HO1.out.alloc _) hLn.out _ 1 (i : Int) rfl (Blk.new _ _ _) (by simp; omega) ?_; intro v' w2 hO2 hb2 hg2))
    rw [hset.out] at hr1
    have hN := qzL (hP.out.app HQ.out HW.out.hb.size HLO.out HK.out HX.out hr1 (by rw [hst.out, hs2.out]) (HKZ.out.trans (hk1.weak fun y e => .inr (.inl e))) HO1.out hO2 hb2 hg2)
    go_roundw
    case rel => exact ⟨i + 1, _, by simp, by omega, hN⟩
    case measure => simp [intOf]; omega
  ·go_upto_region 8 with (go_at_call 106; (with_reducible refine HRUN.out.mono ?_); rintro e w1 ⟨rfl, hb1'⟩; have hrw := HRV.out.then_ hb1'; have k13' : w1.cell? ⟨b, 13, none⟩ = some (.slice (some ⟨q.k, 0, none⟩) r2.oc.length q.kc) := hrw.g.cell 13; have z1' : w1.cell? ⟨q.k, i * 2 + 1, none⟩ = some (.bool x.2.pau) := (hrw.cnt HMX.out).2.1; rw [HPB.out] at z1'; have y7' : w1.cell? ⟨bx, 7, none⟩ = some (.bool kx.k.bus) := (GX.out.then_ hb1').cell 7; rw [HUB.out] at y7'; clear hrw)
   refine xAi ?_
   intro U hU
   have hbU : Below V.heap.size V U := by rw [hU]; exact hb1'
   have HBU := qzL (xAa HVB.out hbU)
   have HRU := qzL (HRV.out.then_ hbU)
   have GU := qzL (GX.out.then_ hbU)
   have HOU := qzL (HOV.out.below hbU)
   clear hU hb1' k13' z1' y7' hbU HRUN
   have k13 : U.cell? ⟨b, 13, none⟩ = some (.slice (some ⟨q.k, 0, none⟩) r2.oc.length q.kc) := HRU.out.g.cell 13
   obtain ⟨⟨z0, f0⟩, _⟩ := HRU.out.cnt HMX.out
   go_upto_region 9 with (fail)
   refine xAi ?_
   intro Z hZ
   have HRZ : Hid (Rdm w0 Z b c m (r2.wo (r2.oc.set i (x.1, ⟨x.2.days + 1, x.2.pau⟩))) wl q) := by rw [hZ]; exact HRU.out.setK (j := 0) (y := ⟨x.2.days + 1, x.2.pau⟩) HMX.out (by omega) rfl
   have HKZ : Hid (Kept wr Z (fun y => y = b ∨ y = q.o ∨ y = q.k)) := by rw [hZ]; exact (Kept.of_below HBU.out).setCell (.inr (.inr rfl))
   have nxk : Hid (bx ≠ q.k ∧ bx ≠ q.o) := by unfold Hid; have h1 := HQ.out.k; have h2 := HQ.out.o; have := lbx.out; omega
   have GZ : Hid (Blk Z bx 95 (kL kx).toArray) := by rw [hZ]; exact GU.out.far nxk.out.1 _
   have HOZ : Hid (Own Z w.heap.size 3 1 eI u6 L) := by rw [hZ]; exact HOU.out.setNe (HOU.out.ne_ (p := q.k) HQ.out.k) _
   clear hZ k13 z0 f0
   have k13 : Z.cell? ⟨b, 13, none⟩ = some (.slice (some ⟨q.k, 0, none⟩) r2.oc.length q.kc) := by have := HRZ.out.g.cell 13; simpa using this
   have k14 : Z.cell? ⟨b, 14, none⟩ = some (.slice (some ⟨q.o, 0, none⟩) r2.oc.length q.oc) := by have := HRZ.out.g.cell 14; simpa using this
   have hxz : (r2.wo (r2.oc.set i (x.1, ⟨x.2.days + 1, x.2.pau⟩))).oc[i]? = some (x.1, ⟨x.2.days + 1, x.2.pau⟩) := List.getElem?_set_self hil
   have HXZ := qzL hxz
   obtain ⟨⟨z0, _⟩, _⟩ := HRZ.out.cnt hxz
   obtain ⟨⟨o0', of0⟩, _⟩ := HRZ.out.out hxz
   have x5 : Z.cell? ⟨bx, 5, none⟩ = some (.int .i64 kx.k.aft) := GZ.out.cell 5
   have x6 : Z.cell? ⟨bx, 6, none⟩ = some (.int .i64 kx.k.grace) := GZ.out.cell 6
   have x0 : Z.cell? ⟨bx, 0, none⟩ = some (.int .i64 kx.k.kind) := GZ.out.cell 0
   clear hxz
   have hset : Hid (∀ y, (r2.wo (r2.oc.set i (x.1, ⟨x.2.days + 1, x.2.pau⟩))).wo ((r2.wo (r2.oc.set i (x.1, ⟨x.2.days + 1, x.2.pau⟩))).oc.set i y) = ({ r with day := r.day + 1 } : Rd).wo ((mixP (xBr false r.steps) c.cl r.oc i).set i y)) := fun y => by
    have e9 : ∀ (a d : Out × Cnt), (r2.oc.set i a).set i d = r2.oc.set i d := fun a d => List.set_set _
    show r2.wo ((r2.oc.set i _).set i y) = _
    rw [e9, HO2.out, ← HR2.out, ← HOC.out]
   have hset1 : Hid (r2.wo (r2.oc.set i (x.1, ⟨x.2.days + 1, x.2.pau⟩)) = ({ r with day := r.day + 1 } : Rd).wo ((mixP (xBr false r.steps) c.cl r.oc i).set i (x.1, ⟨x.2.days + 1, x.2.pau⟩))) := by
    unfold Hid
    rw [HO2.out, ← HR2.out, ← HOC.out]
   by_cases h1 : x.2.days + 1 < kx.k.aft
   ·have t1 := qzO h1
    have hf : Hid (xBr false r.steps kx.k x = (x.1, ⟨x.2.days + 1, x.2.pau⟩)) := by unfold Hid xBr xB7; rw [if_neg hgo.out, if_pos h1]
    clear h1
    go_wp2
    go_roundw
    case rel => exact ⟨i + 1, L, by simp, by omega, hP.out.chg HLO.out HK.out HX.out (by have := HRZ.out; rwa [hset1.out] at this) hf.out.symm HKZ.out HOZ.out (by rw [hf.out]; exact HRB.out)⟩
    case measure => simp [intOf]; omega
   have t1 := qzN h1
   by_cases h2 : x.2.days + 1 < kx.k.aft + kx.k.grace
   ·have t2 := qzO h2
    have hf : Hid (xBr false r.steps kx.k x = ({ x.1 with st := 2 }, ⟨x.2.days + 1, x.2.pau⟩)) := by unfold Hid xBr xB7; rw [if_neg hgo.out, if_neg h1, if_pos h2]
    have hfr : Hid ((xBr false r.steps kx.k x).1.runs = true) := by unfold Hid; rw [hf.out]; exact HRB.out
    have hR9 := qzL (HRZ.out.setO (j := 0) (y := { x.1 with st := 2 }) (v := .int .i64 2) HXZ.out (by omega) rfl)
    rw [hset.out] at hR9
    clear h1 h2
    go_wp2
    go_roundw
    case rel => exact ⟨i + 1, L, by simp, by omega, hP.out.chg HLO.out HK.out HX.out hR9.out hf.out.symm (HKZ.out.setCell (.inr (.inl rfl))) (HOZ.out.setNe (HOZ.out.ne_ (p := q.o) HQ.out.o) _) hfr.out⟩
    case measure => simp [intOf]; omega
   have t2 := qzN h2
   have HE := qzL (fun st => xGq w0 b c m _ wl q i _ st Z HRZ.out HXZ.out)
   have hfE : Hid (xBr false r.steps kx.k x = ({ x.1 with st := if kx.k.kind = 1 then 4 else if kx.k.kind = 2 then 3 else 5, to_ := r.steps }, ⟨x.2.days + 1, x.2.pau⟩)) := by unfold Hid xBr xB7; rw [if_neg hgo.out, if_neg h1, if_neg h2]
   clear h1 h2
   have hkd3 : kx.k.kind = 1 ∨ kx.k.kind = 2 ∨ (kx.k.kind = 3 ∨ kx.k.kind = 4) := hkd.out
   rcases hkd3 with e | e | e
   ·have k1 : (kx.k.kind == 1) = true := by simp [e]
    have k2 : (kx.k.kind == 2) = false := by simp [e]
    have hst : Hid (xBr false r.steps kx.k x = ({ x.1 with st := 4, to_ := r.steps }, ⟨x.2.days + 1, x.2.pau⟩)) := by unfold Hid; rw [hfE.out]; rw [if_pos e]
    clear e
    go_wp2_with (first | (go_at_call 108; (with_reducible refine (HE.out 4).mono ?_); rintro e w1 ⟨rfl, hr1, hk1⟩; clear k13 k14 z0 o0' of0 x5 x6 x0; have HO1 := qzL (HOZ.out.keepP hk1 (fun y e => by rw [e]; exact HQ.out.o)); have lw1 : w.heap.size ≤ w1.heap.size := (by have := hP.out.k.size; have := HKZ.out.size; have := hk1.size; omega)) | (at_builtin; refine xBh _ rfl (.tmp 114) (.tmp 116) _ rfl w.heap.size 3 i3 _ 1 8 Tryz.underlying22 hi3 hz30 hz31 hz32 rfl (by omega) (by omega) eI xAz xCx _ L rfl (HO1.out.alloc _) hLn.out _ 1 (i : Int) rfl (Blk.new _ _ _) (by simp; omega) ?_; intro v' w2 hO2 hb2 hg2))
    rw [hset.out] at hr1
    have hN := qzL (hP.out.app HQ.out HW.out.hb.size HLO.out HK.out HX.out hr1 (by rw [hst.out, hs2.out]) (HKZ.out.trans (hk1.weak fun y e => .inr (.inl e))) HO1.out hO2 hb2 hg2)
    go_roundw
    case rel => exact ⟨i + 1, _, by simp, by omega, hN⟩
    case measure => simp [intOf]; omega
   ·have k1 : (kx.k.kind == 1) = false := by simp [e]
    have k2 : (kx.k.kind == 2) = true := by simp [e]
    have hst : Hid (xBr false r.steps kx.k x = ({ x.1 with st := 3, to_ := r.steps }, ⟨x.2.days + 1, x.2.pau⟩)) := by unfold Hid; rw [hfE.out]; rw [if_neg (by omega), if_pos e]
    clear e
    go_wp2_with (first | (go_at_call 108; (with_reducible refine (HE.out 3).mono ?_); rintro e w1 ⟨rfl, hr1, hk1⟩; clear k13 k14 z0 o0' of0 x5 x6 x0; have HO1 := qzL (HOZ.out.keepP hk1 (fun y e => by rw [e]; exact HQ.out.o)); have lw1 : w.heap.size ≤ w1.heap.size := (by have := hP.out.k.size; have := HKZ.out.size; have := hk1.size; omega)) | (at_builtin; refine xBh _ rfl (.tmp 114) (.tmp 116) _ rfl w.heap.size 3 i3 _ 1 8 Tryz.underlying22 hi3 hz30 hz31 hz32 rfl (by omega) (by omega) eI xAz xCx _ L rfl (HO1.out.alloc _) hLn.out _ 1 (i : Int) rfl (Blk.new _ _ _) (by simp; omega) ?_; intro v' w2 hO2 hb2 hg2))
    rw [hset.out] at hr1
    have hN := qzL (hP.out.app HQ.out HW.out.hb.size HLO.out HK.out HX.out hr1 (by rw [hst.out, hs2.out]) (HKZ.out.trans (hk1.weak fun y e => .inr (.inl e))) HO1.out hO2 hb2 hg2)
    go_roundw
    case rel => exact ⟨i + 1, _, by simp, by omega, hN⟩
    case measure => simp [intOf]; omega
   ·have k1 : (kx.k.kind == 1) = false := by rcases e with e | e <;> simp [e]
    have k2 : (kx.k.kind == 2) = false := by rcases e with e | e <;> simp [e]
    have hst : Hid (xBr false r.steps kx.k x = ({ x.1 with st := 5, to_ := r.steps }, ⟨x.2.days + 1, x.2.pau⟩)) := by unfold Hid; rw [hfE.out]; rw [if_neg (by omega), if_neg (by omega)]
    clear e
    go_wp2_with (first | (go_at_call 108; (with_reducible refine (HE.out 5).mono ?_); rintro e w1 ⟨rfl, hr1, hk1⟩; clear k13 k14 z0 o0' of0 x5 x6 x0; have HO1 := qzL (HOZ.out.keepP hk1 (fun y e => by rw [e]; exact HQ.out.o)); have lw1 : w.heap.size ≤ w1.heap.size := (by have := hP.out.k.size; have := HKZ.out.size; have := hk1.size; omega)) | (at_builtin; refine xBh _ rfl (.tmp 114) (.tmp 116) _ rfl w.heap.size 3 i3 _ 1 8 Tryz.underlying22 hi3 hz30 hz31 hz32 rfl (by omega) (by omega) eI xAz xCx _ L rfl (HO1.out.alloc _) hLn.out _ 1 (i : Int) rfl (Blk.new _ _ _) (by simp; omega) ?_; intro v' w2 hO2 hb2 hg2))
    rw [hset.out] at hr1
    have hN := qzL (hP.out.app HQ.out HW.out.hb.size HLO.out HK.out HX.out hr1 (by rw [hst.out, hs2.out]) (HKZ.out.trans (hk1.weak fun y e => .inr (.inl e))) HO1.out hO2 hb2 hg2)
    go_roundw
    case rel => exact ⟨i + 1, _, by simp, by omega, hN⟩
    case measure => simp [intOf]; omega
theorem Blk.grownT {α : Type} {w w' : World} {B g : Nat} {T t : TypeId} {size : Nat} {enc : α → List Value} {v : Value} {xs : List α} {cs : Array Value} (h : Blk w g t cs) (hO : Own w B T size enc v xs) (ht : T ≠ t) (hg : w.grownBy w' v.ownBlock) : Blk w' g t cs :=
 h.grown hg fun e => (Own.blk_ne_row h hO (fun e => ht e.symm) e.symm) rfl
theorem cntB_runs {doer steps : Int} {k : Cla} {o : Out} {n : Cnt} (h : cntB doer k o n = false) (hr : o.runs = true) : (xAr doer steps k o n).runs = true := by
 unfold cntB at h
 unfold xAr
 split
 ·exact hr
 ·next h1 =>
  rw [if_neg h1] at h
  split
  ·next h2 =>
   rw [if_pos h2] at h
   rw [if_pos (by simpa using h)]
   exact hr
  ·next h2 =>
   rw [if_neg h2] at h
   split
   ·next h3 =>
    rw [if_pos h3] at h
    rw [if_pos (by simpa using h)]
    exact hr
   ·next h3 => rw [if_neg h3] at h; cases h
abbrev Rq.pA (q : Rq) (x : Nat) : Prop := x = q.a ∨ x = q.o ∨ x = q.k ∨ x = q.h
structure RMid (f : Cla → Out × Cnt → Out × Cnt) (w0 w W : World) (b : Nat) (c : Con) (m : Cm) (r : Rd) (wl : Int → List Int) (q : Rq) (i : Nat) (v : Value) (L L' : List Int) (O : Out) (n : Cnt) (ba bx : Nat) (a : Atc) (kx : Km) : Prop where
 rd : Rdm w0 W b c m (r.wo ((mixP f c.cl r.oc i).set i (O, n))) wl q
 k : Kept w W q.pA
 o : Own W w.heap.size 3 1 eI v L'
 ga : Blk W ba 92 (aL a).toArray
 gx : Blk W bx 95 (kL kx).toArray
 e : (L' = L ∧ O.runs = true) ∨ L' = L ++ [(i : Int)]
theorem RMid.fin {f : Cla → Out × Cnt → Out × Cnt} {w0 w W W' W2 : World} {b : Nat} {c : Con} {m : Cm} {r : Rd} {wl : Int → List Int} {q : Rq} {i : Nat} {v v0 : Value} {L L' : List Int} {O : Out} {n n' : Cnt} {ba bx : Nat} {a : Atc} {kx : Km} {x : Out × Cnt}
  (h : RMid f w0 w W b c m r wl q i v L L' O n ba bx a kx) (hP : RLp f w0 w W2 b c m r wl q q.pA w.heap.size i v0 L) (hlo : r.oc.length = c.cl.length) (hk : c.cl[i]? = some kx.k) (hx : r.oc[i]? = some x) (hR : Rdm w0 W' b c m (r.wo ((mixP f c.cl r.oc i).set i (O, n'))) wl q) (hy : (O, n') = f kx.k x) (hK : Kept W W' (fun y => y = q.k)) (hqk : q.k < w.heap.size) (hw : w.heap.size ≤ ba) :
  RLp f w0 w W' b c m r wl q q.pA w.heap.size (i + 1) v L' ∧ Blk W' ba 92 (aL a).toArray := by
 refine ⟨⟨by rw [xC0 hlo hk hx, ← hy]; exact hR, h.k.trans (hK.weak fun y e => .inr (.inr (.inl e))), h.o.keepP hK (fun y e => by rw [e]; exact hqk), ?_⟩, h.ga.kept hK (fun e => by omega)⟩
 rcases h.e with ⟨e, hr⟩ | e
 ·rw [e]; exact hP.e.skip hk hx (fun _ => by rw [← hy]; exact hr)
 ·rw [e]; exact hP.e.next
theorem actR_any (w0 : World) (b : Nat) (c : Con) (m : Cm) (r : Rd) (wl : Int → List Int) (q : Rq) (n : Nat) (a : Atc) (w : World) (hW : Rdm w0 w b c m r wl q) (hok : c.ok = true) (hI : RInv c r) (ha : c.ac[n]? = some a) (hG : ∀ (i : Nat) x, r.oc[i]? = some x → 0 ≤ x.1.got ∧ x.1.got ≤ 1000000) :
  Calls Tryz.prog 85 #[.pointer (some ⟨b, 0, none⟩), .int .i64 (n : Nat)] w fun e w' => RetD w0 w b c m r (r.actW c n a) wl q q.pA e w' := by
 have HW := qzL hW
 have HI := qzL hI
 have HOK := qzL hok
 have HA := qzL ha
 have HG := qzL hG
 have hna : n < c.ac.length := (qzM ha).1
 have hnh : n < r.hap.length := by rw [hW.la]; exact hna
 have nk := hW.cn.nk
 have no := hW.no
 have na := hW.na
 have nac := hW.cn.na
 have nh := hW.nh
 have HLO := qzL hW.lo
 have HLH := qzL hW.lh
 have HQ := qzL hW.qb
 have hao := ok_act hok (qzK ha)
 obtain ⟨hkind, hrole, hgive⟩ := hao
 have HKD := qzL hkind
 have HRL := qzL hrole
 have HGV := qzL hgive
 obtain ⟨hv, hhv⟩ : ∃ v, r.hap[n]? = some v := ⟨_, qzJ hnh⟩
 have HHV := qzL hhv
 have htk : Hid (a.takes r n = (a.kind == 1 || !hv)) := by unfold Hid Atc.takes; rw [List.getD_eq_getElem?_getD, hhv]; rfl
 obtain ⟨i3, hi3, hz30, hz31, hz32⟩ := info_parts (show (Tryz.prog.info? 3).map (fun i => (i.zero, i.size, i.bytes)) = some (some (.int .i64 0), 1, 8) by kernel_rfl)
 obtain ⟨b0, o0, eA0, hb0, hc0⟩ := xAv (hW.cn.a.below hW.hb) ha
 have hix0 := fun W => xAp (t := 24) (size := 7) (cap := m.ac) eA0 hna (by kernel_rfl) (fun W => by kernel_rfl) W
 have hixa := fun W => xA4 (t := 44) (size := 1) (g := q.a) (cap := q.ac) hnh (by kernel_rfl) (fun W => by kernel_rfl) W
 simp only [Nat.mul_one] at hixa
 have hrg : w.rangeAt b0 (o0 + n * 7) (aL a) := fun j v hv => hc0 j v hv
 have k3 : w.cell? ⟨b, 3, none⟩ = some (.slice m.a c.ac.length m.ac) := hW.g.cell 3
 clear hW hI hok ha hG hc0 eA0 hhv hkind hrole hgive
 go_enter Tryz.func85, Tryz.ntmps85
 go_upto_region 2 with ((refine xAm 92 el7 _ _ _ rfl rfl rfl rfl rfl rfl rfl rfl rfl b0 _ rfl (aL a) rfl hrg (by simp [Value.oneCell']) (by decide) (by simp) (by simp) ?_; simp only [Act.put, qzG, qzH, qzI]))
 refine xAi ?_
 intro V hV
 have gx : Blk V w.heap.size 92 (aL a).toArray := by rw [hV]; exact Blk.new _ _ _
 have HVB : Hid (Below w.heap.size w V) := by rw [hV]; exact wa1 _ _
 obtain ⟨ba, ex⟩ : ∃ b, w.heap.size = b := ⟨_, rfl⟩
 have lba : Hid (w.heap.size ≤ ba) := by unfold Hid; omega
 rw [ex] at gx ⊢
 have GA := qzL gx
 have HRV := qzL (HW.out.then_ HVB.out)
 clear hV ex hrg hix0 gx hb0 k3
 have x0 : V.cell? ⟨ba, 0, none⟩ = some (.int .i64 a.kind) := GA.out.cell 0
 have k10 : V.cell? ⟨b, 10, none⟩ = some (.slice (some ⟨q.a, 0, none⟩) r.hap.length q.ac) := HRV.out.g.cell 10
 obtain ⟨y0, f0⟩ := HRV.out.hapAt HHV.out
 obtain ⟨T, hT⟩ : ∃ t, a.takes r n = t := ⟨_, rfl⟩
 rw [hT] at htk
 have HT := qzL hT
 clear hT
 go_cut [6] from 21 to 33 (fun v W => v = .bool T ∧ V = W)
 case first =>
  have h := htk.out
  cases e : (a.kind == 1) with
  | true =>
   rw [e] at h
   obtain rfl : T = true := by simpa using h
   clear h htk HT
   go_wp2
   go_meet
   case rel => exact ⟨rfl, rfl⟩
  | false =>
   rw [e] at h
   obtain rfl : T = !hv := by simpa using h
   clear h htk HT
   go_wp2
   go_meet
   case rel => exact ⟨rfl, rfl⟩
 case rest =>
 obtain ⟨rfl, rfl⟩ := hcut
 go_upto_region 4 with (fail)
 refine xAi ?_
 intro X hX
 have HRX : Hid (Rdm w0 X b c m { r with hap := r.hap.set n true } wl q) := by rw [hX]; exact HRV.out.setA true hnh
 have HKX : Hid (Kept w X q.pA) := by rw [hX]; exact (Kept.of_below HVB.out).setCell (.inl rfl)
 have GX : Hid (Blk X ba 92 (aL a).toArray) := by rw [hX]; exact GA.out.far (by have h1 := HQ.out.a; have := lba.out; show ba ≠ q.a; omega) _
 clear hX x0 k10 y0 f0 htk HHV hixa
 obtain ⟨r1, hr1⟩ : ∃ R, ({ r with hap := r.hap.set n true } : Rd) = R := ⟨_, rfl⟩
 have HR1 := qzL hr1
 rw [hr1] at HRX
 have hoc1 : Hid (r1.oc = r.oc ∧ r1.hol = r.hol ∧ r1.steps = r.steps) := by rw [← hr1]; exact ⟨rfl, rfl, rfl⟩
 clear hr1
 have x1 : X.cell? ⟨ba, 1, none⟩ = some (.int .i64 a.role) := GX.out.cell 1
 obtain ⟨D, hD⟩ : ∃ d, xA9 a r.hol = d := ⟨_, rfl⟩
 have HD := qzL hD
 clear hD
 go_upto_if 42 with (fail)
 go_cut [7] from 40 to 50 (fun v W => v = .int .i64 D ∧ Hid (Below X.heap.size X W))
 case first =>
  by_cases e : a.role = -1
  ·have t1 : (a.role != -1) = false := by simp [e]
   have hd : D = -1 := by rw [← HD.out]; unfold xA9; rw [if_pos e]
   subst hd
   clear e
   go_wp2
   go_meet
   case rel => exact ⟨rfl, qzL (Below.refl _ _)⟩
  ·have t1 : (a.role != -1) = true := by simpa using e
   have hrl := HRL.out.resolve_left e
   obtain ⟨rn, hrn⟩ : ∃ z : Nat, a.role = (z : Int) := ⟨a.role.toNat, by omega⟩
   have hrl2 : rn < r1.hol.length := by rw [hoc1.out.2.1, HLH.out]; omega
   have nh1 : r1.hol.length ≤ 1000000 := by rw [hoc1.out.2.1]; exact nh
   obtain ⟨dv, hdv⟩ : ∃ z, r1.hol[rn]? = some z := ⟨_, qzJ hrl2⟩
   have hd : D = dv := by rw [← HD.out]; unfold xA9 xCa; rw [if_neg e, hrn, Int.toNat_natCast, ← hoc1.out.2.1, List.getD_eq_getElem?_getD, hdv]; rfl
   subst hd
   obtain ⟨y0, _⟩ := HRX.out.holAt hdv
   have k9 : X.cell? ⟨b, 9, none⟩ = some (.slice (some ⟨q.h, 0, none⟩) r1.hol.length q.hc) := HRX.out.g.cell 9
   have hixh := fun W => xA4 (t := 22) (size := 1) (g := q.h) (cap := q.hc) hrl2 (by kernel_rfl) (fun W => by kernel_rfl) W
   simp only [Nat.mul_one] at hixh
   have x1' : X.cell? ⟨ba, 1, none⟩ = some (.int .i64 (rn : Int)) := by rw [← hrn]; exact x1
   clear e hrl hdv hrn HD
   go_upto_region 6 with (fail)
   have rg0 := cR x1'
   have rg1 := cR k9
   have rg2 := cR y0
   refine xAg [0, 1, 2, 3, 4, 5, 6, 7] [8] (by kernel_rfl) (by kernel_rfl) pO ?_
   simp only [xAn, qzA, qzB, qzC, qzD, qzE, qzF]
   repeat (go_big_quiet_step (skip))
   refine wpQuiet_nil ?_
   intro Z hw2
   have hbZ := xAj hw2
   clear hw2 rg0 rg1 rg2
   go_wp2
   go_meet
   case rel => exact ⟨rfl, qzL hbZ⟩
 case rest =>
 obtain ⟨rfl, hXB⟩ := hcut
 have HRC := qzL (HRX.out.then_ hXB.out)
 have HKC := qzL (HKX.out.trans (Kept.of_below hXB.out))
 have GC := qzL (GX.out.then_ hXB.out)
 clear HRX HKX GX hXB x1 HRV HVB GA
 have HLO1 : Hid (r1.oc.length = c.cl.length) := by unfold Hid; rw [hoc1.out.1]; exact HLO.out
 have h0 : Hid (RLp (actP (n : Int) D r.steps T) w0 w wc b c m r1 wl q q.pA w.heap.size 0 (.slice none 0 0) []) := ⟨by rw [xEi]; exact HRC.out, HKC.out, Own.nil _ _ _ _ _, EndS.zero⟩
 have k4 : wc.cell? ⟨b, 4, none⟩ = some (.slice m.k c.cl.length m.kc) := HRC.out.g.cell 4
 go_upto_region 9 with (fail)
 clear HRC HKC k4
 go_loopw [8, 57] (fun v y WR => ∃ (i : Nat) (L : List Int), y = .int .i64 i ∧ i ≤ c.cl.length ∧ Hid (RLp (actP (n : Int) D r.steps T) w0 w WR b c m r1 wl q q.pA w.heap.size i v L) ∧ Hid (Blk WR ba 92 (aL a).toArray)) (fun _ y _ => 2000000 - (intOf y).toNat)
 case atStart => exact ⟨0, [], rfl, by omega, h0, GC⟩
 case round =>
  clear h0 GC
  obtain ⟨i, L, rfl, hi, hP, hGA⟩ := hrel
  by_cases hlt : i < c.cl.length
  case neg =>
   obtain rfl : i = c.cl.length := by omega
   have tl : decide (((c.cl.length : Nat) : Int) < ((c.cl.length : Nat) : Int)) = false := qzN (by omega)
   have hRA : Hid (Rdm w0 wr b c m (r.actA c n a) wl q) := by
    have hrd := hP.out.rd
    rw [xE0 HLO1.out, hoc1.out.1] at hrd
    have e : r1.wo (List.zipWith (actP (n : Int) D r.steps T) c.cl r.oc) = r.actA c n a := by
     unfold Rd.actA
     rw [HD.out, HT.out, ← HR1.out]
    rw [e] at hrd
    exact hrd
   have hE : Hid (EndL c r (r.actA c n a) L) := by
    have h := hP.out.e
    rw [hoc1.out.1] at h
    refine EndS.all h ?_
    unfold Rd.actA
    rw [HD.out, HT.out]
   have hE2 : Hid (EndL c r (r.actW c n a) L) := (xGw (xCe HOK.out) (xEg HOK.out) HI.out HA.out).2.2 L hE.out
   have hK := qzL hP.out.k
   have hO := qzL hP.out.o
   clear hP hE HR1 HD HLO1 hoc1
   have x0 : wr.cell? ⟨ba, 0, none⟩ = some (.int .i64 a.kind) := hGA.out.cell 0
   cases T with
   | false =>
    have hW : Hid (r.actW c n a = r.actA c n a) := by unfold Hid Rd.actW; rw [if_pos (.inl HT.out)]
    go_wp2
    go_ret
    rw [hW.out] at hE2 ⊢
    exact ⟨_, L, rfl, hRA.out, hK.out, hO.out, hE2.out⟩
   | true =>
   by_cases hk1 : a.kind = 1
   ·have hW : Hid (r.actW c n a = r.actA c n a) := by unfold Hid Rd.actW; rw [if_pos (.inr hk1)]
    have t1 : (a.kind == 1) = true := by simp [hk1]
    clear hk1
    go_wp2
    go_ret
    rw [hW.out] at hE2 ⊢
    exact ⟨_, L, rfl, hRA.out, hK.out, hO.out, hE2.out⟩
   have t1 : (a.kind == 1) = false := by simp [hk1]
   have hW : Hid (r.actW c n a = { r.actA c n a with hol := r.hol.set a.give.toNat a.to_, oc := if a.kind = 3 then List.zipWith (xBa a) c.cl (r.actA c n a).oc else (r.actA c n a).oc }) := by unfold Hid Rd.actW; rw [if_neg (by rw [HT.out]; simp [hk1])]
   obtain ⟨hg0, hg1, ht0, ht1⟩ := HGV.out hk1
   clear hk1
   obtain ⟨gn, hgn⟩ : ∃ z : Nat, a.give = (z : Int) := ⟨a.give.toNat, by omega⟩
   have hgl : gn < r.hol.length := by rw [HLH.out]; omega
   obtain ⟨hv2, hhv2⟩ : ∃ z, r.hol[gn]? = some z := ⟨_, qzJ hgl⟩
   have HHV2 := qzL hhv2
   have k9 : wr.cell? ⟨b, 9, none⟩ = some (.slice (some ⟨q.h, 0, none⟩) r.hol.length q.hc) := hRA.out.g.cell 9
   have x2 : wr.cell? ⟨ba, 2, none⟩ = some (.int .i64 (gn : Int)) := by rw [← hgn]; exact hGA.out.cell 2
   have x3 : wr.cell? ⟨ba, 3, none⟩ = some (.int .i64 a.to_) := hGA.out.cell 3
   have hixh := fun W => xA4 (t := 22) (size := 1) (g := q.h) (cap := q.hc) hgl (by kernel_rfl) (fun W => by kernel_rfl) W
   simp only [Nat.mul_one] at hixh
   have hGN : Hid (a.give.toNat = gn) := by unfold Hid; omega
   have hW2 : Hid (r.actW c n a = { r.actA c n a with hol := r.hol.set gn a.to_, oc := if a.kind = 3 then List.zipWith (xBa a) c.cl (r.actA c n a).oc else (r.actA c n a).oc }) := by unfold Hid; rw [hW.out, hGN.out]
   have HGNI := qzL hgn
   clear hhv2 hgn hg0 hg1 ht0 ht1 hW hGN
   go_upto_region 21 with (fail)
   have rg0 := cR k9
   have rg1 := cR x2
   have rg2 := cR x3
   refine xAg [0, 1, 2, 3, 4, 5, 6, 7] [8, 9] (by kernel_rfl) (by kernel_rfl) pO ?_
   simp only [xAn, qzA, qzB, qzC, qzD, qzE, qzF]
   repeat (go_big_quiet_step (skip))
   refine wpQuiet_nil ?_
   intro Z hw2
   have hbZ := xAj hw2
   clear hw2 rg0 rg1 rg2
   have HRZ := qzL (hRA.out.then_ hbZ)
   have HKZ := qzL (hK.out.trans (Kept.of_below hbZ))
   have HOZ := qzL (hO.out.below hbZ)
   have HGZ := qzL (hGA.out.then_ hbZ)
   clear k9 x2 x3 x0 hbZ hRA hK hO hGA
   obtain ⟨hh0, hh1⟩ := HRZ.out.holAt HHV2.out
   go_upto_region 22 with (fail)
   refine xAi ?_
   intro Y hY
   obtain ⟨rh, hrh⟩ : ∃ R, ({ r.actA c n a with hol := r.hol.set gn a.to_ } : Rd) = R := ⟨_, rfl⟩
   have HRY : Hid (Rdm w0 Y b c m rh wl q) := by rw [hY, ← hrh]; exact HRZ.out.setH a.to_ hgl
   have HKY : Hid (Kept w Y q.pA) := by rw [hY]; exact HKZ.out.setCell (.inr (.inr (.inr rfl)))
   have HOY : Hid (Own Y w.heap.size 3 1 eI u8 L) := by rw [hY]; exact HOZ.out.setNe (HOZ.out.ne_ (p := q.h) HQ.out.h) _
   have HGY : Hid (Blk Y ba 92 (aL a).toArray) := by rw [hY]; exact HGZ.out.far (by have h1 := HQ.out.h; have := lba.out; show ba ≠ q.h; omega) _
   have HRH := qzL hrh
   have HLOH : Hid (rh.oc.length = c.cl.length) := HRY.out.lo
   clear hY hh0 hh1 HRZ HKZ HOZ HGZ hrh hixh
   obtain ⟨g, hg⟩ : ∃ g, (if a.kind = 3 then xBa a else fun _ p => p) = g := ⟨_, rfl⟩
   have HGG := qzL hg
   have hfin : Hid (rh.wo (List.zipWith g c.cl rh.oc) = r.actW c n a) := by
    unfold Hid
    rw [hW2.out, ← hg, ← HRH.out]
    by_cases h3 : a.kind = 3
    ·rw [if_pos h3, if_pos h3]
    ·rw [if_neg h3, if_neg h3]
     have e : List.zipWith (fun (_ : Cla) (p : Out × Cnt) => p) c.cl rh.oc = rh.oc := by
      refine List.ext_getElem? fun j => ?_
      rw [List.getElem?_zipWith]
      by_cases hj : j < c.cl.length
      ·rw [qzJ hj, qzJ (by rw [HLOH.out]; exact hj)]
      ·rw [List.getElem?_eq_none (by omega), List.getElem?_eq_none (by rw [HLOH.out]; omega)]
     rw [← HRH.out] at e
     show ({ r.actA c n a with hol := _, oc := _ } : Rd) = _
     rw [e]
   clear hg hW2
   have h0 : Hid (Rdm w0 Y b c m (rh.wo (mixP g c.cl rh.oc 0)) wl q) := by rw [xEi]; exact HRY.out
   have k4 : Y.cell? ⟨b, 4, none⟩ = some (.slice m.k c.cl.length m.kc) := HRY.out.g.cell 4
   go_upto_region 23 with (fail)
   clear HRY k4
   go_loopw [129] (fun y WR => ∃ (i : Nat), y = .int .i64 i ∧ i ≤ c.cl.length ∧ Hid (Rdm w0 WR b c m (rh.wo (mixP g c.cl rh.oc i)) wl q) ∧ Hid (Kept w WR q.pA) ∧ Hid (Own WR w.heap.size 3 1 eI u8 L) ∧ Hid (Blk WR ba 92 (aL a).toArray)) (fun y _ => 2000000 - (intOf y).toNat)
   case atStart => exact ⟨0, rfl, by omega, h0, HKY, HOY, HGY⟩
   case round =>
    clear h0 HKY HOY HGY
    obtain ⟨i, rfl, hi, hR0, hK0, hO0, hG0⟩ := hrel
    by_cases hlt : i < c.cl.length
    case neg =>
     obtain rfl : i = c.cl.length := by omega
     have tl : decide (((c.cl.length : Nat) : Int) < ((c.cl.length : Nat) : Int)) = false := qzN (by omega)
     go_wp2
     go_ret
     have h := hR0.out
     rw [xE0 HLOH.out, hfin.out] at h
     exact ⟨_, L, rfl, h, hK0.out, hO0.out, hE2.out⟩
    have tl : decide ((i : Int) < (c.cl.length : Int)) = true := qzO (by omega)
    obtain ⟨k, hk⟩ : ∃ k, c.cl[i]? = some k := ⟨_, qzJ hlt⟩
    obtain ⟨x, hx⟩ : ∃ x, rh.oc[i]? = some x := ⟨_, qzJ (by rw [HLOH.out]; exact hlt)⟩
    have hmx : (mixP g c.cl rh.oc i)[i]? = some x := (xFi HLOH.out hlt).trans hx
    obtain ⟨r2, hr2⟩ : ∃ R, rh.wo (mixP g c.cl rh.oc i) = R := ⟨_, rfl⟩
    have hR := hR0.out
    rw [hr2] at hR
    have hm2 : r2.oc[i]? = some x := by rw [← hr2]; exact hmx
    have hst : Hid (∀ y, r2.wo (r2.oc.set i y) = rh.wo ((mixP g c.cl rh.oc i).set i y)) := fun y => by rw [← hr2]
    have hsk : Hid (g k x = x → rh.wo (mixP g c.cl rh.oc (i + 1)) = r2) := fun h => by rw [xHu HLOH.out hk hx h, hr2]
    have hsu : Hid (rh.wo (mixP g c.cl rh.oc (i + 1)) = rh.wo ((mixP g c.cl rh.oc i).set i (g k x))) := by unfold Hid; rw [xC0 HLOH.out hk hx]
    have HR := qzL hR
    have HM2 := qzL hm2
    have hil : i < r2.oc.length := (qzM hm2).1
    have n2 := hR.no
    obtain ⟨kx, hkx, hkk⟩ := xC3 hR.cn.e hk
    subst hkk
    obtain ⟨b0, o0, eA0, hb0, hc0⟩ := xAv (hR.cn.k.below hR.hb) hkx
    have hix0 := fun W => xAp (t := 25) (size := 16) (cap := m.kc) eA0 hlt (by kernel_rfl) (fun W => by kernel_rfl) W
    have hixo := fun W => xA4 (t := 52) (size := 5) (g := q.o) (cap := q.oc) hil (by kernel_rfl) (fun W => by kernel_rfl) W
    have hrg : wr.rangeAt b0 (o0 + i * 16) (kL kx) := fun j v hv => hc0 j v hv
    have lwr := hK0.out.size
    clear hc0 eA0 hkx hk hx hmx hr2 hR hm2 hR0
    go_upto_region 25 with ((refine xBt 95 el16 _ _ _ _ _ rfl rfl rfl rfl rfl rfl rfl rfl rfl rfl rfl rfl b0 _ rfl (kL kx) rfl hrg (by simp [Value.oneCell']) (by decide) (by decide) (by decide) (by simp) (by simp) (.int .i64 (i : Nat)) rfl ?_; simp only [Act.put, qzG, qzH, qzI]))
    refine xAi ?_
    intro V hV
    have gx : Blk V wr.heap.size 95 (kL kx).toArray := by rw [hV]; exact Blk.new _ _ _
    have HVB : Hid (Below wr.heap.size wr V) := by rw [hV]; exact wa1 _ _
    obtain ⟨bx, ex⟩ : ∃ b, wr.heap.size = b := ⟨_, rfl⟩
    rw [ex] at gx ⊢
    have GXV := qzL gx
    have HRV := qzL (HR.out.then_ HVB.out)
    have HRUN := qzL (xFe w0 b c m r2 wl q i x V HRV.out HM2.out)
    have hGV := qzL (hG0.out.then_ HVB.out)
    have y0 : V.cell? ⟨ba, 0, none⟩ = some (.int .i64 a.kind) := hGV.out.cell 0
    clear hV ex hrg hix0 gx hb0
    have hsame : Hid (∀ W, Below wr.heap.size wr W → g kx.k x = x → (∃ j : Nat, (.int .i64 ((i : Int) + 1) : Value) = .int .i64 j ∧ j ≤ c.cl.length ∧ Hid (Rdm w0 W b c m (rh.wo (mixP g c.cl rh.oc j)) wl q) ∧ Hid (Kept w W q.pA) ∧ Hid (Own W w.heap.size 3 1 eI u8 L) ∧ Hid (Blk W ba 92 (aL a).toArray))) := fun W hb he => by
     refine ⟨i + 1, by simp, by omega, ?_, ?_, ?_, ?_⟩
     ·rw [hsk.out he]; exact HR.out.then_ hb
     ·exact hK0.out.trans (Kept.of_below hb)
     ·exact hO0.out.below hb
     ·exact hG0.out.then_ hb
    by_cases h3 : a.kind = 3
    case neg =>
     have t3 : (a.kind == 3) = false := by simp [h3]
     have hg : Hid (g kx.k x = x) := by unfold Hid; rw [← HGG.out, if_neg h3]
     clear h3
     go_wp2
     go_roundw
     case rel => exact hsame.out _ HVB.out hg.out
     case measure => simp [intOf]; omega
    have t3 : (a.kind == 3) = true := by simp [h3]
    have hgn : Hid (g kx.k x = xBa a kx.k x) := by unfold Hid; rw [← HGG.out, if_pos h3]
    clear h3
    obtain ⟨rb, hrb⟩ : ∃ z, x.1.runs = z := ⟨_, rfl⟩
    rw [hrb] at HRUN
    have HRB := qzL hrb
    clear hrb
    cases rb with
    | false =>
     have hg : Hid (g kx.k x = x) := by unfold Hid; rw [hgn.out]; unfold xBa; rw [if_neg (by rw [HRB.out]; simp)]
     go_wp2_with (go_at_call 106; (with_reducible refine HRUN.out.mono ?_); rintro e w1 ⟨rfl, hb1'⟩)
     go_roundw
     case rel => exact hsame.out _ (xAa HVB.out hb1') hg.out
     case measure => simp [intOf]; omega
    | true =>
    by_cases h4 : kx.k.kind = 4
    ·have t4 : (kx.k.kind != 4) = false := by simp [h4]
     have hg : Hid (g kx.k x = x) := by unfold Hid; rw [hgn.out]; unfold xBa; rw [if_neg (fun h => h.2.1 h4)]
     clear h4
     go_wp2_with (go_at_call 106; (with_reducible refine HRUN.out.mono ?_); rintro e w1 ⟨rfl, hb1'⟩; have z0 : w1.cell? ⟨bx, 0, none⟩ = some (.int .i64 kx.k.kind) := (GXV.out.then_ hb1').cell 0)
     go_roundw
     case rel => exact hsame.out _ (xAa HVB.out hb1') hg.out
     case measure => simp [intOf]; omega
    have t4 : (kx.k.kind != 4) = true := by simpa using h4
    by_cases h5 : kx.k.role = a.give
    case neg =>
     have t5 : (kx.k.role == a.give) = false := by simpa using h5
     have hg : Hid (g kx.k x = x) := by unfold Hid; rw [hgn.out]; unfold xBa; rw [if_neg (fun h => h5 h.2.2)]
     clear h4 h5
     go_wp2_with (go_at_call 106; (with_reducible refine HRUN.out.mono ?_); rintro e w1 ⟨rfl, hb1'⟩; have z0 : w1.cell? ⟨bx, 0, none⟩ = some (.int .i64 kx.k.kind) := (GXV.out.then_ hb1').cell 0; have z1 : w1.cell? ⟨bx, 1, none⟩ = some (.int .i64 kx.k.role) := (GXV.out.then_ hb1').cell 1; have z2 : w1.cell? ⟨ba, 2, none⟩ = some (.int .i64 a.give) := (hGV.out.then_ hb1').cell 2)
     go_roundw
     case rel => exact hsame.out _ (xAa HVB.out hb1') hg.out
     case measure => simp [intOf]; omega
    have t5 : (kx.k.role == a.give) = true := by simpa using h5
    have hg : Hid (g kx.k x = ({ x.1 with brr := a.to_ }, x.2)) := by unfold Hid; rw [hgn.out]; unfold xBa; rw [if_pos ⟨HRB.out, h4, h5⟩]
    clear h4 h5
    go_upto_region 26 with (go_at_call 106; (with_reducible refine HRUN.out.mono ?_); rintro e w1 ⟨rfl, hb1'⟩; have z0 : w1.cell? ⟨bx, 0, none⟩ = some (.int .i64 kx.k.kind) := (GXV.out.then_ hb1').cell 0; have z1 : w1.cell? ⟨bx, 1, none⟩ = some (.int .i64 kx.k.role) := (GXV.out.then_ hb1').cell 1; have z2 : w1.cell? ⟨ba, 2, none⟩ = some (.int .i64 a.give) := (hGV.out.then_ hb1').cell 2)
    refine xAi ?_
    intro U hU
    have hbU : Below wr.heap.size wr U := by rw [hU]; exact xAa HVB.out hb1'
    have HRU := qzL (HR.out.then_ hbU)
    have HKU := qzL (hK0.out.trans (Kept.of_below hbU))
    have HOU := qzL (hO0.out.below hbU)
    have HGU := qzL (hG0.out.then_ hbU)
    clear hU hb1' z0 z1 z2 hbU
    have k14 : U.cell? ⟨b, 14, none⟩ = some (.slice (some ⟨q.o, 0, none⟩) r2.oc.length q.oc) := HRU.out.g.cell 14
    have x3 : U.cell? ⟨ba, 3, none⟩ = some (.int .i64 a.to_) := HGU.out.cell 3
    have rg0 := cR k14
    have rg1 := cR x3
    refine xAg [0, 1, 2, 3, 4, 5, 6] [7, 8, 9] (by kernel_rfl) (by kernel_rfl) pO ?_
    simp only [xAn, qzA, qzB, qzC, qzD, qzE, qzF]
    repeat (go_big_quiet_step (skip))
    refine wpQuiet_nil ?_
    intro Z hw2
    have hbZ := xAj hw2
    clear hw2 rg0 rg1
    have HRZ := qzL (HRU.out.then_ hbZ)
    have HKZ := qzL (HKU.out.trans (Kept.of_below hbZ))
    have HOZ := qzL (HOU.out.below hbZ)
    have HGZ := qzL (HGU.out.then_ hbZ)
    clear k14 x3 hbZ HRU HKU HOU HGU
    obtain ⟨_, _, _, _, o4, f4⟩ := HRZ.out.out HM2.out
    have hS := HRZ.out.setO (j := 4) (y := { x.1 with brr := a.to_ }) (v := .int .i64 a.to_) HM2.out (by omega) rfl
    rw [hst.out, ← hg.out, ← hsu.out] at hS
    have HS := qzL hS
    have HK9 := qzL (HKZ.out.setCell (g := q.o) (o := i * 5 + 4) (v := .int .i64 a.to_) (.inr (.inl rfl)))
    have HO9 := qzL (HOZ.out.setNe (p := ⟨q.o, i * 5 + 4, none⟩) (HOZ.out.ne_ (p := q.o) HQ.out.o) (.int .i64 a.to_))
    have HG9 := qzL (HGZ.out.far (p := ⟨q.o, i * 5 + 4, none⟩) (by have h1 := HQ.out.o; have := lba.out; show ba ≠ q.o; omega) (.int .i64 a.to_))
    clear hS
    go_wp2
    go_roundw
    case rel => exact ⟨i + 1, by simp, by omega, HS, HK9, HO9, HG9⟩
    case measure => simp [intOf]; omega
  have tl : decide ((i : Int) < (c.cl.length : Int)) = true := qzO (by omega)
  obtain ⟨k, hk⟩ : ∃ k, c.cl[i]? = some k := ⟨_, qzJ hlt⟩
  obtain ⟨x, hx⟩ : ∃ x, r1.oc[i]? = some x := ⟨_, qzJ (by rw [HLO1.out]; exact hlt)⟩
  have hmx : (mixP (actP (n : Int) D r.steps T) c.cl r1.oc i)[i]? = some x := (xFi HLO1.out hlt).trans hx
  have hgot := HG.out i x (by rw [← hoc1.out.1]; exact hx)
  have hkp := qzL (((xEg HOK.out) n a HA.out k (qzK hk)).1)
  obtain ⟨oc', hoc⟩ : ∃ l, mixP (actP (n : Int) D r.steps T) c.cl r1.oc i = l := ⟨_, rfl⟩
  have hR0 := hP.out.rd
  rw [hoc] at hR0 hmx
  have HOC := qzL hoc
  obtain ⟨r2, hr2⟩ : ∃ R, r1.wo oc' = R := ⟨_, rfl⟩
  have ho2 : r2.oc = oc' := by rw [← hr2]
  have hs2 : Hid (r2.steps = r.steps) := by unfold Hid; rw [← hr2]; exact hoc1.out.2.2
  rw [hr2] at hR0
  rw [← ho2] at hmx
  have HR2 := qzL hr2
  have HO2 := qzL ho2
  have HR := qzL hR0
  have HMX := qzL hmx
  have HK := qzL hk
  have HX := qzL hx
  have hil : i < r2.oc.length := (qzM hmx).1
  have n2 := hR0.no
  have hLn : Hid (L.length ≤ 1000000) := by unfold Hid; have := hP.out.e.n; omega
  have HO := qzL hP.out.o
  obtain ⟨kx, hkx, hkk⟩ := xC3 hR0.cn.e hk
  subst hkk
  obtain ⟨b0, o0, eA0, hb0, hc0⟩ := xAv (hR0.cn.k.below hR0.hb) hkx
  have hix0 := fun W => xAp (t := 25) (size := 16) (cap := m.kc) eA0 hlt (by kernel_rfl) (fun W => by kernel_rfl) W
  have hixk := fun W => xA4 (t := 84) (size := 2) (g := q.k) (cap := q.kc) hil (by kernel_rfl) (fun W => by kernel_rfl) W
  have hrg : wr.rangeAt b0 (o0 + i * 16) (kL kx) := fun j v hv => hc0 j v hv
  have lwr := hP.out.k.size
  clear hc0 eA0 hkx hk hx hmx hoc hr2 hR0 ho2
  go_upto_region 11 with ((refine xBt 95 el16 _ _ _ _ _ rfl rfl rfl rfl rfl rfl rfl rfl rfl rfl rfl rfl b0 _ rfl (kL kx) rfl hrg (by simp [Value.oneCell']) (by decide) (by decide) (by decide) (by simp) (by simp) (.int .i64 (i : Nat)) rfl ?_; simp only [Act.put, qzG, qzH, qzI]))
  refine xAi ?_
  intro V hV
  have gx : Blk V wr.heap.size 95 (kL kx).toArray := by rw [hV]; exact Blk.new _ _ _
  have HVB : Hid (Below wr.heap.size wr V) := by rw [hV]; exact wa1 _ _
  obtain ⟨bx, ex⟩ : ∃ b, wr.heap.size = b := ⟨_, rfl⟩
  have lbx : Hid (w.heap.size ≤ bx) := by unfold Hid; omega
  rw [ex] at gx ⊢
  have GXV := qzL gx
  have HRV := qzL (HR.out.then_ HVB.out)
  have HRUN := qzL (xFe w0 b c m r2 wl q i x V HRV.out HMX.out)
  clear hV ex hrg hix0 gx hb0
  obtain ⟨rb, hrb⟩ : ∃ z, x.1.runs = z := ⟨_, rfl⟩
  rw [hrb] at HRUN
  have HRB := qzL hrb
  clear hrb
  cases rb with
  | false =>
   have hs : Hid (actP (n : Int) D r.steps T kx.k x = x) := by unfold Hid actP actO; rw [if_pos HRB.out]
   go_wp2_with (go_at_call 106; (with_reducible refine HRUN.out.mono ?_); rintro e w1 ⟨rfl, hb1'⟩)
   go_roundw
   case rel => exact ⟨i + 1, L, by simp, by omega, hP.out.skip HLO1.out HK.out HX.out hs.out (xAa HVB.out hb1'), hGA.out.then_ (xAa HVB.out hb1')⟩
   case measure => simp [intOf]; omega
  | true =>
  obtain ⟨O, hO⟩ : ∃ O, (if T = true ∧ kx.k.act = (n : Int) then xAr D r.steps kx.k x.1 x.2 else x.1) = O := ⟨_, rfl⟩
  obtain ⟨B, hB⟩ : ∃ B, (if T = true ∧ kx.k.act = (n : Int) then cntB D kx.k x.1 x.2 else false) = B := ⟨_, rfl⟩
  have HOO := qzL hO
  have HBB := qzL hB
  have hBr : Hid (B = false → O.runs = true) := fun h => by
   rw [← hO]
   rw [← hB] at h
   split
   ·next hc => rw [if_pos hc] at h; exact cntB_runs h HRB.out
   ·exact HRB.out
  have hfx : Hid (actP (n : Int) D r.steps T kx.k x = (O, ⟨x.2.days, if kx.k.resume = (n : Int) then false else if kx.k.pause = (n : Int) then true else x.2.pau⟩)) := by
   unfold Hid
   rw [← hO]
   show actO (n : Int) D r.steps T kx.k x.1 x.2 = _
   unfold actO
   rw [if_neg (by rw [HRB.out]; decide)]
  clear hO hB
  go_upto_region 12 with (go_at_call 106; (with_reducible refine HRUN.out.mono ?_); rintro e w1 ⟨rfl, hb1'⟩)
  refine xAi ?_
  intro U hU
  have hbU : Below V.heap.size V U := by rw [hU]; exact hb1'
  have HBU := qzL (xAa HVB.out hbU)
  have HRU := qzL (HRV.out.then_ hbU)
  have GXU := qzL (GXV.out.then_ hbU)
  clear hU hb1' hbU HRUN HRV GXV
  have x2 : U.cell? ⟨bx, 2, none⟩ = some (.int .i64 kx.k.act) := GXU.out.cell 2
  have HGA2 := qzL (hGA.out.then_ HBU.out)
  have HOU := qzL (HO.out.below HBU.out)
  have HCT := qzL (xI6 w0 b c m r2 wl q i kx.k x D U HRU.out HK.out HMX.out hgot)
  go_cut [78] from 59 to 104 (fun v W => v = .bool B ∧ Hid (Rdm w0 W b c m (r2.wo (r2.oc.set i (O, x.2))) wl q) ∧ Hid (Kept U W (fun y => y = q.o)))
  case first =>
   have hno : ∀ (hc : ¬ (T = true ∧ kx.k.act = (n : Int))), B = false ∧ Hid (Rdm w0 U b c m (r2.wo (r2.oc.set i (O, x.2))) wl q) := fun hc => by
    refine ⟨by rw [← HBB.out, if_neg hc], ?_⟩
    have e : O = x.1 := by rw [← HOO.out, if_neg hc]
    rw [e, show r2.wo (r2.oc.set i (x.1, x.2)) = r2 from by
     show ({ r2 with oc := r2.oc.set i x } : Rd) = r2
     rw [show r2.oc.set i x = r2.oc from by
      refine List.ext_getElem? fun n => ?_
      by_cases e : i = n
      ·subst e; rw [List.getElem?_set_self hil, HMX.out]
      ·rw [List.getElem?_set_ne e]]]
    exact HRU
   cases T with
   | false =>
    obtain ⟨rfl, h2⟩ := hno (by simp)
    clear hno
    go_wp2
    go_meet
    case rel => exact ⟨rfl, h2, qzL (Kept.refl _ _)⟩
   | true =>
   by_cases hact : kx.k.act = (n : Int)
   ·have t1 : (kx.k.act == (n : Int)) = true := by simpa using hact
    have eO : xAr D r.steps kx.k x.1 x.2 = O := by rw [← HOO.out, if_pos ⟨rfl, hact⟩]
    have eB : cntB D kx.k x.1 x.2 = B := by rw [← HBB.out, if_pos ⟨rfl, hact⟩]
    have HCT2 := HCT.out
    rw [hs2.out, eO, eB] at HCT2
    have HCT2 := qzL HCT2
    clear hno hact eO eB HCT
    go_wp2_with (go_at_call 107; (with_reducible refine HCT2.out.mono ?_); rintro e w1 ⟨rfl, hr1, hk1⟩)
    all_goals go_meet
    all_goals (case rel => exact ⟨rfl, hr1, hk1⟩)
   ·have t1 : (kx.k.act == (n : Int)) = false := by simpa using hact
    obtain ⟨rfl, h2⟩ := hno (fun h => hact h.2)
    clear hno hact
    go_wp2
    go_meet
    case rel => exact ⟨rfl, h2, qzL (Kept.refl _ _)⟩
  case rest =>
  obtain ⟨rfl, hRC, hKC⟩ := hcut
  have hm0 : Hid (RMid (actP (n : Int) D r.steps T) w0 w wc b c m r1 wl q i u8 L L O x.2 ba bx a kx → False ∨ True) := fun _ => .inr trivial
  clear hm0 x2 HCT
  have eset : Hid (∀ y, r2.wo (r2.oc.set i y) = r1.wo ((mixP (actP (n : Int) D r.steps T) c.cl r1.oc i).set i y)) := fun y => by rw [HO2.out, ← HR2.out, ← HOC.out]
  have hKW : Hid (Kept w wc q.pA) := (hP.out.k.trans (Kept.of_below HBU.out)).trans (hKC.out.weak fun y e => .inr (.inl e))
  have hOC2 : Hid (Own wc w.heap.size 3 1 eI u8 L) := HOU.out.keepP hKC.out (fun y e => by rw [e]; exact HQ.out.o)
  have hGAC : Hid (Blk wc ba 92 (aL a).toArray) := HGA2.out.kept hKC.out (fun e => by have := HQ.out.o; have := lba.out; omega)
  have hGXC : Hid (Blk wc bx 95 (kL kx).toArray) := GXU.out.kept hKC.out (fun e => by have := HQ.out.o; have := lbx.out; omega)
  go_upto_if 78 with (fail)
  go_cut [8] from 59 to 104 (fun v W => ∃ L', Hid (RMid (actP (n : Int) D r.steps T) w0 w W b c m r1 wl q i v L L' O x.2 ba bx a kx))
  case first =>
   cases B with
   | false =>
    go_wp2
    go_meet
    case rel => exact ⟨L, ⟨by rw [← eset.out]; exact hRC.out, hKW.out, hOC2.out, hGAC.out, hGXC.out, .inl ⟨rfl, (by first | exact hBr.out rfl | exact hBr.out trivial)⟩⟩⟩
   | true =>
    have lwc : w.heap.size ≤ wc.heap.size := hKW.out.size
    go_wp2_with (at_builtin; refine xBh _ rfl (.tmp 79) (.tmp 81) _ rfl w.heap.size 3 i3 _ 1 8 Tryz.underlying22 hi3 hz30 hz31 hz32 rfl (by omega) (by omega) eI xAz xCx _ L rfl (hOC2.out.alloc _) hLn.out _ 1 (i : Int) rfl (Blk.new _ _ _) (by simp; omega) ?_; intro v' w2 hOn hbn hgn)
    go_meet
    case rel => exact ⟨L ++ [(i : Int)], ⟨by rw [← eset.out]; exact hRC.out.below HQ.out (Below.trans ((Below.refl _ _).alloc lwc _) hbn) HW.out.hb.size, (hKW.out.trans (Kept.of_below (wa1 wc _))).newer (Kept.grown hgn) (fun y hy => (World.ownsRow.lt hOC2.out y hy).1), hOn, (hGAC.out.alloc _).grownT (hOC2.out.alloc _) (by decide) hgn, (hGXC.out.alloc _).grownT (hOC2.out.alloc _) (by decide) hgn, .inr rfl⟩⟩
  case rest =>
  obtain ⟨L', hM⟩ := hcut
  clear hRC hKC hKW hOC2 hGAC hGXC HOU HGA2 GXU HRU HBU
  obtain ⟨r3, hr3⟩ : ∃ R, r1.wo ((mixP (actP (n : Int) D r.steps T) c.cl r1.oc i).set i (O, x.2)) = R := ⟨_, rfl⟩
  have hR3 := hM.out.rd
  have hxi : (r1.wo ((mixP (actP (n : Int) D r.steps T) c.cl r1.oc i).set i (O, x.2))).oc[i]? = some (O, x.2) := List.getElem?_set_self (by rw [mixP_len HLO1.out (by omega), HLO1.out]; exact hlt)
  have hst3 : Hid (∀ y, (r1.wo ((mixP (actP (n : Int) D r.steps T) c.cl r1.oc i).set i (O, x.2))).wo ((r1.wo ((mixP (actP (n : Int) D r.steps T) c.cl r1.oc i).set i (O, x.2))).oc.set i y) = r1.wo ((mixP (actP (n : Int) D r.steps T) c.cl r1.oc i).set i y)) := fun y => by
   show r1.wo (((mixP _ _ _ _).set i _).set i y) = _
   rw [List.set_set]
  rw [hr3] at hR3 hxi hst3
  have HR3 := qzL hR3
  have HX3 := qzL hxi
  have hi3l : i < r3.oc.length := (qzM hxi).1
  have n3 := hR3.no
  have hixk3 := fun W => xA4 (t := 84) (size := 2) (g := q.k) (cap := q.kc) hi3l (by kernel_rfl) (fun W => by kernel_rfl) W
  have k13 : wc.cell? ⟨b, 13, none⟩ = some (.slice (some ⟨q.k, 0, none⟩) r3.oc.length q.kc) := hR3.g.cell 13
  obtain ⟨_, ⟨z1, e1⟩⟩ := hR3.cnt hxi
  have x9 : wc.cell? ⟨bx, 9, none⟩ = some (.int .i64 kx.k.pause) := hM.out.gx.cell 9
  have x10 : wc.cell? ⟨bx, 10, none⟩ = some (.int .i64 kx.k.resume) := hM.out.gx.cell 10
  have nbk : Hid (bx ≠ q.k) := by unfold Hid; have := HQ.out.k; have := lbx.out; omega
  clear hr3 hR3 hxi
  by_cases hpa : kx.k.pause = (n : Int)
  ·have hre := hkp.out.two hpa
   have t1 : (kx.k.pause == (n : Int)) = true := by simpa using hpa
   have t2 : (kx.k.resume == (n : Int)) = false := by simpa using hre
   have hS := HR3.out.setK (j := 1) (y := ⟨x.2.days, true⟩) (v := .bool true) HX3.out (by omega) rfl
   rw [hst3.out] at hS
   have hN := qzL (hM.out.fin hP.out HLO1.out HK.out HX.out hS (by rw [hfx.out, if_neg hre, if_pos hpa]) ((Kept.refl _ _).setCell rfl) HQ.out.k lba.out)
   have x10' : (wc.setCell ⟨q.k, i * 2 + 1, none⟩ (.bool true)).cell? ⟨bx, 10, none⟩ = some (.int .i64 kx.k.resume) := (hM.out.gx.far (p := ⟨q.k, i * 2 + 1, none⟩) nbk.out _).cell 10
   clear hpa hre hS
   go_wp2
   go_roundw
   case rel => exact ⟨i + 1, L', by simp, by omega, hN.out.1, hN.out.2⟩
   case measure => simp [intOf]; omega
  ·have t1 : (kx.k.pause == (n : Int)) = false := by simpa using hpa
   by_cases hre : kx.k.resume = (n : Int)
   ·have t2 : (kx.k.resume == (n : Int)) = true := by simpa using hre
    have hS := HR3.out.setK (j := 1) (y := ⟨x.2.days, false⟩) (v := .bool false) HX3.out (by omega) rfl
    rw [hst3.out] at hS
    have hN := qzL (hM.out.fin hP.out HLO1.out HK.out HX.out hS (by rw [hfx.out, if_pos hre]) ((Kept.refl _ _).setCell rfl) HQ.out.k lba.out)
    clear hpa hre hS
    go_wp2
    go_roundw
    case rel => exact ⟨i + 1, L', by simp, by omega, hN.out.1, hN.out.2⟩
    case measure => simp [intOf]; omega
   ·have t2 : (kx.k.resume == (n : Int)) = false := by simpa using hre
    have hS := hM.out.rd
    have hN := qzL (hM.out.fin hP.out HLO1.out HK.out HX.out hS (by rw [hfx.out, if_neg hre, if_neg hpa]) (Kept.refl _ _) HQ.out.k lba.out)
    clear hpa hre hS
    go_wp2
    go_roundw
    case rel => exact ⟨i + 1, L', by simp, by omega, hN.out.1, hN.out.2⟩
    case measure => simp [intOf]; omega
theorem xDz {w : World} {ops : Array Oper} {rest : List Oper} {o : Oper} {a : Act} {Q : Exit → Act → World → Prop} (hgd : o.guard = none) (s x : Operand) (ho : o.op = .call { callee := .builtin .append, args := #[s, x], argTypes := #[22, 22] })
  (i : TypeInfo) (hi : Tryz.prog.info? 3 = some i) (hz : i.zero = some (.int .i64 0)) (hsize : i.size = 1) (hby : i.bytes = 8)
  (B : Nat) (v : Value) (xs : List Int) (hs : a.eval s = v) (hown : Own w B 3 1 eI v xs) (hl : xs.length ≤ 1000000) (g c : Nat) (y : Int) (hx : a.eval x = .slice (some ⟨g, 0, none⟩) 1 c) (hblk : Blk w g 3 (eI y).toArray) (hbase : B ≤ w.heap.size)
  (h : ∀ v' w', Own w' B 3 1 eI v' (xs ++ [y]) → w.grownBy w' v.ownBlock → (v'.ownBlock = v.ownBlock ∨ v'.ownBlock = some w.heap.size) → wpList Tryz.prog ops Q rest (a.put o.dst v') w') : wpList Tryz.prog ops Q (o :: rest) a w := by
 refine wpList_append_own_at w hgd s x 22 ho B 3 i _ 1 8 Tryz.underlying22 hi hz hsize hby rfl (by decide) v xs.length (xs.flatMap eI) hs hown ⟨g, 0, none⟩ 1 c (eI y) hx rfl ?_ (by intro u hu; simp only [eI, List.mem_cons, List.not_mem_nil, or_false] at hu; subst hu; rfl) (by unfold maxLen; omega) (by omega) hbase ?_
 ·intro j u hu
  have hadd : (⟨g, 0, none⟩ : Addr).add j = ⟨g, j, none⟩ := by unfold Addr.add; split <;> simp_all
  rw [hadd, hblk.cell j]; simpa using hu
 ·intro v' w' h2 h3 _ h5
  refine h v' w' ?_ h3 h5
  unfold Own
  rw [List.length_append, List.flatMap_append]
  simpa using h2
theorem Own.grownN {α : Type} {w w' : World} {B : Nat} {T : TypeId} {size : Nat} {enc : α → List Value} {v v' : Value} {xs : List α} (h : Own w B T size enc v xs) (hg : w.grownBy w' v'.ownBlock) (hne : ∀ x, v.ownBlock = some x → v'.ownBlock ≠ some x) : Own w' B T size enc v xs :=
 h.kept hg (by
  cases hv : v.ownBlock with
  | none => exact .inl rfl
  | some x => exact .inr fun e => hne x hv e.symm)
abbrev Rq.wf (q : Rq) (f : Int → Value) (n : Nat) : Rq := { q with f := f, n := n }
theorem Rdm.grown {w0 w w' : World} {b : Nat} {c : Con} {m : Cm} {r : Rd} {wl : Int → List Int} {q : Rq} {v : Value} {N : Nat} (h : Rdm w0 w b c m r wl q) (hg : w.grownBy w' v.ownBlock) (hv : ∀ x, v.ownBlock = some x → N ≤ x) (hn : w0.heap.size ≤ N) (hq : b < N ∧ q.bc < N ∧ q.h < N ∧ q.a < N ∧ q.k < N ∧ q.o < N ∧ q.mp < N) (hr : ∀ x, q.row x → v.ownBlock ≠ some x) : Rdm w0 w' b c m r wl q :=
 h.keepP (Kept.grown hg) (fun e => by have := hv _ e; omega) (fun e => by have := hv _ e; omega) (fun e => by have := hv _ e; omega) (fun e => by have := hv _ e; omega) (fun e => by have := hv _ e; omega) (fun e => by have := hv _ e; omega) (fun e => by have := hv _ e; omega) (fun x hx e => hr x hx e) (fun x e => by have := hv _ e; omega)
structure QS (q : Rq) (b N : Nat) : Prop where
 b : b < N
 bc : q.bc < N
 h : q.h < N
 a : q.a < N
 k : q.k < N
 o : q.o < N
 mp : q.mp < N
theorem QB.s {q : Rq} {b N : Nat} (h : QB q b N) : QS q b N := ⟨h.b, h.bc, h.h, h.a, h.k, h.o, h.mp⟩
structure SO (w0 w W : World) (b : Nat) (c : Con) (m : Cm) (r : Rd) (q : Rq) (N M : Nat) (v0 : Value) (nn : Nat) (v : Value) (K : List Int) (r' : Rd) (wl : Int → List Int) (f : Int → Value) (n : Nat) : Prop where
 rd : Rdm w0 W b c m r' wl (q.wf f n)
 o : Own W N 3 1 eI v K
 si : RSt c r r'
 wi : WI c r' wl
 ji : JI c r' (K.drop nn)
 kb : ∀ k ∈ K, -1 ≤ k ∧ k < (c.cl.length : Int)
 kl : K.length + xB9 (r'.marks c) ≤ M
 nl : nn ≤ K.length
 nq : n ≤ q.n + nn
 dk : ∀ x, (q.wf f n).row x → v.ownBlock ≠ some x
 wb : ∀ s, (wl s).length ≤ 1000000
 k : Kept w W (fun x => x = q.o ∨ x = q.mp ∨ v0.ownBlock = some x)
 nw : ∀ x, v.ownBlock = some x → v0.ownBlock = some x ∨ w.heap.size ≤ x
structure SN (w0 w W : World) (b : Nat) (c : Con) (m : Cm) (r : Rd) (q : Rq) (N M : Nat) (v0 : Value) (nn : Nat) (s : Int) (wl : Int → List Int) (f : Int → Value) (n : Nat) (p : Nat) (v vr : Value) (K rest : List Int) (r' : Rd) : Prop where
 rd : Rdm w0 W b c m r' wl (q.wf f n)
 o : Own W N 3 1 eI v K
 orr : Own W N 3 1 eI vr rest
 inn : IN c r r' wl K nn s p rest
 kb : ∀ k ∈ K, -1 ≤ k ∧ k < (c.cl.length : Int)
 kl : K.length + xB9 (r'.marks c) ≤ M
 rl : rest.length ≤ p
 dk : ∀ x, (q.wf f n).row x → v.ownBlock ≠ some x
 dr : ∀ x, (q.wf f n).row x → vr.ownBlock ≠ some x
 dd : ∀ x, v.ownBlock = some x → vr.ownBlock ≠ some x
 k : Kept w W (fun x => x = q.o ∨ x = q.mp ∨ v0.ownBlock = some x)
 nw : ∀ x, v.ownBlock = some x → v0.ownBlock = some x ∨ w.heap.size ≤ x
 nr : ∀ x, vr.ownBlock = some x → w.heap.size ≤ x
section
variable {w0 w W W' W2 : World} {b : Nat} {c : Con} {m : Cm} {r : Rd} {q : Rq} {N M : Nat} {v0 : Value} {nn : Nat} {s : Int} {wl : Int → List Int} {f : Int → Value} {n p : Nat} {v vr v' : Value} {K rest : List Int} {r' : Rd} {i : Int}
theorem SN.then_ (h : SN w0 w W b c m r q N M v0 nn s wl f n p v vr K rest r') (hb : Below W.heap.size W W') : SN w0 w W' b c m r q N M v0 nn s wl f n p v vr K rest r' :=
 ⟨h.rd.then_ hb, h.o.below hb, h.orr.below hb, h.inn, h.kb, h.kl, h.rl, h.dk, h.dr, h.dd, h.k.trans (Kept.of_below hb), h.nw, h.nr⟩
theorem SN.old (h : SN w0 w W b c m r q N M v0 nn s wl f n p v vr K rest r') (hb : Below W.heap.size W W') (hi : (wl s)[p]? = some i) {j : Nat} {k : Cla} {x : Out × Cnt} (hn : i = (j : Int)) (hk : c.cl[j]? = some k) (hx : r'.oc[j]? = some x) (hf : 0 ≤ x.1.from_) : SN w0 w W' b c m r q N M v0 nn s wl f n (p + 1) v vr K rest r' :=
 ⟨h.rd.then_ hb, h.o.below hb, h.orr.below hb, h.inn.old hi hn hk hx hf, h.kb, h.kl, by have := h.rl; omega, h.dk, h.dr, h.dd, h.k.trans (Kept.of_below hb), h.nw, h.nr⟩
theorem SN.skip (h : SN w0 w W b c m r q N M v0 nn s wl f n p v vr K rest r') (hq : QS q b N) (hN : w0.heap.size ≤ N) (hi : (wl s)[p]? = some i) {j : Nat} {k : Cla} (hn : i = (j : Int)) (hk : c.cl[j]? = some k) (hc : xCw r' k = false)
  {o : Obj} (hO : Own W2 N 3 1 eI v' (rest ++ [i])) (hg : (W.alloc o).grownBy W2 vr.ownBlock) (hl : v'.ownBlock = vr.ownBlock ∨ v'.ownBlock = some (W.alloc o).heap.size) : SN w0 w W2 b c m r q N M v0 nn s wl f n (p + 1) v v' K (rest ++ [i]) r' := by
 have hb := wa1 W o
 have hs : (W.alloc o).heap.size = W.heap.size + 1 := by simp
 refine ⟨(h.rd.then_ hb).grown hg (fun x e => (World.ownsRow.lt h.orr x e).1) hN ⟨hq.b, hq.bc, hq.h, hq.a, hq.k, hq.o, hq.mp⟩ h.dr, (h.o.below hb).grownN hg h.dd, hO, h.inn.skip hi hn hk hc, h.kb, h.kl, by rw [List.length_append]; have := h.rl; simp; omega, h.dk, fun x hx e => ?_, fun x hx e => ?_, (h.k.trans (Kept.of_below hb)).newer (Kept.grown hg) h.nr, h.nw, fun x e => ?_⟩
 ·rcases hl with e2 | e2
  ·exact h.dr x hx (e2 ▸ e)
  ·rw [e2] at e; cases e; have := h.rd.qb.r _ hx; omega
 ·rcases hl with e2 | e2
  ·exact h.dd x hx (e2 ▸ e)
  ·rw [e2] at e; cases e; have := (World.ownsRow.lt h.o _ hx).2; omega
 ·rcases hl with e2 | e2
  ·exact h.nr x (e2 ▸ e)
  ·rw [e2] at e; cases e; have := h.k.size; omega
theorem SN.go (h : SN w0 w W b c m r q N M v0 nn s wl f n p v vr K rest r') (hg : CGood c) (hcs : xEy c) (hq : QS q b N) (hN : w0.heap.size ≤ N) (hi : (wl s)[p]? = some i) {j : Nat} {k : Cla} {x : Out × Cnt} (hn : i = (j : Int)) (hk : c.cl[j]? = some k) (hx : r'.oc[j]? = some x) (hw : k.waived = false) (hf : x.1.from_ < 0) (hc : xCw r' k = true)
  {o : Obj} (hR : Rdm w0 W' b c m (r'.wo (r'.oc.set j (xB8 k r.hol r.steps x))) wl (q.wf f n)) (hK : Kept W W' (fun y => y = q.o)) (hO : Own W2 N 3 1 eI v' (K ++ [i])) (hgr : (W'.alloc o).grownBy W2 v.ownBlock) (hl : v'.ownBlock = v.ownBlock ∨ v'.ownBlock = some (W'.alloc o).heap.size) :
  SN w0 w W2 b c m r q N M v0 nn s wl f n (p + 1) v' vr (K ++ [i]) rest (r'.wo (r'.oc.set j (xB8 k r.hol r.steps x))) := by
 have hb := wa1 W' o
 have hs : (W'.alloc o).heap.size = W'.heap.size + 1 := by simp
 have hsz := hK.size
 have ho' : Own W' N 3 1 eI v K := h.o.keepP hK (fun y e => by rw [e]; exact hq.o)
 have hr' : Own W' N 3 1 eI vr rest := h.orr.keepP hK (fun y e => by rw [e]; exact hq.o)
 refine ⟨(hR.then_ hb).grown hgr (fun x e => (World.ownsRow.lt h.o x e).1) hN ⟨hq.b, hq.bc, hq.h, hq.a, hq.k, hq.o, hq.mp⟩ h.dk, hO, (hr'.below hb).grownN hgr (fun y e e2 => h.dd y e2 e), h.inn.go hg hcs hi hn hk hx hw hf hc, fun y hy => ?_, ?_, by have := h.rl; omega, fun y hy e => ?_, h.dr, fun y hy e => ?_, ?_, fun y e => ?_, h.nr⟩
 ·rcases List.mem_append.1 hy with hy | hy
  ·exact h.kb y hy
  ·rw [List.mem_singleton.1 hy, hn]
   have := (qzM hk).1
   omega
 ·have := (h.inn.si.go hg hk hx hw hf hc).2
  have := h.kl
  have e : xB9 ((r'.wo (r'.oc.set j (xB8 k r.hol r.steps x))).marks c) + 1 = xB9 (r'.marks c) := (h.inn.si.go hg hk hx hw hf hc).2
  rw [List.length_append]
  simp only [List.length_singleton]
  omega
 ·rcases hl with e2 | e2
  ·exact h.dk y hy (e2 ▸ e)
  ·rw [e2] at e; cases e; have := h.rd.qb.r _ hy; omega
 ·rcases hl with e2 | e2
  ·exact h.dd y (e2 ▸ hy) e
  ·rw [e2] at hy; cases hy; have := (World.ownsRow.lt h.orr _ e).2; omega
 ·refine ⟨fun B hB hs' => ?_, fun y hy hp => ?_⟩
  ·have h1 := h.k.b B hB hs'
   have h2 := hK.b B (fun y e => by rw [e]; exact hB _ (.inl rfl)) (by have := h.k.size; omega)
   have h3 : Below B W' (W'.alloc o) := (Below.refl _ _).alloc (by have := h.k.size; omega) o
   refine ((h1.trans h2).trans h3).trans ⟨hgr.os, hgr.tape, hgr.output, hgr.size, fun z hz => hgr.block z (by have := h.k.size; omega) (fun e => ?_)⟩
   rcases h.nw z e.symm with e3 | e3
   ·have := hB z (.inr (.inr e3)); omega
   ·omega
  ·have l1 := h.k.size
   refine (hgr.block y (by omega) (fun e => ?_)).trans ((hb.block y (by omega)).trans ((hK.k y (by omega) (fun e => hp (.inl e))).trans (h.k.k y hy hp)))
   rcases h.nw y e.symm with e3 | e3
   ·exact hp (.inr (.inr e3))
   ·omega
 ·rcases hl with e2 | e2
  ·exact h.nw y (e2 ▸ e)
  ·rw [e2] at e; cases e; have := h.k.size; exact .inr (by omega)
theorem SN.fin (h : SN w0 w W b c m r q N M v0 nn s wl f n p v vr K rest r') (hq : QS q b N) (hN : w0.heap.size ≤ N) (hp : (wl s).length ≤ p) (hp2 : p ≤ 1000000) (hwb : ∀ s, (wl s).length ≤ 1000000) (hnq : n ≤ q.n + nn) (hM : MapF W' q.mp (n + 1) (fun y => if y = s then vr else f y)) (hu : Upd W W' q.mp) :
  SO w0 w W' b c m r q N M v0 (nn + 1) v K r' (fun x => if x = s then rest else wl x) (fun y => if y = s then vr else f y) (n + 1) := by
 obtain ⟨h1, h2⟩ := h.inn.fin hp
 obtain ⟨hl, _⟩ := qzM h.inn.kn
 have nmv : ∀ x, v.ownBlock = some x → x ≠ q.mp := fun x e => by have := (World.ownsRow.lt h.o x e).1; have := hq.mp; omega
 have nmr : ∀ x, vr.ownBlock = some x → x ≠ q.mp := fun x e => by have := (World.ownsRow.lt h.orr x e).1; have := hq.mp; omega
 have hrow : ∀ x, (q.wf (fun y => if y = s then vr else f y) (n + 1)).row x → (q.wf f n).row x ∨ vr.ownBlock = some x := fun x ⟨k, hk⟩ => by
  by_cases e : k = s
  ·have : (if k = s then vr else f k).ownBlock = some x := hk
   rw [if_pos e] at this; exact .inr this
  ·have : (if k = s then vr else f k).ownBlock = some x := hk
   rw [if_neg e] at this; exact .inl ⟨k, this⟩
 refine ⟨⟨h.rd.g.upd hu h.rd.bm, h.rd.gc.upd hu h.rd.mc.symm, h.rd.oh.upd hu (by intro k hk; cases hk; exact h.rd.mh.symm), h.rd.oa.upd hu (by intro k hk; cases hk; exact h.rd.ma.symm), h.rd.ok.upd hu (by intro k hk; cases hk; exact h.rd.mk_.symm), h.rd.oo.upd hu (by intro k hk; cases hk; exact h.rd.mo.symm), hM, fun k => ?_, fun k k' x hne hx hx' => ?_, fun hx => ?_, h.rd.hb.trans (hu.b _ h.rd.lb.2.2), h.rd.lb, h.rd.bb, h.rd.cn, h.rd.lo, h.rd.lh, h.rd.la⟩, h.o.upd hu nmv, h.inn.si, h1, h2, h.kb, h.kl, by omega, by omega, fun x hx e => ?_, fun y => ?_, ?_, h.nw⟩
 ·by_cases e : k = s
  ·have e1 : (q.wf (fun y => if y = s then vr else f y) (n + 1)).f k = vr := if_pos e
   show Own W' w0.heap.size 3 1 eI ((q.wf (fun y => if y = s then vr else f y) (n + 1)).f k) (if k = s then rest else wl k)
   rw [e1, if_pos e]
   exact (h.orr.upd hu nmr).more hN
  ·have e1 : (q.wf (fun y => if y = s then vr else f y) (n + 1)).f k = f k := if_neg e
   show Own W' w0.heap.size 3 1 eI ((q.wf (fun y => if y = s then vr else f y) (n + 1)).f k) (if k = s then rest else wl k)
   rw [e1, if_neg e]
   exact (h.rd.ol k).upd hu fun x hx => h.rd.rowM ⟨k, hx⟩
 ·have hx : (if k = s then vr else f k).ownBlock = some x := hx
  have hx' : (if k' = s then vr else f k').ownBlock = some x := hx'
  by_cases e : k = s <;> by_cases e' : k' = s
  ·omega
  ·rw [if_pos e] at hx
   rw [if_neg e'] at hx'
   exact h.dr x ⟨k', hx'⟩ hx
  ·rw [if_neg e] at hx
   rw [if_pos e'] at hx'
   exact h.dr x ⟨k, hx⟩ hx'
  ·rw [if_neg e] at hx
   rw [if_neg e'] at hx'
   exact h.rd.ap k k' x hne hx hx'
 ·rcases hrow _ hx with hx | hx
  ·exact h.rd.ah hx
  ·have h1 : N ≤ q.h := (World.ownsRow.lt h.orr _ hx).1
   have := hq.h
   show False
   omega
 ·rcases hrow x hx with hx | hx
  ·exact h.dk x hx e
  ·exact h.dd x e hx
 ·show (if y = s then rest else wl y).length ≤ _
  split
  ·have := h.rl; omega
  ·exact hwb y
 ·exact h.k.trans (Kept.of_upd hu (.inr (.inl rfl)))
theorem SO.inner (h : SO w0 w W b c m r q N M v0 nn v K r' wl f n) (hn : K[nn]? = some s) : SN w0 w W b c m r q N M v0 nn s wl f n 0 v (.slice none 0 0) K [] r' :=
 ⟨h.rd, h.o, Own.nil _ _ _ _ _, IN.start h.si h.wi h.ji hn, h.kb, h.kl, Nat.le_refl _, h.dk, fun x _ e => (by cases e), fun x _ e => (by cases e), h.k, h.nw, fun x e => (by cases e)⟩
theorem SO.then_ (h : SO w0 w W b c m r q N M v0 nn v K r' wl f n) (hb : Below W.heap.size W W') : SO w0 w W' b c m r q N M v0 nn v K r' wl f n :=
 ⟨h.rd.then_ hb, h.o.below hb, h.si, h.wi, h.ji, h.kb, h.kl, h.nl, h.nq, h.dk, h.wb, h.k.trans (Kept.of_below hb), h.nw⟩
end
end Go.Proofs.YtffceokjeonpcaaGreatDoor
