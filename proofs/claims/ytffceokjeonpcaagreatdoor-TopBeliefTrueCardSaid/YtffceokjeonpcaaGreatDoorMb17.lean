/- Contracts of functions and plain laws, joined: Uk, Ul, Um, Uo. -/
import Derived.Test.YtffceokjeonpcaaGreatDoorMb16
import Derived.Test.YtffceokjeonpcaaGreatDoorMb4
import Derived.Test.YtffceokjeonpcaaGreatDoorMb1
set_option maxHeartbeats 12800000
set_option maxRecDepth 100000
namespace Go.Proofs.YtffceokjeonpcaaGreatDoor
open Go.RowKit Go.Sort Go.Maps
structure StRes (w0 w w' : World) (b : Nat) (c : Con) (m : Cm) (r : Rd) (q : Rq) (v0 : Value) (len M : Nat) : Prop where
 x : ∃ wl f n, Rdm w0 w' b c m (r.startR c) wl (q.wf f n) ∧ WI c (r.startR c) wl ∧ n ≤ q.n + M ∧ ∀ s, (wl s).length ≤ 1000000
 k : Kept w w' (fun x => x = q.o ∨ x = q.mp ∨ v0.ownBlock = some x)
 f : FInv c (r.startR c)
theorem xFw (w0 : World) (b : Nat) (c : Con) (m : Cm) (r : Rd) (wl : Int → List Int) (q : Rq) (v0 : Value) (K0 : List Int) (N M : Nat) (w : World) (hW : Rdm w0 w b c m r wl q) (hO : Own w N 3 1 eI v0 K0) (hQ : QS q b N) (hdk : ∀ x, q.row x → v0.ownBlock ≠ some x) (hN : w0.heap.size ≤ N) (hNw : N ≤ w.heap.size) (hok : c.ok = true) (hcs : xEy c) (hci : CIs c) (hI : RInv c r) (hF : FInv c r) (hWI : WI c r wl) (hJ : JI c r K0) (hkb : ∀ k ∈ K0, -1 ≤ k ∧ k < (c.cl.length : Int)) (hM : K0.length + xB9 (r.marks c) ≤ M) (hM2 : M ≤ 1000000) (hqn : q.n ≤ 1000000000000) (hwb : ∀ s, (wl s).length ≤ 1000000) :
  Calls Tryz.prog 84 #[.pointer (some ⟨b, 0, none⟩), v0] w fun e w' => e = .returned (.tuple #[]) ∧ StRes w0 w w' b c m r q v0 K0.length M := by
 have HOK := qzL hok
 have HCS := qzL hcs
 have HCI := qzL hci
 have HI := qzL hI
 have HQ := qzL hQ
 have nk := hW.cn.nk
 have HLO := qzL hW.lo
 have HLH := qzL hW.lh
 obtain ⟨i3, hi3, hz30, hz31, hz32⟩ := info_parts (show (Tryz.prog.info? 3).map (fun i => (i.zero, i.size, i.bytes)) = some (some (.int .i64 0), 1, 8) by kernel_rfl)
 have h0 : Hid (SO w0 w w b c m r q N M v0 0 v0 K0 r wl q.f q.n) := ⟨hW, hO, RSt.refl hI hF, hWI, by rw [List.drop_zero]; exact hJ, hkb, hM, Nat.zero_le _, Nat.le_refl _, hdk, hwb, Kept.refl _ _, fun x e => .inl e⟩
 clear hW hO hQ hdk hok hcs hci hI hF hWI hJ hkb hM hwb
 go_enter Tryz.func84, Tryz.ntmps84
 go_upto_region 1 with (fail)
 go_loopw [1, 4] (fun v y WR => ∃ (nn : Nat) (K : List Int) (r' : Rd) (wl' : Int → List Int) (f' : Int → Value) (n' : Nat), y = .int .i64 nn ∧ Hid (SO w0 w WR b c m r q N M v0 nn v K r' wl' f' n')) (fun _ y _ => 3000000 - (intOf y).toNat)
 case atStart => exact ⟨0, K0, r, wl, q.f, q.n, rfl, h0⟩
 case round =>
  clear h0
  obtain ⟨nn, K, r', wl', f', n', rfl, hS⟩ := hrel
  obtain ⟨A1, c1, e1, hc1, hm1, hseg1, _, _, _⟩ := hS.out.o.segz xAz
  have hKl : K.length ≤ 1000000 := by have := hS.out.kl; omega
  have hnl := hS.out.nl
  subst e1
  by_cases hlt : nn < K.length
  case neg =>
   have tl : decide ((nn : Int) < (K.length : Int)) = false := qzN (by omega)
   go_wp2
   go_end0
   have hS := hS.out
   have hd : K.drop nn = [] := List.drop_of_length_le (by omega)
   have hsh := hS.ji.shut hd
   have e := hS.si.fin (xCe HOK.out) HI.out hsh
   have hrd := hS.rd
   have hwi := hS.wi
   have hff := hS.si.f
   rw [e] at hrd hwi hff
   exact ⟨rfl, ⟨wl', f', n', hrd, hwi, by have := hS.nq; have := hS.kl; omega, hS.wb⟩, hS.k, hff⟩
  have tl : decide ((nn : Int) < (K.length : Int)) = true := qzO (by omega)
  obtain ⟨s, hs⟩ : ∃ s, K[nn]? = some s := ⟨_, qzJ hlt⟩
  have hsb := hS.out.kb s (qzK hs)
  have hsI : Hid (I64 s) := by unfold Hid; omega
  obtain ⟨b1, o1, eA1, hb1, hcc1⟩ := xAv hseg1 hs
  have hix1 := fun W => xAp (t := 22) (size := 1) (cap := c1) (len := K.length) eA1 hlt (by kernel_rfl) (fun W => by kernel_rfl) W
  have x1 : wr.cell? ⟨b1, o1 + nn, none⟩ = some (.int .i64 s) := by have := hcc1 0 _ rfl; simpa using this
  have k12 : wr.cell? ⟨b, 12, none⟩ = some (.map (some q.mp)) := hS.out.rd.g.cell 12
  obtain ⟨A2, c2, e2, hc2, hm2, hseg2, _, _, _⟩ := (hS.out.rd.ol s).segz xAz
  have e2' : f' s = .slice A2 (wl' s).length c2 := e2
  have hlk : ∀ d os, (Instr.lookup 83 (.map (some q.mp)) (.int .i64 s) false).run Tryz.prog (grow (redrawn wr d) os) = .ok (.slice A2 (wl' s).length c2) (grow (redrawn wr d) os) := fun d os => by
   have h1 : MapF (grow (redrawn wr d) os) q.mp n' f' := hS.out.rd.mp.keep ((below_regrown wr d os).block _ hS.out.rd.mp.lt)
   rw [← e2']
   exact h1.look hsI.out
  have hwl := hS.out.wb s
  have hSI := qzL (hS.out.inner hs)
  have HS0 := qzL hs
  have HSEG2 := qzL hseg2
  have HE2 := qzL e2'
  clear hs hcc1 hseg1 hseg2 e2 e2' eA1 hb1
  go_upto_region 4 with (fail)
  have rg0 := cR k12
  have rg1 := cR x1
  refine xAg [0, 1, 2, 3, 4, 5, 6, 7, 8, 9, 10] [] (by kernel_rfl) (by kernel_rfl) pO ?_
  simp only [xAn, qzA, qzB, qzC, qzD, qzE, qzF]
  repeat (go_big_quiet_step (skip))
  refine wpQuiet_nil ?_
  intro Z hw2
  have hbZ := xAj hw2
  clear hw2 rg0 rg1
  have hSN := qzL (hSI.out.then_ hbZ)
  have hSEG := qzL ((HSEG2.out.below hbZ).more hbZ.size)
  have lZ := hbZ.size
  clear k12 x1 hlk hix1 hbZ HSEG2 hSI
  have hS2 : Hid (SO w0 w wr b c m r q N M v0 nn (.slice A1 K.length c1) K r' wl' f' n') := hS
  clear hS
  go_upto_region 5 with (fail)
  go_loopw [1, 5, 25] (fun v vr y WR => ∃ (p : Nat) (K' rest : List Int) (r2 : Rd), y = .int .i64 p ∧ p ≤ (wl' s).length ∧ Hid (SN w0 w WR b c m r q N M v0 nn s wl' f' n' p v vr K' rest r2)) (fun _ _ y _ => 3000000 - (intOf y).toNat)
  case atStart => exact ⟨0, K, [], r', rfl, by omega, hSN⟩
  case round =>
   clear hSN
   obtain ⟨p, K', rest, r2, rfl, hp, hN1⟩ := hrel
   have hKl' : K'.length ≤ 1000000 := by have := hN1.out.kl; omega
   have hpl : p ≤ 1000000 := by omega
   by_cases hlp : p < (wl' s).length
   case neg =>
    have tl2 : decide ((p : Int) < ((wl' s).length : Int)) = false := qzN (by omega)
    obtain ⟨A3, c3, e3, hc3, hm3, hseg3, _, _, _⟩ := hN1.out.o.segz xAz
    subst e3
    have hks := hN1.out.inn.kn
    have hkl3 := (qzM hks).1
    obtain ⟨b1, o1, eA1, hb1, hcc1⟩ := xAv hseg3 hks
    have hix1 := fun W => xAp (t := 22) (size := 1) (cap := c3) (len := K'.length) eA1 hkl3 (by kernel_rfl) (fun W => by kernel_rfl) W
    have HE1 : Hid (∀ X, Below wr.heap.size wr X → X.cell? ⟨b1, o1 + nn, none⟩ = some (.int .i64 s)) := fun X hb => by
     have h1 : wr.cell? ⟨b1, o1 + nn, none⟩ = some (.int .i64 s) := by have := hcc1 0 _ rfl; simpa using this
     exact (hb.cell (p := ⟨b1, o1 + nn, none⟩) hb1).trans h1
    have k12 : wr.cell? ⟨b, 12, none⟩ = some (.map (some q.mp)) := hN1.out.rd.g.cell 12
    have x1 := HE1.out _ (Below.refl _ _)
    clear hseg3 hcc1 eA1 HE1
    go_upto_region 16 with (fail)
    have rg0 := cR k12
    have rg1 := cR x1
    refine xAg [0, 1, 2, 3, 4, 5, 6, 7, 8] [9] (by kernel_rfl) (by kernel_rfl) pO ?_
    simp only [xAn, qzA, qzB, qzC, qzD, qzE, qzF]
    repeat (go_big_quiet_step (skip))
    refine wpQuiet_nil ?_
    intro Y hw2
    have hbY := xAj hw2
    clear hw2 rg0 rg1
    have hY := qzL (hN1.out.then_ hbY)
    have hMF := hY.out.rd.mp
    have hnn : n' ≤ q.n + nn := hS2.out.nq
    clear k12 x1 hbY hix1
    go_wp2_with (refine xDx rfl (.tmp 98) (.tmp 102) (.tmp 103) rfl q.mp n' f' s _ rfl rfl rfl hMF hsI.out (by unfold maxLen; omega) ?_; intro w9 hM9 hU9)
    go_roundw
    case rel => exact ⟨nn + 1, K', r2, _, _, n' + 1, by simp, hY.out.fin HQ.out hN (by omega) hpl hS2.out.wb hnn hM9 hU9⟩
    case measure => simp [intOf]; omega
   have tl2 : decide ((p : Int) < ((wl' s).length : Int)) = true := qzO (by omega)
   obtain ⟨i, hi⟩ : ∃ i, (wl' s)[p]? = some i := ⟨_, qzJ hlp⟩
   obtain ⟨n, k, x, hin, hk, hx, hw, _⟩ := hN1.out.inn.at_ hi
   subst hin
   have hol : Own wr w0.heap.size 3 1 eI (.slice A2 (wl' s).length c2) (wl' s) := by
    have h := hN1.out.rd.ol s
    rw [show (q.wf f' n').f s = .slice A2 (wl' s).length c2 from HE2.out] at h
    exact h
   obtain ⟨_, _, hsg, _, _⟩ := hol.segS xAz
   obtain ⟨b2, o2, eA2, hb2, hcc2⟩ := xAv hsg hi
   have hix2 := fun W => xAp (t := 22) (size := 1) (cap := c2) (len := (wl' s).length) eA2 hlp (by kernel_rfl) (fun W => by kernel_rfl) W
   have x2 : wr.cell? ⟨b2, o2 + p, none⟩ = some (.int .i64 (n : Int)) := by have := hcc2 0 _ rfl; simpa using this
   have hncl : n < c.cl.length := (qzM hk).1
   have hnoc : n < r2.oc.length := (qzM hx).1
   have no2 := hN1.out.rd.no
   have HRD := qzL (readyR_any w0 b c m r2 wl' (q.wf f' n') n k wr hN1.out.rd hk HCS.out HCI.out)
   have hrl := hN1.out.rl
   have lwr : N ≤ wr.heap.size := by have := hN1.out.k.size; omega
   have hs2 : Hid (r2.steps = r.steps ∧ r2.hol = r.hol) := by unfold Hid; rw [hN1.out.inn.si.s]; exact ⟨rfl, rfl⟩
   have HI2 := qzL hi
   have HK := qzL hk
   have HX := qzL hx
   have HWV := qzL hw
   have hix := fun W => xA4 (t := 52) (size := 5) (g := q.o) (cap := q.oc) hnoc (by kernel_rfl) (fun W => by kernel_rfl) W
   clear hi hk hx hw hol hsg hcc2 eA2 hb2
   obtain ⟨rb, hrb⟩ : ∃ z, xCw r2 k = z := ⟨_, rfl⟩
   rw [hrb] at HRD
   have HRB := qzL hrb
   clear hrb
   cases rb with
   | false =>
    have hr6 : rest.length ≤ 1000000 := by omega
    go_wp2_with (first | (go_at_call 105; (with_reducible refine HRD.out.mono ?_); rintro e w1 ⟨rfl, hb1'⟩; have HN2 := qzL (hN1.out.then_ hb1'); have lw1 : N ≤ w1.heap.size := (by have := hb1'.size; omega)) | (at_builtin; refine xDz rfl (.tmp 33) (.tmp 35) rfl i3 hi3 hz30 hz31 hz32 N _ rest rfl (HN2.out.orr.alloc _) hr6 _ 1 (n : Int) rfl (Blk.new _ _ _) (by simp; omega) ?_; intro v' w2 hO2 hg2 hl2))
    go_roundw
    case rel => exact ⟨p + 1, K', _, r2, by simp, by omega, HN2.out.skip HQ.out hN HI2.out rfl HK.out HRB.out hO2 hg2 hl2⟩
    case measure => simp [intOf]; omega
   | true =>
   go_upto_region 9 with (go_at_call 105; (with_reducible refine HRD.out.mono ?_); rintro e w1 ⟨rfl, hb1'⟩)
   refine xAi ?_
   intro V hV
   have hbV : Below wr.heap.size wr V := by rw [hV]; exact hb1'
   have HBV := qzL hbV
   have HN2 := qzL (hN1.out.then_ hbV)
   clear hV hb1' hbV HRD x2 hix2
   have k14 : V.cell? ⟨b, 14, none⟩ = some (.slice (some ⟨q.o, 0, none⟩) r2.oc.length q.oc) := HN2.out.rd.g.cell 14
   obtain ⟨⟨y0, g0⟩, ⟨y1, g1⟩, ⟨y2, g2⟩, ⟨y3, g3⟩, ⟨y4, g4⟩⟩ := HN2.out.rd.out HX.out
   by_cases hf : 0 ≤ x.1.from_
   ·have tf := qzO hf
    go_wp2
    go_roundw
    case rel => exact ⟨p + 1, K', rest, r2, by simp, by omega, hN1.out.old HBV.out HI2.out rfl HK.out HX.out hf⟩
    case measure => simp [intOf]; omega
   have tf := qzN hf
   have HF := qzL (show x.1.from_ < 0 by omega)
   go_upto_region 10 with (fail)
   have k7 : V.cell? ⟨b, 7, none⟩ = some (.int .i64 r2.steps) := HN2.out.rd.g.cell 7
   clear y0 y1 y2 y3 y4 g0 g1 g2 g3 g4
   have rg0 := cR k14
   have rg1 := cR k7
   refine xBm [9] [0, 1, 2, 3, 4, 5, 6, 7, 8, 10, 11, 12, 13] [14, 15, 16, 17, 18, 19] (by kernel_rfl) (by kernel_rfl) pO ?_
   simp only [xAn, qzA, qzB, qzC, qzD, qzE, qzF]
   repeat (go_big_quiet_step (skip))
   refine wpQuiet_nil ?_
   intro X hw2
   have hbX := xAj hw2
   clear hw2 rg0 rg1
   have HRX := qzL (HN2.out.rd.then_ hbX)
   have HKX : Hid (Kept V X (fun y => y = q.o)) := Kept.of_below hbX
   clear k14 k7 hbX
   obtain ⟨⟨y0, g0⟩, ⟨y1, g1⟩, _⟩ := HRX.out.out HX.out
   go_upto_region 11 with (fail)
   refine xAi ?_
   intro Y hY
   have HRY : Hid (Rdm w0 Y b c m (r2.wo (r2.oc.set n ({ x.1 with st := 1, from_ := r2.steps }, x.2))) wl' (q.wf f' n')) := by
    rw [hY]
    have h1 := HRX.out.setO (j := 0) (y := { x.1 with st := 1 }) (v := .int .i64 1) HX.out (by omega) rfl
    have h2 := h1.setO (i := n) (j := 1) (x := ({ x.1 with st := 1 }, x.2)) (y := { x.1 with st := 1, from_ := r2.steps }) (v := .int .i64 r2.steps) (List.getElem?_set_self hnoc) (by omega) rfl
    have e9 : ∀ (a d : Out × Cnt), (r2.oc.set n a).set n d = r2.oc.set n d := fun a d => List.set_set _
    unfold Rd.wo at h2 ⊢
    simp only [e9] at h2
    refine qzL ?_
    simpa using h2
   have HKY : Hid (Kept V Y (fun y => y = q.o)) := by rw [hY]; exact (HKX.out.setCell rfl).setCell rfl
   clear hY y0 y1 g0 g1 HRX HKX
   obtain ⟨kx, hkx, hkk⟩ := xC3 HRY.out.cn.e HK.out
   subst hkk
   obtain ⟨b3, o3, eA3, hb3, hcc3⟩ := xAv (HRY.out.cn.k.below HRY.out.hb) hkx
   have hix3 := fun W => xAp (t := 25) (size := 16) (cap := m.kc) eA3 hncl (by kernel_rfl) (fun W => by kernel_rfl) W
   have hrg : Y.rangeAt b3 (o3 + n * 16) (kL kx) := fun j v hv => hcc3 j v hv
   have k4 : Y.cell? ⟨b, 4, none⟩ = some (.slice m.k c.cl.length m.kc) := HRY.out.g.cell 4
   have hkv := qzL (xDa HOK.out (qzK HK.out)).r
   clear hkx hcc3 eA3 hb3
   go_upto_region 12 with ((refine xAm 95 el16 _ _ _ rfl rfl rfl rfl rfl rfl rfl rfl rfl b3 _ rfl (kL kx) rfl hrg (by simp [Value.oneCell']) (by decide) (by simp) (by simp) ?_; simp only [Act.put, qzG, qzH, qzI]))
   refine xAi ?_
   intro U hU
   have gx : Blk U Y.heap.size 95 (kL kx).toArray := by rw [hU]; exact Blk.new _ _ _
   have hbU : Below Y.heap.size Y U := by rw [hU]; exact wa1 _ _
   obtain ⟨bx, ex⟩ : ∃ b, Y.heap.size = b := ⟨_, rfl⟩
   rw [ex] at gx ⊢
   have HRU := qzL (HRY.out.then_ hbU)
   have HKU : Hid (Kept V U (fun y => y = q.o)) := HKY.out.trans (Kept.of_below hbU)
   clear hU ex hbU hrg hix3 k4 HRY HKY
   have x0 : U.cell? ⟨bx, 0, none⟩ = some (.int .i64 kx.k.kind) := gx.cell 0
   have x1 : U.cell? ⟨bx, 1, none⟩ = some (.int .i64 kx.k.role) := gx.cell 1
   have hxu : (r2.wo (r2.oc.set n ({ x.1 with st := 1, from_ := r2.steps }, x.2))).oc[n]? = some ({ x.1 with st := 1, from_ := r2.steps }, x.2) := List.getElem?_set_self hnoc
   have HXU := qzL hxu
   clear gx hxu
   go_upto_if 74 with (fail)
   go_cut [] from 26 to 94 (fun W => Hid (Rdm w0 W b c m (r2.wo (r2.oc.set n (xB8 kx.k r.hol r.steps x))) wl' (q.wf f' n')) ∧ Hid (Kept V W (fun y => y = q.o)))
   case first =>
    by_cases h4 : kx.k.kind = 4
    ·have t4 : (kx.k.kind != 4) = false := by simp [h4]
     have hr9 := HRU.out
     rw [show ({ x.1 with st := 1, from_ := r2.steps }, x.2) = xB8 kx.k r.hol r.steps x from by unfold xB8; rw [if_pos h4, hs2.out.1]] at hr9
     have HR9 := qzL hr9
     clear h4 hr9
     go_wp2
     go_meet
     case rel => exact ⟨HR9, HKU⟩
    ·have t4 : (kx.k.kind != 4) = true := by simpa using h4
     obtain ⟨hr0, hr1⟩ := hkv.out h4
     obtain ⟨rn, hrn⟩ : ∃ z : Nat, kx.k.role = (z : Int) := ⟨kx.k.role.toNat, by omega⟩
     have hrl2 : rn < r2.hol.length := by rw [hs2.out.2, HLH.out]; omega
     obtain ⟨dv, hdv⟩ : ∃ z, r2.hol[rn]? = some z := ⟨_, qzJ hrl2⟩
     have nh2 : r2.hol.length ≤ 1000000 := HRU.out.nh
     have hlv : Hid (({ x.1 with st := 1, from_ := r2.steps, brr := dv }, x.2) = xB8 kx.k r.hol r.steps x) := by
      unfold Hid xB8 xCa
      rw [if_neg h4, hs2.out.1, hrn, Int.toNat_natCast, ← hs2.out.2, List.getD_eq_getElem?_getD, hdv]
      rfl
     obtain ⟨y0, _⟩ := HRU.out.holAt (n := rn) hdv
     have k9 : U.cell? ⟨b, 9, none⟩ = some (.slice (some ⟨q.h, 0, none⟩) r2.hol.length q.hc) := HRU.out.g.cell 9
     have k14 : U.cell? ⟨b, 14, none⟩ = some (.slice (some ⟨q.o, 0, none⟩) r2.oc.length q.oc) := by have := HRU.out.g.cell 14; simpa using this
     have hixh := fun W => xA4 (t := 22) (size := 1) (g := q.h) (cap := q.hc) hrl2 (by kernel_rfl) (fun W => by kernel_rfl) W
     simp only [Nat.mul_one] at hixh
     rw [hrn] at x1
     clear h4 hr0 hr1 hrn hdv x0
     go_upto_region 13 with (fail)
     have rg0 := cR k14
     have rg1 := cR k9
     have rg2 := cR x1
     have rg3 := cR y0
     refine xAg [0, 1, 2, 3, 4, 5, 6, 7, 8, 9, 10, 11, 12] [13, 14, 15] (by kernel_rfl) (by kernel_rfl) pO ?_
     simp only [xAn, qzA, qzB, qzC, qzD, qzE, qzF]
     repeat (go_big_quiet_step (skip))
     refine wpQuiet_nil ?_
     intro X hw2
     have hbX := xAj hw2
     clear hw2 rg0 rg1 rg2 rg3
     have HRX := qzL (HRU.out.then_ hbX)
     have HKX : Hid (Kept V X (fun y => y = q.o)) := HKU.out.trans (Kept.of_below hbX)
     clear k14 k9 x1 y0 hbX
     obtain ⟨_, _, _, _, z4, g4⟩ := HRX.out.out HXU.out
     have h3 := HRX.out.setO (j := 4) (y := { x.1 with st := 1, from_ := r2.steps, brr := dv }) (v := .int .i64 dv) HXU.out (by omega) rfl
     have e9 : ∀ (a d : Out × Cnt), (r2.oc.set n a).set n d = r2.oc.set n d := fun a d => List.set_set _
     unfold Rd.wo at h3
     simp only [e9] at h3
     rw [hlv.out] at h3
     have HR9 := qzL h3
     have HK9 := qzL (HKX.out.setCell (g := q.o) (o := n * 5 + 4) (v := .int .i64 dv) rfl)
     clear h3 e9
     go_wp2
     go_meet
     case rel => exact ⟨HR9, HK9⟩
   case rest =>
   obtain ⟨HR9, HK9⟩ := hcut
   have hOk : Hid (Own wc N 3 1 eI u1 K') := HN2.out.o.keepP HK9.out (fun y e => by rw [e]; exact HQ.out.o)
   have lwc : N ≤ wc.heap.size := by have h1 := HK9.out.size; have h2 := HBV.out.size; omega
   clear x0 x1 HRU HKU HXU hkv
   go_wp2_with (at_builtin; refine xDz rfl (.tmp 90) (.tmp 92) rfl i3 hi3 hz30 hz31 hz32 N _ K' rfl (hOk.out.alloc _) hKl' _ 1 (n : Int) rfl (Blk.new _ _ _) (by simp; omega) ?_; intro v' w2 hO2 hg2 hl2)
   go_roundw
   case rel => exact ⟨p + 1, _, rest, _, by simp, by omega, HN2.out.go (xCe HOK.out) HCS.out HQ.out hN HI2.out rfl HK.out HX.out HWV.out HF.out HRB.out HR9.out HK9.out hO2 hg2 hl2⟩
   case measure => simp [intOf]; omega
def GInv (r : Rd) : Prop := ∀ (i : Nat) x, r.oc[i]? = some x → 0 ≤ x.1.got ∧ x.1.got ≤ 9
theorem GInv.zip {c : Con} {r r' : Rd} {f : Cla → Out × Cnt → Out × Cnt} (h : GInv r) (hi : RInv c r) (ho : r'.oc = List.zipWith f c.cl r.oc) (hf : ∀ k p, k ∈ c.cl → 0 ≤ p.1.got ∧ p.1.got ≤ 9 → (p.1.runs = true → k.kind = 1 → p.1.got < k.need) → 0 ≤ (f k p).1.got ∧ (f k p).1.got ≤ 9) : GInv r' := by
 intro j x hx
 rw [ho, List.getElem?_zipWith] at hx
 cases hk : c.cl[j]? with
 | none => rw [hk] at hx; simp at hx
 | some k =>
  cases hp : r.oc[j]? with
  | none => rw [hk, hp] at hx; simp at hx
  | some p =>
   rw [hk, hp] at hx
   cases hx
   exact hf k p (qzK hk) (h j p hp) (hi.inv j k p hk hp).2.1
theorem GInv.startR {c : Con} {r : Rd} (h : GInv r) : GInv (r.startR c) := by
 intro j x hx
 have hx : (List.zipWith (xBe r.steps) (xAs c r.hol (r.marks c)) r.oc)[j]? = some x := hx
 rw [List.getElem?_zipWith] at hx
 cases hm : (xAs c r.hol (r.marks c))[j]? with
 | none => rw [hm] at hx; simp at hx
 | some m =>
  cases hp : r.oc[j]? with
  | none => rw [hm, hp] at hx; simp at hx
  | some p =>
   rw [hm, hp] at hx
   cases hx
   have := h j p hp
   unfold xBe
   split <;> exact this
theorem GInv.tickW {c : Con} {r : Rd} (h : GInv r) (hi : RInv c r) : GInv (r.tickW c) := h.zip hi (f := xBr (decide (r.day ∈ c.off)) r.steps) rfl fun k p _ hp _ => by
 show 0 ≤ (xB7 _ _ k p.1 p.2).1.got ∧ (xB7 _ _ k p.1 p.2).1.got ≤ 9
 unfold xB7
 repeat' split
 all_goals exact hp
theorem GInv.actA {c : Con} {r : Rd} {n : Nat} {a : Atc} (h : GInv r) (hi : RInv c r) (hok : c.ok = true) : GInv (r.actA c n a) := h.zip hi (f := actP (n : Int) (xA9 a r.hol) r.steps (a.takes r n)) rfl fun k p hk hp hg => by
 have hn := (xDa hok hk).n1
 show 0 ≤ (actO _ _ _ _ k p.1 p.2).1.got ∧ (actO _ _ _ _ k p.1 p.2).1.got ≤ 9
 unfold actO
 split
 ·exact hp
 ·next hr =>
  have hr : p.1.runs = true := by cases h : p.1.runs with | true => rfl | false => exact absurd h hr
  show 0 ≤ (if a.takes r n = true ∧ k.act = (n : Int) then xAr (xA9 a r.hol) r.steps k p.1 p.2 else p.1).got ∧ (if a.takes r n = true ∧ k.act = (n : Int) then xAr (xA9 a r.hol) r.steps k p.1 p.2 else p.1).got ≤ 9
  split
  ·unfold xAr
   split
   ·exact hp
   ·split
    ·next h1 =>
     have := hg hr h1
     split
     ·show 0 ≤ p.1.got + 1 ∧ p.1.got + 1 ≤ 9
      omega
     ·show 0 ≤ p.1.got + 1 ∧ p.1.got + 1 ≤ 9
      omega
    ·split
     ·split <;> exact hp
     ·exact hp
  ·exact hp
theorem GInv.actW {c : Con} {r : Rd} {n : Nat} {a : Atc} (h : GInv r) (hi : RInv c r) (hok : c.ok = true) : GInv (r.actW c n a) := by
 have h1 := h.actA (n := n) (a := a) hi hok
 unfold Rd.actW
 split
 ·exact h1
 ·intro j x hx
  by_cases h3 : a.kind = 3
  ·rw [if_pos h3] at hx
   obtain ⟨k, p, _, hp, rfl⟩ := novW_oc hx
   have := h1 j p hp
   unfold xBa
   split <;> exact this
  ·rw [if_neg h3] at hx
   exact h1 j x hx
structure RG (c : Con) (r : Rd) (wl : Int → List Int) : Prop where
 i : RInv c r
 f : FInv c r
 w : WI c r wl
 s : Shut c (r.marks c)
 g : GInv r
 b : ∀ s, (wl s).length ≤ 1000000
abbrev Rq.pS (q : Rq) (b x : Nat) : Prop := x = b ∨ x = q.a ∨ x = q.o ∨ x = q.k ∨ x = q.h ∨ x = q.mp
theorem ok_cl {c : Con} (h : c.ok = true) : c.cl.length ≤ 400 ∧ c.ac.length ≤ 60 ∧ c.days ≤ 2000 := by
 unfold Con.ok Con.lim at h
 simp only [Bool.and_eq_true, decide_eq_true_eq] at h
 exact ⟨h.1.1.2, h.1.1.1.2, h.1.1.1.1.1.1.2⟩
structure StepR (w0 w w' : World) (b : Nat) (c : Con) (m : Cm) (r' : Rd) (q : Rq) : Prop where
 x : ∃ wl f n, Rdm w0 w' b c m r' wl (q.wf f n) ∧ RG c r' wl ∧ n ≤ q.n + 1000
 k : Kept w w' (q.pS b)
theorem StepR.mk_ {w0 w w1 w2 w' : World} {b : Nat} {c : Con} {m : Cm} {r1 r' : Rd} {q : Rq} {v0 : Value} {len M : Nat} {p : Nat → Prop} (hok : c.ok = true) (h : StRes w0 w2 w' b c m r1 q v0 len M) (hr : r1.startR c = r') (hi : RInv c r1) (hg : GInv r1) (hM : M ≤ 1000) (hk : Kept w w1 (q.pS b)) (hk1 : Kept w1 w2 p) (hp : ∀ x, p x → q.pS b x) (hv : ∀ x, v0.ownBlock = some x → w1.heap.size ≤ x) : StepR w0 w w' b c m r' q := by
 obtain ⟨wl, f, n, h1, h2, h3, h4⟩ := h.x
 have hS := xCp (xCe hok) hi
 have hI := (xBn hi (xCe hok).k (xCe hok).n).2
 have hf := h.f
 have hgs := hg.startR (c := c)
 rw [hr] at h1 h2 hS hI hf hgs
 refine ⟨⟨wl, f, n, h1, ⟨hI, hf, h2, hS, hgs, h4⟩, by omega⟩, ?_⟩
 have ka := (hk.trans (hk1.weak hp))
 refine ⟨fun B hB hs => (ka.b B hB hs).trans (h.k.b B (fun x hx => ?_) (by have := ka.size; omega)), fun x hx hpx => (h.k.k x (by have := ka.size; omega) (fun e => ?_)).trans (ka.k x hx hpx)⟩
 ·rcases hx with e | e | e
  ·exact hB x (.inr (.inr (.inl e)))
  ·exact hB x (.inr (.inr (.inr (.inr (.inr e)))))
  ·have := hv x e; have := hk.size; omega
 ·rcases e with e | e | e
  ·exact hpx (.inr (.inr (.inl e)))
  ·exact hpx (.inr (.inr (.inr (.inr (.inr e)))))
  ·have := hv x e; have := hk.size; omega
theorem stepR_any (w0 : World) (b : Nat) (c : Con) (m : Cm) (r : Rd) (wl : Int → List Int) (q : Rq) (x : Int) (w : World) (hW : Rdm w0 w b c m r wl q) (hok : c.ok = true) (hcs : xEy c) (hci : CIs c) (hG : RG c r wl) (hst : r.steps ≤ 1000000) (hday : 0 ≤ r.day ∧ r.day ≤ 1000000) (hx : -1 ≤ x ∧ x < (c.ac.length : Int)) (hqn : q.n ≤ 1000000000000) :
  Calls Tryz.prog 60 #[.pointer (some ⟨b, 0, none⟩), .int .i64 x] w fun e w' => e = .returned (.tuple #[]) ∧ StepR w0 w w' b c m (r.step c x) q := by
 have HW := qzL hW
 have HOK := qzL hok
 have HCS := qzL hcs
 have HCI := qzL hci
 have HG := qzL hG
 have hs0 := hG.i.s0
 have hcl := ok_cl hok
 have k7 : w.cell? ⟨b, 7, none⟩ = some (.int .i64 r.steps) := hW.g.cell 7
 have f7 : w.frozen? ⟨b, 7, none⟩ = false := hW.g.frozen 7
 have hIB := qzL (xEd hG.i)
 have hSB : Hid (Shut c (r.bump.marks c)) := hG.s
 have HST := qzL (fun (W : World) (r1 : Rd) (v0 : Value) (K0 : List Int) (N : Nat) (hW : Rdm w0 W b c m r1 wl q) (hO : Own W N 3 1 eI v0 K0) (hQ : QB q b N) (hN : w0.heap.size ≤ N) (hNw : N ≤ W.heap.size) (hi : RInv c r1) (hp : Pst r.bump r1) (he : EndL c r.bump r1 K0) => xFw w0 b c m r1 wl q v0 K0 N 1000 W hW hO hQ.s (fun x hx e => by have := (World.ownsRow.lt hO x e).1; have := hQ.r x hx; omega) hN hNw hok hcs hci hi (hp.finv (finv_bump hG.f)) (hp.wi ⟨hG.w.a, hG.w.b⟩) (hp.ji (xEd hG.i) hi hcs hG.s he) (fun k hk => by obtain ⟨n, e, hn⟩ := he.b k hk; omega) (by have := he.n; have := xDq (r1.marks c); rw [xBw hi.len] at this; omega) (by omega) hqn hG.b)
 clear hW hok hcs hci hG
 go_enter Tryz.func60, Tryz.ntmps60
 by_cases hx1 : x = -1
 ·subst hx1
  go_upto_region 4 with (fail)
  refine xAi ?_
  intro X hX
  have HRX : Hid (Rdm w0 X b c m r.bump wl q) := by rw [hX]; exact HW.out.setSteps _
  have HKX : Hid (Kept w X (q.pS b)) := by rw [hX]; exact (Kept.refl w _).setCell (.inl rfl)
  clear hX k7 f7
  have HT := qzL (tickR_any w0 b c m r.bump wl q X (-1) HRX.out HOK.out hIB.out hday)
  have hinv := qzL (xG2 (xCe HOK.out) hIB.out)
  have hgt := qzL (GInv.tickW (r := r.bump) (show GInv r.bump from HG.out.g) hIB.out)
  have hQX := qzL HRX.out.qb
  go_wp2_with (first | (go_at_call 86; (with_reducible refine HT.out.mono ?_); rintro e w1 ⟨v0, L, rfl, hr1, hk1, ho1, he1⟩; have HS1 := qzL (HST.out w1 _ v0 L X.heap.size hr1 ho1 hQX.out HRX.out.hb.size hk1.size hinv.out.1 hinv.out.2 he1); have HO1 := qzL ho1; have HK1 := qzL hk1; clear hr1 hk1 ho1 he1) | (go_at_call 84; (with_reducible refine HS1.out.mono ?_); rintro e w2 ⟨rfl, hres⟩))
  go_end0
  refine ⟨rfl, StepR.mk_ (r' := r.step c (-1)) HOK.out hres ?_ hinv.out.1 hgt.out (Nat.le_refl _) HKX.out HK1.out (fun y e => ?_) (fun y e => (World.ownsRow.lt HO1.out y e).1)⟩
  ·unfold Rd.step
   rw [if_pos rfl]
   rfl
  ·rcases e with e | e | e
   ·exact .inl e
   ·exact .inr (.inr (.inl e))
   ·exact .inr (.inr (.inr (.inl e)))
 ·obtain ⟨n, rfl⟩ : ∃ n : Nat, x = (n : Int) := ⟨x.toNat, by omega⟩
  have hnl : n < c.ac.length := by omega
  obtain ⟨a, ha⟩ : ∃ a, c.ac[n]? = some a := ⟨_, qzJ hnl⟩
  have HA := qzL ha
  have HX1 := qzL hx1
  have tx : ((n : Int) == -1) = false := beq_eq_false_iff_ne.2 (by omega)
  clear ha hx1
  go_upto_region 4 with (fail)
  refine xAi ?_
  intro X hX
  have HRX : Hid (Rdm w0 X b c m r.bump wl q) := by rw [hX]; exact HW.out.setSteps _
  have HKX : Hid (Kept w X (q.pS b)) := by rw [hX]; exact (Kept.refl w _).setCell (.inl rfl)
  clear hX k7 f7
  have HT := qzL (actR_any w0 b c m r.bump wl q n a X HRX.out HOK.out hIB.out HA.out (fun i y hy => by have := HG.out.g i y hy; omega))
  have hinv := qzL (xGw (xCe HOK.out) (xEg HOK.out) hIB.out HA.out)
  have hgt := qzL (GInv.actW (r := r.bump) (n := n) (a := a) (show GInv r.bump from HG.out.g) hIB.out HOK.out)
  have hQX := qzL HRX.out.qb
  go_wp2_with (first | (go_at_call 85; (with_reducible refine HT.out.mono ?_); rintro e w1 ⟨v0, L, rfl, hr1, hk1, ho1, he1⟩; have HS1 := qzL (HST.out w1 _ v0 L X.heap.size hr1 ho1 hQX.out HRX.out.hb.size hk1.size hinv.out.1 hinv.out.2.1 he1); have HO1 := qzL ho1; have HK1 := qzL hk1; clear hr1 hk1 ho1 he1) | (go_at_call 84; (with_reducible refine HS1.out.mono ?_); rintro e w2 ⟨rfl, hres⟩))
  go_end0
  refine ⟨rfl, StepR.mk_ (r' := r.step c (n : Int)) HOK.out hres ?_ hinv.out.1 hgt.out (Nat.le_refl _) HKX.out HK1.out (fun y e => ?_) (fun y e => (World.ownsRow.lt HO1.out y e).1)⟩
  ·unfold Rd.step
   rw [if_neg HX1.out, Int.toNat_natCast, act_W HA.out]
  ·rcases e with e | e | e | e
   ·exact .inr (.inl e)
   ·exact .inr (.inr (.inl e))
   ·exact .inr (.inr (.inr (.inl e)))
   ·exact .inr (.inr (.inr (.inr (.inl e))))
end Go.Proofs.YtffceokjeonpcaaGreatDoor
namespace Go.Proofs.YtffceokjeonpcaaGreatDoor
open Go.RowKit Go.Sort
def subs : List Nat → List (List Nat)
 | [] => [[]]
 | x :: l => subs l ++ (subs l).map (x :: ·)
theorem xGn : ∀ {r l : List Nat}, r.Sublist l → r ∈ subs l
 | _, [], h => by rw [List.sublist_nil.1 h]; simp [subs]
 | r, x :: l, h => by
  rcases List.sublist_cons_iff.1 h with h2 | ⟨r', rfl, h2⟩
  ·exact List.mem_append_left _ (xGn h2)
  ·exact List.mem_append_right _ (List.mem_map.2 ⟨r', xGn h2, rfl⟩)
def lstF (n : Nat) (un : List Nat) : Array Bool := (Array.range n).map fun j => !un.contains j
theorem lstF_set {n i : Nat} {r later : List Nat} (hn : r.Nodup) (_hi : i ∈ r) (hl : i ∉ later) : (lstF n (r ++ later)).setIfInBounds i true = lstF n (r.erase i ++ later) := by
 unfold lstF
 refine Array.ext (by simp) fun j h1 h2 => ?_
 have hj : j < n := by simpa using h2
 rw [Array.getElem_setIfInBounds (by simpa using hj)]
 simp only [Array.getElem_map, Array.getElem_range]
 by_cases e : i = j
 ·subst e
  rw [if_pos rfl]
  have h3 : i ∉ r.erase i := fun h => ((List.Nodup.mem_erase_iff hn).1 h).1 rfl
  simp [h3, hl]
 ·rw [if_neg e]
  have h3 : j ∈ r.erase i ↔ j ∈ r := List.mem_erase_of_ne (fun h => e h.symm)
  simp [List.contains_eq_mem, h3]
section
variable {P : Program} {ops : Array Oper} {md : Region.Mode} {S : World → Prop} {Q : Exit → Act → World → Prop} {hs ts : List Nat}
theorem wpHB_set {later rem : List Nat} {f : Nat} (Inv : List Nat → Act → World → Prop) (hnd : rem.Nodup) (hlt : ∀ i ∈ rem, i ∉ later) (hin : ∀ i ∈ rem, hs.contains i = true)
  (hready : ((subs rem).all fun r => r == [] || Region.ready md ops (lstF ops.size (r ++ later)) == r) = true)
  (hstep : ∀ r a w, r.Sublist rem → S w → Inv r a w → ∀ i ∈ r, ∃ o, ops[i]? = some o ∧ ∀ K' : Act → World → Prop, _root_.Go.Shut (∀ a w, S w → Inv (r.erase i) a w → K' a w) → if Region.wanted o (yielded ops a.tmps) = true then Oper.wp P o a w K' Q else K' (a.put o.dst undef) w)
  (hend : ∀ a w, S w → Inv [] a w → wpHB P md ops Q S hs ts f (lstF ops.size later) a w) :
  ∀ (k : Nat) (r : List Nat), r.length = k → r.Sublist rem → ∀ a w, S w → Inv r a w → wpHB P md ops Q S hs ts (f + k) (lstF ops.size (r ++ later)) a w
 | 0, r, hk, hr, a, w, hS, hI => by
  obtain rfl : r = [] := List.eq_nil_of_length_eq_zero hk
  exact hend a w hS hI
 | k + 1, r, hk, hr, a, w, hS, hI => by
  have hne : r ≠ [] := fun e => by rw [e] at hk; simp at hk
  have h1 := List.all_eq_true.1 hready r (xGn hr)
  have h2 : Region.ready md ops (lstF ops.size (r ++ later)) = r := by
   rcases Bool.or_eq_true_iff.1 h1 with h | h
   ·exact absurd (eq_of_beq h) hne
   ·exact eq_of_beq h
  refine xAt (f := f + k) h2 hne fun i hi => ⟨hin i (hr.subset hi), ?_⟩
  obtain ⟨o, ho, hs'⟩ := hstep r a w hr hS hI i hi
  refine wpOp_step ho (fun K' hK => hs' K' (fun a' w' hS' hI' => hK a' w' ⟨hS', ?_⟩))
  rw [lstF_set (hnd.sublist hr) hi (hlt i (hr.subset hi))]
  exact wpHB_set Inv hnd hlt hin hready hstep hend k (r.erase i) (by rw [List.length_erase_of_mem hi, hk]; rfl) ((List.erase_sublist).trans hr) a' w' hS' hI'
end
open Go.Maps
abbrev Zoc : Out × Cnt := (⟨0, 0, 0, 0, 0⟩, ⟨0, false⟩)
abbrev Con.rz (c : Con) : Rd := ⟨0, 0, c.hold, List.replicate c.ac.length false, List.replicate c.cl.length Zoc⟩
abbrev Con.rE (c : Con) (e : Nat) : Rd := c.rz.wo (mixP (fun k _ => out0 k) c.cl c.rz.oc e)
section
variable {w0 w w' : World} {b : Nat} {c : Con} {m : Cm} {r : Rd} {wl : Int → List Int} {q : Rq}
theorem Rdm.setWhole (h : Rdm w0 w b c m r wl q) {i : Nat} {x : Out × Cnt} (y : Out) (hx : r.oc[i]? = some x) : Rdm w0 (w.setCells q.o (i * 5) (eO y)) b c m (r.wo (r.oc.set i (y, x.2))) wl q := by
 have hi := (qzM hx).1
 have hx1 : (r.oc.map (·.1))[i]? = some x.1 := by rw [List.getElem?_map, hx]; rfl
 have hx2 : (r.oc.map (·.2))[i]? = some x.2 := by rw [List.getElem?_map, hx]; rfl
 have u : Upd w (w.setCells q.o (i * 5) (eO y)) q.o := Upd.setCells _ _ _ (Upd.refl _ _)
 refine h.updO u (.inl rfl) List.length_set ?_ ?_
 ·have h2 := h.oo.setPart xDw (List.length_map _) (k := i) (j := 0) (y := y) (vs := eO y) hx1 (by simp [eO]) rfl
  rw [List.map_set]
  exact h2
 ·rw [List.map_set, show (r.oc.map (·.2)).set i x.2 = r.oc.map (·.2) from by
   refine List.ext_getElem? fun n => ?_
   by_cases e : i = n
   ·subst e; rw [List.getElem?_set_self (by rw [List.length_map]; exact hi), hx2]
   ·rw [List.getElem?_set_ne e]]
  exact h.ok.upd u (by intro k hk; cases hk; exact h.ko)
theorem Rdm.there (h : Rdm w0 w b c m r wl q) {i : Nat} {x : Out × Cnt} (hx : r.oc[i]? = some x) : w.there q.o (i * 5) 5 := by
 have hx1 : (r.oc.map (·.1))[i]? = some x.1 := by rw [List.getElem?_map, hx]; rfl
 exact h.oo.there xDw (List.length_map _) hx1 (j := 0) (by omega)
end
structure BL (w W : World) (b : Nat) (c : Con) (m : Cm) (q : Rq) (N e i cnt : Nat) (D : Int → Prop) (v : Value) (K : List Int) (wl : Int → List Int) (f : Int → Value) (n : Nat) : Prop where
 rd : Rdm w W b c m (c.rE e) wl (q.wf f n)
 o : Own W N 3 1 eI v K
 a : ∀ s x, x ∈ wl s → ∃ (j : Nat) (k : Cla), x = (j : Int) ∧ c.cl[j]? = some k ∧ k.waived = false ∧ xD7 k s
 b : ∀ (j : Nat) k, c.cl[j]? = some k → k.waived = false → ∀ s, xD7 k s → (j < i ∨ (j = i ∧ D s)) → (j : Int) ∈ wl s
 kb : ∀ x ∈ K, -1 ≤ x ∧ x < (c.cl.length : Int)
 kl : K.length ≤ e + 1
 k1 : (-1 : Int) ∈ K
 kw : ∀ (j : Nat) k, c.cl[j]? = some k → k.waived = true → j < i → (j : Int) ∈ K
 nb : n ≤ cnt
 wb : ∀ s, (wl s).length ≤ cnt
 dk : ∀ x, (q.wf f n).row x → v.ownBlock ≠ some x
 rr : ∀ x, (q.wf f n).row x → N ≤ x
section
variable {w W W2 W3 : World} {b : Nat} {c : Con} {m : Cm} {q : Rq} {N e i cnt : Nat} {D : Int → Prop} {v v' : Value} {K : List Int} {wl : Int → List Int} {f : Int → Value} {n : Nat} {s : Int} {k : Cla}
theorem BL.then_ (h : BL w W b c m q N e i cnt D v K wl f n) (hb : Below W.heap.size W W2) : BL w W2 b c m q N e i cnt D v K wl f n :=
 ⟨h.rd.then_ hb, h.o.below hb, h.a, h.b, h.kb, h.kl, h.k1, h.kw, h.nb, h.wb, h.dk, h.rr⟩
theorem BL.wd {D' : Int → Prop} (h : BL w W b c m q N e i cnt D v K wl f n) (hd : ∀ x, D' x → D x) : BL w W b c m q N e i cnt D' v K wl f n :=
 ⟨h.rd, h.o, h.a, fun j k h1 h2 s h3 h4 => h.b j k h1 h2 s h3 (h4.imp id fun ⟨a, b⟩ => ⟨a, hd _ b⟩), h.kb, h.kl, h.k1, h.kw, h.nb, h.wb, h.dk, h.rr⟩
theorem BL.lay (h : BL w W b c m q N e i cnt D v K wl f n) (hR : Rdm w W2 b c m (c.rE (e + 1)) wl (q.wf f n)) (hK : Kept W W2 (fun x => x = q.o)) (hq : q.o < N) : BL w W2 b c m q N (e + 1) i cnt D v K wl f n :=
 ⟨hR, h.o.keepP hK (fun y e => by rw [e]; exact hq), h.a, h.b, h.kb, by have := h.kl; omega, h.k1, h.kw, h.nb, h.wb, h.dk, h.rr⟩
theorem BL.next (h : BL w W b c m q N e i cnt D v K wl f n) (hk : c.cl[i]? = some k) (hD : k.waived = false → ∀ s, xD7 k s → D s) (hKw : k.waived = true → (i : Int) ∈ K) : BL w W b c m q N e (i + 1) cnt (fun _ => False) v K wl f n :=
 ⟨h.rd, h.o, h.a, fun j k' h1 h2 s' h3 h4 => by
  rcases h4 with h4 | ⟨_, h4⟩
  ·by_cases e : j = i
   ·subst e
    rw [hk] at h1
    cases h1
    exact h.b j k hk h2 s' h3 (.inr ⟨rfl, hD h2 s' h3⟩)
   ·exact h.b j k' h1 h2 s' h3 (.inl (by omega))
  ·exact h4.elim, h.kb, h.kl, h.k1, fun j k' h1 h2 h3 => by
   by_cases e : j = i
   ·subst e
    rw [hk] at h1
    cases h1
    exact hKw h2
   ·exact h.kw j k' h1 h2 (by omega), h.nb, h.wb, h.dk, h.rr⟩
theorem BL.known (h : BL w W b c m q N e i cnt D v K wl f n) (hN : w.heap.size ≤ N) (hq : b < N ∧ q.bc < N ∧ q.h < N ∧ q.a < N ∧ q.k < N ∧ q.o < N ∧ q.mp < N) (hi : i < c.cl.length) (hke : K.length ≤ e)
  {o : Obj} (hO : Own W2 N 3 1 eI v' (K ++ [(i : Int)])) (hg : (W.alloc o).grownBy W2 v.ownBlock) (hl : v'.ownBlock = v.ownBlock ∨ v'.ownBlock = some (W.alloc o).heap.size) : BL w W2 b c m q N e i cnt D v' (K ++ [(i : Int)]) wl f n := by
 have hb := wa1 W o
 have hs : (W.alloc o).heap.size = W.heap.size + 1 := by simp
 refine ⟨(h.rd.then_ hb).grown hg (fun x e => (World.ownsRow.lt h.o x e).1) hN hq h.dk, hO, h.a, h.b, fun x hx => ?_, by rw [List.length_append]; simp; omega, List.mem_append_left _ h.k1, fun j k' h1 h2 h3 => List.mem_append_left _ (h.kw j k' h1 h2 h3), h.nb, h.wb, fun x hx e => ?_, h.rr⟩
 ·rcases List.mem_append.1 hx with hx | hx
  ·exact h.kb x hx
  ·rw [List.mem_singleton.1 hx]; omega
 ·rcases hl with e2 | e2
  ·exact h.dk x hx (e2 ▸ e)
  ·rw [e2] at e; cases e; have := h.rd.qb.r _ hx; omega
theorem BL.put (h : BL w W b c m q N e i cnt D v K wl f n) (hq : b < N ∧ q.bc < N ∧ q.h < N ∧ q.a < N ∧ q.k < N ∧ q.o < N ∧ q.mp < N) (hk : c.cl[i]? = some k) (hw : k.waived = false) (hws : xD7 k s)
  {o : Obj} (hO : Own W2 w.heap.size 3 1 eI v' (wl s ++ [(i : Int)])) (hg : (W.alloc o).grownBy W2 (f s).ownBlock) (hl : v'.ownBlock = (f s).ownBlock ∨ v'.ownBlock = some (W.alloc o).heap.size) (hM : MapF W3 q.mp (n + 1) (fun y => if y = s then v' else f y)) (hu : Upd W2 W3 q.mp) (hN : N ≤ W.heap.size) :
  BL w W3 b c m q N e i (cnt + 1) (fun x => D x ∨ x = s) v K (fun x => if x = s then wl s ++ [(i : Int)] else wl x) (fun y => if y = s then v' else f y) (n + 1) := by
 have hb := wa1 W o
 have hs : (W.alloc o).heap.size = W.heap.size + 1 := by simp
 have hrs : ∀ x, (f s).ownBlock = some x → N ≤ x := fun x hx => h.rr x ⟨s, hx⟩
 have keep : ∀ x, x < W.heap.size → (f s).ownBlock ≠ some x → x ≠ q.mp → W3.heap[x]? = W.heap[x]? := fun x hx h1 h2 => (hu.f x h2).trans ((hg.block x (by omega) (fun e => h1 e.symm)).trans (hb.block x hx))
 have keepS : ∀ x, x < N → x ≠ q.mp → W3.heap[x]? = W.heap[x]? := fun x hx h2 => keep x (by omega) (fun e => by have := hrs x e; omega) h2
 have hv' : ∀ x, v'.ownBlock = some x → (f s).ownBlock = some x ∨ x = W.heap.size + 1 := fun x hx => by
  rcases hl with e2 | e2
  ·exact .inl (e2 ▸ hx)
  ·rw [e2] at hx; cases hx; exact .inr hs
 have hv0 : ∀ k x, (f k).ownBlock = some x → x < W.heap.size := fun k x hx => (World.ownsRow.lt (h.rd.ol k) x hx).2
 have ownK : ∀ {α : Type} {B : Nat} {T : TypeId} {size : Nat} {enc : α → List Value} {V : Value} {xs : List α}, Own W B T size enc V xs → (∀ x, V.ownBlock = some x → (f s).ownBlock ≠ some x ∧ x ≠ q.mp) → Own W3 B T size enc V xs := fun {α B T size enc V xs} hO hx => by
  refine ⟨hO.1, ?_⟩
  rcases hO.2 with h2 | ⟨g', cap', cur, hv, hg', hh, r⟩
  ·exact .inl h2
  ·have hx2 := hx g' (by rw [hv]; rfl)
   exact .inr ⟨g', cap', cur, hv, hg', by rw [keep g' (Array.getElem?_eq_some_iff.1 hh).1 hx2.1 hx2.2]; exact hh, r⟩
 have st : ∀ (g : Nat), g < N → (f s).ownBlock ≠ some g := fun g hg e => by have := hrs g e; omega
 have rowN : ∀ x, (q.wf (fun y => if y = s then v' else f y) (n + 1)).row x → (∃ k, k ≠ s ∧ (f k).ownBlock = some x) ∨ v'.ownBlock = some x := fun x ⟨j, hj⟩ => by
  have hj : (if j = s then v' else f j).ownBlock = some x := hj
  by_cases e : j = s
  ·rw [if_pos e] at hj; exact .inr hj
  ·rw [if_neg e] at hj; exact .inl ⟨j, e, hj⟩
 have hlk : ∀ x, v.ownBlock = some x → x < W.heap.size ∧ N ≤ x := fun x hx => ⟨(World.ownsRow.lt h.o x hx).2, (World.ownsRow.lt h.o x hx).1⟩
 refine ⟨⟨?_, ?_, ?_, ?_, ?_, ?_, hM, fun j => ?_, fun j j' x hne hx hx' => ?_, fun hx => ?_, ?_, h.rd.lb, h.rd.bb, h.rd.cn, h.rd.lo, h.rd.lh, h.rd.la⟩, ?_, fun s' x hx => ?_, fun j k' h1 h2 s' h3 h4 => ?_, h.kb, h.kl, h.k1, h.kw, by have := h.nb; omega, fun y => ?_, fun x hx e => ?_, fun x hx => ?_⟩
 ·exact (keepS b hq.1 h.rd.bm).trans h.rd.g
 ·exact (keepS q.bc hq.2.1 h.rd.mc.symm).trans h.rd.gc
 ·exact ownK h.rd.oh (fun x hx => by cases hx; exact ⟨st _ hq.2.2.1, h.rd.mh.symm⟩)
 ·exact ownK h.rd.oa (fun x hx => by cases hx; exact ⟨st _ hq.2.2.2.1, h.rd.ma.symm⟩)
 ·exact ownK h.rd.ok (fun x hx => by cases hx; exact ⟨st _ hq.2.2.2.2.1, h.rd.mk_.symm⟩)
 ·exact ownK h.rd.oo (fun x hx => by cases hx; exact ⟨st _ hq.2.2.2.2.2.1, h.rd.mo.symm⟩)
 ·show Own W3 w.heap.size 3 1 eI (if j = s then v' else f j) (if j = s then wl s ++ [(i : Int)] else wl j)
  by_cases e : j = s
  ·rw [if_pos e, if_pos e]
   refine hO.upd hu fun x hx => ?_
   rcases hv' x hx with h1 | h1
   ·exact h.rd.rowM ⟨s, h1⟩
   ·have h2 : q.mp < N := hq.2.2.2.2.2.2
    omega
  ·rw [if_neg e, if_neg e]
   exact ownK (h.rd.ol j) (fun x hx => ⟨fun e2 => h.rd.ap j s x e hx e2, h.rd.rowM ⟨j, hx⟩⟩)
 ·have hx : (if j = s then v' else f j).ownBlock = some x := hx
  have hx' : (if j' = s then v' else f j').ownBlock = some x := hx'
  by_cases e : j = s <;> by_cases e' : j' = s
  ·omega
  ·rw [if_pos e] at hx
   rw [if_neg e'] at hx'
   rcases hv' x hx with h1 | h1
   ·exact h.rd.ap j' s x e' hx' h1
   ·have := hv0 j' x hx'; omega
  ·rw [if_neg e] at hx
   rw [if_pos e'] at hx'
   rcases hv' x hx' with h1 | h1
   ·exact h.rd.ap j s x e hx h1
   ·have := hv0 j x hx; omega
  ·rw [if_neg e] at hx
   rw [if_neg e'] at hx'
   exact h.rd.ap j j' x hne hx hx'
 ·have hqh : q.h < N := hq.2.2.1
  rcases rowN _ hx with ⟨j, _, h1⟩ | h1
  ·exact h.rd.ah ⟨j, h1⟩
  ·rcases hv' _ h1 with h2 | h2
   ·exact h.rd.ah ⟨s, h2⟩
   ·have h2 : q.h = W.heap.size + 1 := h2
    omega
 ·refine (xAa h.rd.hb hb).trans (Below.trans (b := W2) ⟨hg.os, hg.tape, hg.output, hg.size, fun x hx => hg.block x (by have := h.rd.hb.size; omega) (fun e => ?_)⟩ (hu.b _ h.rd.lb.2.2))
  have := (World.ownsRow.lt (h.rd.ol s) x e.symm).1
  omega
 ·exact ownK h.o (fun x hx => ⟨fun e => h.dk x ⟨s, e⟩ hx, fun e => by have := (hlk x hx).2; have h2 : q.mp < N := hq.2.2.2.2.2.2; omega⟩)
 ·have hx : x ∈ (if s' = s then wl s ++ [(i : Int)] else wl s') := hx
  by_cases e : s' = s
  ·rw [if_pos e] at hx
   rcases List.mem_append.1 hx with hx | hx
   ·rw [e]; exact h.a s x hx
   ·rw [List.mem_singleton.1 hx, e]; exact ⟨i, k, rfl, hk, hw, hws⟩
  ·rw [if_neg e] at hx
   exact h.a s' x hx
 ·show (j : Int) ∈ (if s' = s then wl s ++ [(i : Int)] else wl s')
  by_cases e : s' = s
  ·rw [if_pos e]
   rcases h4 with h4 | ⟨h4, _⟩
   ·exact List.mem_append_left _ (by have := h.b j k' h1 h2 s' h3 (.inl h4); rwa [e] at this)
   ·rw [h4]; simp
  ·rw [if_neg e]
   refine h.b j k' h1 h2 s' h3 ?_
   rcases h4 with h4 | ⟨h4, h5 | h5⟩
   ·exact .inl h4
   ·exact .inr ⟨h4, h5⟩
   ·exact absurd h5 e
 ·show (if y = s then wl s ++ [(i : Int)] else wl y).length ≤ cnt + 1
  split
  ·rw [List.length_append]; have := h.wb s; simp; omega
  ·have := h.wb y; omega
 ·rcases rowN x hx with ⟨j, _, h1⟩ | h1
  ·exact h.dk x ⟨j, h1⟩ e
  ·rcases hv' x h1 with h2 | h2
   ·exact h.dk x ⟨s, h2⟩ e
   ·have := (hlk x e).1; omega
 ·rcases rowN x hx with ⟨j, _, h1⟩ | h1
  ·exact h.rr x ⟨j, h1⟩
  ·rcases hv' x h1 with h2 | h2
   ·exact hrs x h2
   ·omega
end
theorem xCv {c : Con} (h : c.ok = true) : xEy c ∧ CIs c ∧ ∀ k ∈ c.cl, k.start.length ≤ 8 := by
 have key : ∀ k ∈ c.cl, k.start.length ≤ 8 ∧ ∀ p ∈ k.start, (0 ≤ p.1 ∧ p.1 < (c.cl.length : Int)) ∧ 1 ≤ p.2 ∧ p.2 ≤ 4 := fun k hk => by
  unfold Con.ok at h
  simp only [Bool.and_eq_true] at h
  obtain ⟨i, hi⟩ := List.getElem?_of_mem hk
  have h2 := (c.clsOk_iff c.cl 0).1 h.2 i k hi
  unfold Con.claOk at h2
  simp only [Bool.and_eq_true, decide_eq_true_eq, List.all_eq_true] at h2
  refine ⟨h2.1.1.1.2, fun p hp => ?_⟩
  have h3 := h2.1.1.2 p hp
  unfold xCi isI at h3
  simp only [Bool.and_eq_true, decide_eq_true_eq] at h3
  exact ⟨h3.1.1.1, h3.1.2, h3.2⟩
 exact ⟨fun k hk p hp => ((key k hk).2 p hp).1, fun k hk p hp => ((key k hk).2 p hp).2, fun k hk => (key k hk).1⟩
theorem rE_all (c : Con) : c.rE c.cl.length = c.base := by
 unfold Con.rE Con.rz Rd.wo Con.base
 rw [xE0 (by simp)]
 have e : List.zipWith (fun k _ => out0 k) c.cl (List.replicate c.cl.length Zoc) = c.cl.map out0 := by
  refine List.ext_getElem? fun i => ?_
  rw [List.getElem?_zipWith, List.getElem?_map]
  by_cases hi : i < c.cl.length
  ·rw [qzJ hi, List.getElem?_replicate, if_pos hi]; rfl
  ·rw [List.getElem?_eq_none (by omega)]; simp
 rw [e]
theorem xJa {c : Con} {n : Nat} {p : Out × Cnt} (h : c.base.oc[n]? = some p) : ∃ k, c.cl[n]? = some k ∧ p = out0 k := by
 have e : c.base.oc[n]? = (c.cl[n]?).map out0 := by simp [Con.base]
 rw [e] at h
 cases hk : c.cl[n]? with
 | none => rw [hk] at h; simp at h
 | some k => rw [hk] at h; cases h; exact ⟨k, rfl, rfl⟩
theorem base_f (c : Con) : FInv c c.base := by
 refine ⟨fun i k p hk hp hw _ => ?_, fun i k p hk hp hs => ?_⟩ <;> obtain ⟨k', hk', rfl⟩ := xJa hp <;> rw [hk] at hk' <;> cases hk'
 ·unfold out0; rw [hw]; rfl
 ·cases hw : k.waived with
  | true => unfold out0 at hs; rw [hw] at hs; simp at hs
  | false => unfold out0; rw [hw]; exact ⟨by decide, rfl⟩
theorem base_g (c : Con) : GInv c.base := fun i x hx => by
 obtain ⟨k, _, rfl⟩ := xJa hx
 unfold out0
 split <;> simp
theorem BL.fin {w W : World} {b : Nat} {c : Con} {m : Cm} {q : Rq} {N e cnt : Nat} {D : Int → Prop} {v : Value} {K : List Int} {wl : Int → List Int} {f : Int → Value} {n : Nat} (h : BL w W b c m q N e c.cl.length cnt D v K wl f n) (hcs : xEy c) (hc : CGood c) : WI c c.base wl ∧ JI c c.base K := by
 refine ⟨⟨h.a, fun j k p h1 h2 h3 s h4 => ?_⟩, fun j hr => ?_⟩
 ·obtain ⟨k', hk', rfl⟩ := xJa h2
  rw [h1] at hk'
  cases hk'
  have hw : k.waived = false := by
   cases hw : k.waived with
   | false => rfl
   | true => unfold out0 at h3; rw [hw] at h3; simp at h3
  exact h.b j k h1 hw s h4 (.inl (qzM h1).1)
 ·obtain ⟨k, p, g1, g2, g3, g4, g5⟩ := (xGi (xE7 hc)).1 hr
  by_cases he : k.start = []
  ·exact ⟨k, -1, g1, .inl ⟨he, rfl⟩, h.k1⟩
  ·obtain ⟨x, hx⟩ := List.exists_mem_of_ne_nil _ he
   have hx3 := List.all_eq_true.1 g5 x hx
   obtain ⟨x0, x1⟩ := hcs k (qzK g1) x hx
   refine ⟨k, x.1, g1, .inr ⟨x, hx, rfl⟩, ?_⟩
   obtain ⟨ku, hku⟩ : ∃ u, c.cl[x.1.toNat]? = some u := ⟨_, qzJ (by omega)⟩
   have hou : c.base.oc[x.1.toNat]? = some (out0 ku) := by simp [Con.base, hku]
   unfold stR at hx3
   rw [hou] at hx3
   simp only at hx3
   cases hw : ku.waived with
   | true =>
    have := h.kw _ ku hku hw (by omega)
    rwa [Int.toNat_of_nonneg x0] at this
   | false =>
    exfalso
    have e : (out0 ku).1.st = 0 := by unfold out0; rw [hw]; rfl
    rw [e, cond0] at hx3
    cases hx3
end Go.Proofs.YtffceokjeonpcaaGreatDoor
