/- Contracts of functions and plain laws, joined: Sf, Sg0. -/
import Derived.Test.YtffceokjeonpcaaGreatDoorMb6
import Derived.Test.YtffceokjeonpcaaGreatDoorMb1
set_option maxHeartbeats 6400000
set_option maxRecDepth 100000
namespace Go.Proofs.YtffceokjeonpcaaGreatDoor
open Go.RowKit
attribute [local go_sem] Oper.semAt_some
theorem tick1_runs (fr : Bool) (k : Cla) (x : Mk) (h : x.runs = false) : xBd fr k x = x := by unfold xBd; rw [if_pos (.inl h)]
theorem xHr {F : Fence} {n : Nat} {P : Program} {c : Code} {Q : Exit → Act → World → Prop} {a : Act} {w : World} (h : ∀ w', w' = w → c.wpIn F n P Q a w') : c.wpIn F n P Q a w := h w rfl
abbrev effT : List Value := [.nilFunc, .func (.func 65) #[] #[], .func (.func 66) #[] #[], .func (.func 67) #[] #[], .func (.func 67) #[] #[]]
theorem tick_any (w0 : World) (b : Nat) (c : Con) (m : Cm) (s : Sta) (q : Qn) (w : World) (hW : Wk w0 w b c m s q) (hok : c.ok = true) (hl : s.hol.length = c.hold.length) (hd : 0 ≤ s.day ∧ s.day ≤ 1000000) (hm : ∀ x ∈ s.marks, x.runs = true → 0 ≤ x.left ∧ x.left ≤ 1000000) :
  Calls Tryz.prog 48 #[.pointer (some ⟨b, 0, none⟩)] w fun e w' => e = .returned (.tuple #[]) ∧ Wk w0 w' b c m (s.tick c) q ∧ Kept w w' (fun x => x = b ∨ x = q.m) := by
 have HW := qzL hW
 have HOK := qzL hok
 have HL := qzL hl
 have HM := qzL hm
 have no := hW.cn.no
 obtain ⟨fr, hfr⟩ : ∃ z, c.off.contains s.day = z := ⟨_, rfl⟩
 obtain ⟨fn, hfn⟩ : ∃ z, befN s.day c.off = z := ⟨_, rfl⟩
 have HFR : Hid (∀ W, Below w.heap.size w W → Calls Tryz.prog 68 #[.slice m.o c.off.length m.oc, .int .i64 s.day] W fun e w' => e = .returned (.tuple #[.int .i64 fn, .bool fr]) ∧ Below W.heap.size W w') := fun W hb =>
  free_any m.o c.off m.oc s.day W no (ok_off HOK.out) ((HW.out.then_ hb).cont.o) fn fr hfn hfr
 have HFE := qzL hfr
 clear hW hok hl hm hfr hfn
 refine (callsIn_wide (n := 6)).1 ?_
 refine callsIn_of_wp_marks Tryz.func48 rfl trivial ?_
 simp only [Tryz.ntmps48, List.size_toArray, List.length_cons, List.length_nil, Nat.reduceAdd, Nat.reduceSub, Array.replicate_succ, Array.replicate_zero, List.push_toArray, List.append_toArray, qzF, qzE]
 refine wpIn_wide.2 ?_
 refine wp_qs ?_
 go_upto_region 2 with ((refine xAh rfl 124 _ _ rfl (w.heap.size + 1) 124 [] [.nilFunc, .nilFunc, .nilFunc, .nilFunc, .nilFunc] [] effT rfl rfl (xA0 (by simp)) rfl (by kernel_rfl) (by simp [Value.oneCell']) ?_; intro X gX uX; simp only [Act.put]))
 have gx : Blk X w.heap.size 98 #[.pointer (some ⟨b, 0, none⟩)] := ((Blk.new w 98 #[.pointer (some ⟨b, 0, none⟩)]).alloc _).upd uX (by omega)
 have HX : Hid (Below w.heap.size w X) := (xAc (wa1 _ _) _).trans (uX.b _ (by omega))
 have ge : Blk X (w.heap.size + 1) 124 effT.toArray := gX
 obtain ⟨be, ebe⟩ : ∃ b, w.heap.size + 1 = b := ⟨_, rfl⟩
 obtain ⟨bx, ebx⟩ : ∃ b, w.heap.size = b := ⟨_, rfl⟩
 have hlx : Hid (w.heap.size ≤ bx ∧ bx < be) := by unfold Hid; omega
 rw [ebe] at ge ⊢
 rw [ebx] at gx ⊢
 clear gX uX ebe ebx
 have hWX := qzL (HW.out.then_ HX.out)
 have x0 : X.cell? ⟨bx, 0, none⟩ = some (.pointer (some ⟨b, 0, none⟩)) := gx.cell 0
 have k6 : X.cell? ⟨b, 6, none⟩ = some (.slice m.o c.off.length m.oc) := hWX.out.g.cell 6
 have k7 : X.cell? ⟨b, 7, none⟩ = some (.int .i64 s.day) := hWX.out.g.cell 7
 have HF2 : Hid (∀ W, Below X.heap.size X W → Calls Tryz.prog 68 #[.slice m.o c.off.length m.oc, .int .i64 s.day] W fun e w' => e = .returned (.tuple #[.int .i64 fn, .bool fr]) ∧ Below W.heap.size W w') := fun W hb => HFR.out W (xAa HX.out hb)
 clear HFR
 refine xDh (T := 4) (zs := #[.bool false]) [0, 1, 2, 3, 4, 5, 6, 7, 8, 9, 10, 11] [12, 13] [15, 16] 14 4 (by kernel_rfl) (by kernel_rfl) pO (fun _ _ => by rfl) ?_
 apply Exists.intro
 refine ⟨?_, ?_⟩
 ·intro S gS hGS
  haveI := hGS.2.2
  have rg0 := xA3 hGS x0
  have rg1 := xA3 hGS k6
  have rg2 := xA3 hGS k7
  unfold cls
  simp only [xAn, qzA, qzB, qzC, qzD, qzE, qzF]
  repeat (go_big_quiet_step ((go_at_call 68; exact qa_call hGS (fun W' hW' => HF2.out W' hW') _)))
  refine wpQuiet_nil ?_
  exact rfl
 intro bf Y hbf hbY gbf
 simp only [xAn, qzA, qzB, qzC, qzD, qzE, qzF, Act.put, qzG, qzH, qzI]
 have cf : Y.cell? ⟨bf, 0, none⟩ = some (.bool false) := gbf.cell 0
 have cff : Y.frozen? ⟨bf, 0, none⟩ = false := gbf.frozen 0
 clear x0 k6 k7 HF2
 go_upto_region 3 with (fail)
 refine xAi ?_
 intro V hV
 have uV : Upd Y V bf := by rw [hV]; exact (Upd.refl _ _).setCell _ _
 have gfV : Blk V bf 4 #[.bool fr] := by rw [hV]; exact gbf.set_ 0 _
 have hlf : Hid (X.heap.size ≤ bf) := hbf
 have hnb : Hid (bx ≠ bf ∧ be ≠ bf) := by have := gx.lt; have := ge.lt; unfold Hid; omega
 have gxV := (gx.then_ hbY).upd uV hnb.out.1
 have geV := (ge.then_ hbY).upd uV hnb.out.2
 have hXV : Hid (Below X.heap.size X V) := hbY.trans (uV.b _ hbf)
 have hWV := qzL (hWX.out.then_ hXV.out)
 have HKV : Hid (Kept w V (fun x => x = b ∨ x = q.m)) := Kept.of_below (xAa HX.out hXV.out)
 clear hV uV gbf gx ge hWX hbY HX cf cff hbf hXV
 have x0 : V.cell? ⟨bx, 0, none⟩ = some (.pointer (some ⟨b, 0, none⟩)) := gxV.cell 0
 have HRN := qzL (fun W => xCt b W)
 go_wp2_with (go_at_call 69; (with_reducible refine (HRN.out _).mono ?_); rintro e w1 ⟨rfl, hw1⟩; have HW1 := qzL hw1; clear hw1)
 have hw1 := HW1.out
 have hb1 : Below V.heap.size V w1 := by rw [hw1]; exact wa1 _ _
 have gy : Blk w1 V.heap.size 98 #[.pointer (some ⟨b, 0, none⟩)] := by rw [hw1]; exact Blk.new _ _ _
 have hW1 := qzL (hWV.out.then_ hb1)
 have hK1 := qzL (HKV.out.trans (Kept.of_below hb1))
 have gx1 := gxV.then_ hb1
 have ge1 := geV.then_ hb1
 have gf1 := gfV.then_ hb1
 have hne : Hid (¬ bx = q.m ∧ ¬ be = q.m ∧ ¬ bf = q.m ∧ ¬ V.heap.size = q.m) := by
  have h1 := HW.out.bnd
  have h2 := hlx.out
  have h3 := hlf.out
  have h4 := hWV.out.bnd
  have h5 := hnb.out
  obtain ⟨_, h7⟩ := hWV.out.om.blkT
  have h6 := xBc gfV h7 (by decide)
  unfold Hid
  omega
 have hneb : Hid (¬ bx = b ∧ ¬ be = b ∧ ¬ bf = b ∧ ¬ V.heap.size = b) := by
  have h1 := HW.out.bnd
  have h2 := hlx.out
  have h4 := hWV.out.bnd
  have h6 := xBc gfV hWV.out.g (by decide)
  unfold Hid
  omega
 obtain ⟨by_, eby⟩ : ∃ b, V.heap.size = b := ⟨_, rfl⟩
 rw [eby] at gy hne hneb ⊢
 clear hw1 HW1 HRN x0 gxV geV gfV hWV HKV eby hb1
 refine xEe by_ _ _ _ _ rfl rfl (by simp) rfl rfl rfl rfl hW1.out gy (· = q.m) (by have := hW1.out.bnd; rintro x rfl; omega) (xBd fr) (tick1_runs fr)
  (fun W => Blk W bx 98 #[.pointer (some ⟨b, 0, none⟩)] ∧ Blk W be 124 effT.toArray ∧ Blk W bf 4 #[.bool fr]) (fun W W' h hb => ⟨h.1.below hb gx1.lt, h.2.1.below hb ge1.lt, h.2.2.below hb gf1.lt⟩) ⟨gx1, ge1, gf1⟩ ?_ ?_
 ·intro l i k x W hI hk hx hr hlW
  simp only [qzG, qzH, qzI]
  have hlm : s.marks.length = c.cl.length := hW1.out.lm
  have hik : i < c.cl.length := (qzM hk).1
  have nk := hW1.out.cn.nk
  have hlf := HM.out x (qzK hx) hr
  obtain ⟨kx, hkx, hkk⟩ := xC3 hI.wk.cn.e hk
  obtain ⟨b2, o2, eA2, hb2, hc2⟩ := xAv hI.wk.cont.k hkx
  have hrg : W.rangeAt b2 (o2 + i * 16) (kL kx) := fun j v hv => hc2 j v hv
  have hix3 := fun W => xAp (t := 25) (size := 16) (cap := m.kc) eA2 hik (by kernel_rfl) (fun W => by kernel_rfl) W
  have hx2 : (mixM (xBd fr) c.cl s.marks i)[i]? = some x := (xD6 hlm hik).trans hx
  have HI := qzL hI
  have HK := qzL hk
  have HX := qzL hx
  have HLM := qzL hlm
  have HXR := qzL hr
  have x0 : W.cell? ⟨bx, 0, none⟩ = some (.pointer (some ⟨b, 0, none⟩)) := hI.e.1.cell 0
  have k4 : W.cell? ⟨b, 4, none⟩ = some (.slice m.k c.cl.length m.kc) := hI.wk.g.cell 4
  clear hI hk hx hr hlm hc2 eA2 hkx
  have HWm := HI.out.wk
  obtain ⟨ms', hms⟩ : ∃ l, mixM (xBd fr) c.cl s.marks i = l := ⟨_, rfl⟩
  have HMS := qzL hms
  rw [hms] at hx2 HWm
  have hil : i < ms'.length := (qzM hx2).1
  have nms : ms'.length ≤ 1000000 := HWm.nm
  have hix4 := fun W => xA4 (t := 45) (size := 5) (g := q.m) (cap := q.mc) hil (by kernel_rfl) (fun W => by kernel_rfl) W
  have HX2 := qzL hx2
  have HWM := qzL HWm
  clear hms hx2 HWm
  obtain ⟨pau, hpau⟩ : ∃ z, x.pau = z := ⟨_, rfl⟩
  have HP := qzL hpau
  obtain ⟨bus, hbus⟩ : ∃ z, k.bus = z := ⟨_, rfl⟩
  have HBUS := qzL hbus
  clear hpau hbus
  cases pau with
  | true =>
   have hsame : Hid (xBd fr k x = x) := by unfold Hid xBd; rw [if_pos (.inr (.inl HP.out))]
   gi_step
   gi_step
   gi_step
   (with_reducible refine xAe ?_ ?_ ?_; (focus kernel_rfl); exact nO)
   go_wp2_with ((refine xAm 95 el16 _ _ _ rfl rfl rfl rfl rfl rfl rfl rfl rfl b2 _ rfl (kL kx) rfl hrg (by simp [Value.oneCell']) (by decide) (by simp) (by simp) ?_; simp only [Act.put, qzG, qzH, qzI]; refine xBq ?_; intro Y1 hY; have gk : Blk Y1 W.heap.size 95 (kL kx).toArray := (by rw [hY]; exact Blk.new _ _ _); have HY1 : Hid (Below W.heap.size W Y1) := (by rw [hY]; exact wa1 _ _); have GK := qzL gk; have x1 : Y1.cell? ⟨bx, 0, none⟩ = some (.pointer (some ⟨b, 0, none⟩)) := (HI.out.e.1.then_ HY1.out).cell 0; have k10 : Y1.cell? ⟨b, 10, none⟩ = some (.slice (some ⟨q.m, 0, none⟩) ms'.length q.mc) := (HWM.out.then_ HY1.out).g.cell 10; have m4 : Y1.cell? ⟨q.m, i * 5 + 4, none⟩ = some (.bool true) := (by rw [← HP.out]; exact ((HWM.out.then_ HY1.out).mark HX2.out).2.2.2.2.1);  clear hY gk))
   gi_step
   gi_step
   (with_reducible refine xAe ?_ ?_ ?_; (focus kernel_rfl); exact nO)
   go_wp2
   gi_wp2
   exact ⟨Kept.of_below HY1.out, HI.out.same HLM.out HK.out HX.out hsame.out HY1.out ⟨HI.out.e.1.then_ HY1.out, HI.out.e.2.1.then_ HY1.out, HI.out.e.2.2.then_ HY1.out⟩⟩
  | false =>
  cases bus with
  | false =>
   have hgo : Hid (¬ (x.runs = false ∨ x.pau = true ∨ (k.bus = true ∧ fr = true))) := by unfold Hid; rw [HXR.out, HP.out, HBUS.out]; simp
   gi_step
   gi_step
   gi_step
   (with_reducible refine xAe ?_ ?_ ?_; (focus kernel_rfl); exact nO)
   go_wp2_with ((refine xAm 95 el16 _ _ _ rfl rfl rfl rfl rfl rfl rfl rfl rfl b2 _ rfl (kL kx) rfl hrg (by simp [Value.oneCell']) (by decide) (by simp) (by simp) ?_; simp only [Act.put, qzG, qzH, qzI]; refine xBq ?_; intro Y1 hY; have gk : Blk Y1 W.heap.size 95 (kL kx).toArray := (by rw [hY]; exact Blk.new _ _ _); have HY1 : Hid (Below W.heap.size W Y1) := (by rw [hY]; exact wa1 _ _); have GK := qzL gk; have x1 : Y1.cell? ⟨bx, 0, none⟩ = some (.pointer (some ⟨b, 0, none⟩)) := (HI.out.e.1.then_ HY1.out).cell 0; have k10 : Y1.cell? ⟨b, 10, none⟩ = some (.slice (some ⟨q.m, 0, none⟩) ms'.length q.mc) := (HWM.out.then_ HY1.out).g.cell 10; have m4 : Y1.cell? ⟨q.m, i * 5 + 4, none⟩ = some (.bool false) := (by rw [← HP.out]; exact ((HWM.out.then_ HY1.out).mark HX2.out).2.2.2.2.1); have c7 : Y1.cell? ⟨W.heap.size, 7, none⟩ = some (.bool false) := (by rw [← HBUS.out, ← hkk]; exact GK.out.cell 7); clear hY gk))
   gi_step
   gi_step
   (with_reducible refine xAe ?_ ?_ ?_; (focus kernel_rfl); exact nO)
   go_wp2
   obtain ⟨mm1, mm2⟩ := ((HWM.out.then_ HY1.out).mark HX2.out).2.1
   gi_step
   gi_step
   gi_step
   go_at_K
   first | (with_reducible refine xAe ?_ ?_ ?_; (focus kernel_rfl); exact nO) | (gi_step; (with_reducible refine xAe ?_ ?_ ?_; (focus kernel_rfl); exact nO)) | (gi_step; gi_step; (with_reducible refine xAe ?_ ?_ ?_; (focus kernel_rfl); exact nO))
   go_wp2
   refine xHr ?_
   intro Z1 hZ1
   have hWZ : Hid (Wk w0 Z1 b c m { s with marks := ms'.set i { x with left := x.left - 1 } } q) := by
    unfold Hid; rw [hZ1]; exact (HWM.out.then_ HY1.out).setM (j := 1) (y := { x with left := x.left - 1 }) HX2.out (by omega) rfl
   have hKZ : Hid (Kept W Z1 (· = q.m)) := by unfold Hid; rw [hZ1]; exact (Kept.of_below HY1.out).setCell rfl
   have uZ : Upd Y1 Z1 q.m := by rw [hZ1]; exact (Upd.refl _ _).setCell _ _
   have GKZ := qzL (GK.out.upd uZ (by have := HWM.out.bnd; omega))
   clear hZ1 uZ x1 k10 m4 mm1 mm2
   have hxs : Hid ((ms'.set i { x with left := x.left - 1 })[i]? = some { x with left := x.left - 1 }) := List.getElem?_set_self hil
   have x1 : Z1.cell? ⟨bx, 0, none⟩ = some (.pointer (some ⟨b, 0, none⟩)) := (HI.out.e.1.kept hKZ.out hne.out.1).cell 0
   have k10 : Z1.cell? ⟨b, 10, none⟩ = some (.slice (some ⟨q.m, 0, none⟩) ms'.length q.mc) := by rw [← show (ms'.set i { x with left := x.left - 1 }).length = ms'.length from List.length_set]; exact hWZ.out.g.cell 10
   have m1 : Z1.cell? ⟨q.m, i * 5 + 1, none⟩ = some (.int .i64 (x.left - 1)) := (hWZ.out.mark hxs.out).2.1.1
   first | (with_reducible refine xAe ?_ ?_ ?_; (focus kernel_rfl); exact nO) | (gi_step; (with_reducible refine xAe ?_ ?_ ?_; (focus kernel_rfl); exact nO)) | (gi_step; gi_step; (with_reducible refine xAe ?_ ?_ ?_; (focus kernel_rfl); exact nO))
   go_wp2
   cases hz : (x.left - 1 == 0) with
   | false =>
    have hfin : Hid ({ x with left := x.left - 1 } = xBd fr k x) := by
     unfold Hid xBd; rw [if_neg hgo.out, if_pos (by simpa using hz)]
    gi_wp2
    exact ⟨hKZ.out, HI.out.next HLM.out HK.out HX.out (by rw [HMS.out]; exact hWZ.out) hfin.out hKZ.out hne.out.2.2.2 ⟨HI.out.e.1.kept hKZ.out hne.out.1, HI.out.e.2.1.kept hKZ.out hne.out.2.1, HI.out.e.2.2.kept hKZ.out hne.out.2.2.1⟩⟩
   | true =>
    have hz0 : Hid (x.left - 1 = 0) := by unfold Hid; simpa using hz
    have hkd := (xDa HOK.out (qzK HK.out)).kd
    have ck : Z1.cell? ⟨W.heap.size, 0, none⟩ = some (.int .i64 k.kind) := by rw [← hkk]; exact GKZ.out.cell 0
    have eB := HI.out.e.2.1.kept hKZ.out hne.out.2.1
    gi_wp2
    clear k10 m1 hz
    rcases hkd with hkd | hkd | hkd | hkd
    ·have hfin : Hid ((if x.st = 1 ∧ 0 < k.grace then ({ st := 2, left := k.grace, got := x.got, brr := x.brr, pau := x.pau } : Mk) else ({ x with left := x.left - 1 } : Mk).endS 4) = xBd fr k x) := by
      unfold Hid xBd; rw [if_neg hgo.out, if_neg (show ¬ (x.left - 1 ≠ 0) by rw [hz0.out]; simp), if_pos hkd]; split <;> rfl
     obtain ⟨yy, hyy⟩ : ∃ y, xBd fr k x = y := ⟨_, rfl⟩
     have HYY := qzL hyy
     rw [hkd] at ck
     have e1 : Z1.cell? ⟨be, 1, none⟩ = some (.func (.func 65) #[] #[]) := eB.cell 1
     clear eB hkd hyy
     have rg0 := cR ck
     have rg1 := cR e1
     have rg2 := cR x1
     refine xAx [] [0, 1, 2, 3, 4, 5] [6] (by kernel_rfl) nO (by kernel_rfl) (by kernel_rfl) pO ?_
     simp only [xAn, qzA, qzB, qzC, qzD, qzE, qzF]
     repeat (go_big_quiet_step (skip))
     refine wpQuiet_nil ?_
     intro U hw2
     have hbU := xAj hw2
     clear hw2 rg0 rg1 rg2
     have hWU := qzL (hWZ.out.then_ hbU)
     have HU := qzL hbU
     have HE : Hid (Calls Tryz.prog 65 #[.pointer (some ⟨b, 0, none⟩), .int .i64 (i : Nat)] U fun e w' => Eff w0 U b c m { s with marks := ms'.set i { x with left := x.left - 1 } } q i yy e w') := by
      have h := xF2 w0 b c m { s with marks := ms'.set i { x with left := x.left - 1 } } q i { x with left := x.left - 1 } k U hWU.out hxs.out HK.out
      rw [hfin.out, HYY.out] at h
      exact h
     go_wp2_with (go_at_call 65; (with_reducible refine HE.out.mono ?_); rintro e w2 ⟨rfl, h1, h2⟩)
     have hK9 : Kept W w2 (· = q.m) := (hKZ.out.trans (Kept.of_below HU.out)).trans h2
     exact ⟨hK9, HI.out.next HLM.out HK.out HX.out (by rw [HMS.out]; simpa using h1) HYY.out.symm hK9 hne.out.2.2.2 ⟨HI.out.e.1.kept hK9 hne.out.1, HI.out.e.2.1.kept hK9 hne.out.2.1, HI.out.e.2.2.kept hK9 hne.out.2.2.1⟩⟩
    ·have hfin : Hid (({ x with left := x.left - 1 } : Mk).endS 3 = xBd fr k x) := by
      unfold Hid xBd; rw [if_neg hgo.out, if_neg (show ¬ (x.left - 1 ≠ 0) by rw [hz0.out]; simp), if_neg (show ¬ k.kind = 1 by omega), if_pos hkd]; rfl
     obtain ⟨yy, hyy⟩ : ∃ y, xBd fr k x = y := ⟨_, rfl⟩
     have HYY := qzL hyy
     rw [hkd] at ck
     have e1 : Z1.cell? ⟨be, 2, none⟩ = some (.func (.func 66) #[] #[]) := eB.cell 2
     clear eB hkd hyy
     have rg0 := cR ck
     have rg1 := cR e1
     have rg2 := cR x1
     refine xAx [] [0, 1, 2, 3, 4, 5] [6] (by kernel_rfl) nO (by kernel_rfl) (by kernel_rfl) pO ?_
     simp only [xAn, qzA, qzB, qzC, qzD, qzE, qzF]
     repeat (go_big_quiet_step (skip))
     refine wpQuiet_nil ?_
     intro U hw2
     have hbU := xAj hw2
     clear hw2 rg0 rg1 rg2
     have hWU := qzL (hWZ.out.then_ hbU)
     have HU := qzL hbU
     have HE : Hid (Calls Tryz.prog 66 #[.pointer (some ⟨b, 0, none⟩), .int .i64 (i : Nat)] U fun e w' => Eff w0 U b c m { s with marks := ms'.set i { x with left := x.left - 1 } } q i yy e w') := by
      have h := xE5 w0 b c m { s with marks := ms'.set i { x with left := x.left - 1 } } q i { x with left := x.left - 1 } U hWU.out hxs.out
      rw [hfin.out, HYY.out] at h
      exact h
     go_wp2_with (go_at_call 66; (with_reducible refine HE.out.mono ?_); rintro e w2 ⟨rfl, h1, h2⟩)
     have hK9 : Kept W w2 (· = q.m) := (hKZ.out.trans (Kept.of_below HU.out)).trans h2
     exact ⟨hK9, HI.out.next HLM.out HK.out HX.out (by rw [HMS.out]; simpa using h1) HYY.out.symm hK9 hne.out.2.2.2 ⟨HI.out.e.1.kept hK9 hne.out.1, HI.out.e.2.1.kept hK9 hne.out.2.1, HI.out.e.2.2.kept hK9 hne.out.2.2.1⟩⟩
    ·have hfin : Hid (({ x with left := x.left - 1 } : Mk).endS 5 = xBd fr k x) := by
      unfold Hid xBd; rw [if_neg hgo.out, if_neg (show ¬ (x.left - 1 ≠ 0) by rw [hz0.out]; simp), if_neg (show ¬ k.kind = 1 by omega), if_neg (show ¬ k.kind = 2 by omega)]; rfl
     obtain ⟨yy, hyy⟩ : ∃ y, xBd fr k x = y := ⟨_, rfl⟩
     have HYY := qzL hyy
     rw [hkd] at ck
     have e1 : Z1.cell? ⟨be, 3, none⟩ = some (.func (.func 67) #[] #[]) := eB.cell 3
     clear eB hkd hyy
     have rg0 := cR ck
     have rg1 := cR e1
     have rg2 := cR x1
     refine xAx [] [0, 1, 2, 3, 4, 5] [6] (by kernel_rfl) nO (by kernel_rfl) (by kernel_rfl) pO ?_
     simp only [xAn, qzA, qzB, qzC, qzD, qzE, qzF]
     repeat (go_big_quiet_step (skip))
     refine wpQuiet_nil ?_
     intro U hw2
     have hbU := xAj hw2
     clear hw2 rg0 rg1 rg2
     have hWU := qzL (hWZ.out.then_ hbU)
     have HU := qzL hbU
     have HE : Hid (Calls Tryz.prog 67 #[.pointer (some ⟨b, 0, none⟩), .int .i64 (i : Nat)] U fun e w' => Eff w0 U b c m { s with marks := ms'.set i { x with left := x.left - 1 } } q i yy e w') := by
      have h := xEn w0 b c m { s with marks := ms'.set i { x with left := x.left - 1 } } q i { x with left := x.left - 1 } U hWU.out hxs.out
      rw [hfin.out, HYY.out] at h
      exact h
     go_wp2_with (go_at_call 67; (with_reducible refine HE.out.mono ?_); rintro e w2 ⟨rfl, h1, h2⟩)
     have hK9 : Kept W w2 (· = q.m) := (hKZ.out.trans (Kept.of_below HU.out)).trans h2
     exact ⟨hK9, HI.out.next HLM.out HK.out HX.out (by rw [HMS.out]; simpa using h1) HYY.out.symm hK9 hne.out.2.2.2 ⟨HI.out.e.1.kept hK9 hne.out.1, HI.out.e.2.1.kept hK9 hne.out.2.1, HI.out.e.2.2.kept hK9 hne.out.2.2.1⟩⟩
    ·have hfin : Hid (({ x with left := x.left - 1 } : Mk).endS 5 = xBd fr k x) := by
      unfold Hid xBd; rw [if_neg hgo.out, if_neg (show ¬ (x.left - 1 ≠ 0) by rw [hz0.out]; simp), if_neg (show ¬ k.kind = 1 by omega), if_neg (show ¬ k.kind = 2 by omega)]; rfl
     obtain ⟨yy, hyy⟩ : ∃ y, xBd fr k x = y := ⟨_, rfl⟩
     have HYY := qzL hyy
     rw [hkd] at ck
     have e1 : Z1.cell? ⟨be, 4, none⟩ = some (.func (.func 67) #[] #[]) := eB.cell 4
     clear eB hkd hyy
     have rg0 := cR ck
     have rg1 := cR e1
     have rg2 := cR x1
     refine xAx [] [0, 1, 2, 3, 4, 5] [6] (by kernel_rfl) nO (by kernel_rfl) (by kernel_rfl) pO ?_
     simp only [xAn, qzA, qzB, qzC, qzD, qzE, qzF]
     repeat (go_big_quiet_step (skip))
     refine wpQuiet_nil ?_
     intro U hw2
     have hbU := xAj hw2
     clear hw2 rg0 rg1 rg2
     have hWU := qzL (hWZ.out.then_ hbU)
     have HU := qzL hbU
     have HE : Hid (Calls Tryz.prog 67 #[.pointer (some ⟨b, 0, none⟩), .int .i64 (i : Nat)] U fun e w' => Eff w0 U b c m { s with marks := ms'.set i { x with left := x.left - 1 } } q i yy e w') := by
      have h := xEn w0 b c m { s with marks := ms'.set i { x with left := x.left - 1 } } q i { x with left := x.left - 1 } U hWU.out hxs.out
      rw [hfin.out, HYY.out] at h
      exact h
     go_wp2_with (go_at_call 67; (with_reducible refine HE.out.mono ?_); rintro e w2 ⟨rfl, h1, h2⟩)
     have hK9 : Kept W w2 (· = q.m) := (hKZ.out.trans (Kept.of_below HU.out)).trans h2
     exact ⟨hK9, HI.out.next HLM.out HK.out HX.out (by rw [HMS.out]; simpa using h1) HYY.out.symm hK9 hne.out.2.2.2 ⟨HI.out.e.1.kept hK9 hne.out.1, HI.out.e.2.1.kept hK9 hne.out.2.1, HI.out.e.2.2.kept hK9 hne.out.2.2.1⟩⟩
  | true =>
  cases fr with
  | true =>
   have hsame : Hid (xBd true k x = x) := by unfold Hid xBd; rw [if_pos (.inr (.inr ⟨HBUS.out, rfl⟩))]
   gi_step
   gi_step
   gi_step
   (with_reducible refine xAe ?_ ?_ ?_; (focus kernel_rfl); exact nO)
   go_wp2_with ((refine xAm 95 el16 _ _ _ rfl rfl rfl rfl rfl rfl rfl rfl rfl b2 _ rfl (kL kx) rfl hrg (by simp [Value.oneCell']) (by decide) (by simp) (by simp) ?_; simp only [Act.put, qzG, qzH, qzI]; refine xBq ?_; intro Y1 hY; have gk : Blk Y1 W.heap.size 95 (kL kx).toArray := (by rw [hY]; exact Blk.new _ _ _); have HY1 : Hid (Below W.heap.size W Y1) := (by rw [hY]; exact wa1 _ _); have GK := qzL gk; have x1 : Y1.cell? ⟨bx, 0, none⟩ = some (.pointer (some ⟨b, 0, none⟩)) := (HI.out.e.1.then_ HY1.out).cell 0; have k10 : Y1.cell? ⟨b, 10, none⟩ = some (.slice (some ⟨q.m, 0, none⟩) ms'.length q.mc) := (HWM.out.then_ HY1.out).g.cell 10; have m4 : Y1.cell? ⟨q.m, i * 5 + 4, none⟩ = some (.bool false) := (by rw [← HP.out]; exact ((HWM.out.then_ HY1.out).mark HX2.out).2.2.2.2.1); have c7 : Y1.cell? ⟨W.heap.size, 7, none⟩ = some (.bool true) := (by rw [← HBUS.out, ← hkk]; exact GK.out.cell 7); have cfr : Y1.cell? ⟨bf, 0, none⟩ = some (.bool true) := (HI.out.e.2.2.then_ HY1.out).cell 0; clear hY gk))
   gi_step
   gi_step
   (with_reducible refine xAe ?_ ?_ ?_; (focus kernel_rfl); exact nO)
   go_wp2
   gi_wp2
   exact ⟨Kept.of_below HY1.out, HI.out.same HLM.out HK.out HX.out hsame.out HY1.out ⟨HI.out.e.1.then_ HY1.out, HI.out.e.2.1.then_ HY1.out, HI.out.e.2.2.then_ HY1.out⟩⟩
  | false =>
   have hgo : Hid (¬ (x.runs = false ∨ x.pau = true ∨ (k.bus = true ∧ false = true))) := by unfold Hid; rw [HXR.out, HP.out, HBUS.out]; simp
   gi_step
   gi_step
   gi_step
   (with_reducible refine xAe ?_ ?_ ?_; (focus kernel_rfl); exact nO)
   go_wp2_with ((refine xAm 95 el16 _ _ _ rfl rfl rfl rfl rfl rfl rfl rfl rfl b2 _ rfl (kL kx) rfl hrg (by simp [Value.oneCell']) (by decide) (by simp) (by simp) ?_; simp only [Act.put, qzG, qzH, qzI]; refine xBq ?_; intro Y1 hY; have gk : Blk Y1 W.heap.size 95 (kL kx).toArray := (by rw [hY]; exact Blk.new _ _ _); have HY1 : Hid (Below W.heap.size W Y1) := (by rw [hY]; exact wa1 _ _); have GK := qzL gk; have x1 : Y1.cell? ⟨bx, 0, none⟩ = some (.pointer (some ⟨b, 0, none⟩)) := (HI.out.e.1.then_ HY1.out).cell 0; have k10 : Y1.cell? ⟨b, 10, none⟩ = some (.slice (some ⟨q.m, 0, none⟩) ms'.length q.mc) := (HWM.out.then_ HY1.out).g.cell 10; have m4 : Y1.cell? ⟨q.m, i * 5 + 4, none⟩ = some (.bool false) := (by rw [← HP.out]; exact ((HWM.out.then_ HY1.out).mark HX2.out).2.2.2.2.1); have c7 : Y1.cell? ⟨W.heap.size, 7, none⟩ = some (.bool true) := (by rw [← HBUS.out, ← hkk]; exact GK.out.cell 7); have cfr : Y1.cell? ⟨bf, 0, none⟩ = some (.bool false) := (HI.out.e.2.2.then_ HY1.out).cell 0; clear hY gk))
   gi_step
   gi_step
   (with_reducible refine xAe ?_ ?_ ?_; (focus kernel_rfl); exact nO)
   go_wp2
   obtain ⟨mm1, mm2⟩ := ((HWM.out.then_ HY1.out).mark HX2.out).2.1
   gi_step
   gi_step
   gi_step
   go_at_K
   first | (with_reducible refine xAe ?_ ?_ ?_; (focus kernel_rfl); exact nO) | (gi_step; (with_reducible refine xAe ?_ ?_ ?_; (focus kernel_rfl); exact nO)) | (gi_step; gi_step; (with_reducible refine xAe ?_ ?_ ?_; (focus kernel_rfl); exact nO))
   go_wp2
   refine xHr ?_
   intro Z1 hZ1
   have hWZ : Hid (Wk w0 Z1 b c m { s with marks := ms'.set i { x with left := x.left - 1 } } q) := by
    unfold Hid; rw [hZ1]; exact (HWM.out.then_ HY1.out).setM (j := 1) (y := { x with left := x.left - 1 }) HX2.out (by omega) rfl
   have hKZ : Hid (Kept W Z1 (· = q.m)) := by unfold Hid; rw [hZ1]; exact (Kept.of_below HY1.out).setCell rfl
   have uZ : Upd Y1 Z1 q.m := by rw [hZ1]; exact (Upd.refl _ _).setCell _ _
   have GKZ := qzL (GK.out.upd uZ (by have := HWM.out.bnd; omega))
   clear hZ1 uZ x1 k10 m4 mm1 mm2
   have hxs : Hid ((ms'.set i { x with left := x.left - 1 })[i]? = some { x with left := x.left - 1 }) := List.getElem?_set_self hil
   have x1 : Z1.cell? ⟨bx, 0, none⟩ = some (.pointer (some ⟨b, 0, none⟩)) := (HI.out.e.1.kept hKZ.out hne.out.1).cell 0
   have k10 : Z1.cell? ⟨b, 10, none⟩ = some (.slice (some ⟨q.m, 0, none⟩) ms'.length q.mc) := by rw [← show (ms'.set i { x with left := x.left - 1 }).length = ms'.length from List.length_set]; exact hWZ.out.g.cell 10
   have m1 : Z1.cell? ⟨q.m, i * 5 + 1, none⟩ = some (.int .i64 (x.left - 1)) := (hWZ.out.mark hxs.out).2.1.1
   first | (with_reducible refine xAe ?_ ?_ ?_; (focus kernel_rfl); exact nO) | (gi_step; (with_reducible refine xAe ?_ ?_ ?_; (focus kernel_rfl); exact nO)) | (gi_step; gi_step; (with_reducible refine xAe ?_ ?_ ?_; (focus kernel_rfl); exact nO))
   go_wp2
   cases hz : (x.left - 1 == 0) with
   | false =>
    have hfin : Hid ({ x with left := x.left - 1 } = xBd false k x) := by
     unfold Hid xBd; rw [if_neg hgo.out, if_pos (by simpa using hz)]
    gi_wp2
    exact ⟨hKZ.out, HI.out.next HLM.out HK.out HX.out (by rw [HMS.out]; exact hWZ.out) hfin.out hKZ.out hne.out.2.2.2 ⟨HI.out.e.1.kept hKZ.out hne.out.1, HI.out.e.2.1.kept hKZ.out hne.out.2.1, HI.out.e.2.2.kept hKZ.out hne.out.2.2.1⟩⟩
   | true =>
    have hz0 : Hid (x.left - 1 = 0) := by unfold Hid; simpa using hz
    have hkd := (xDa HOK.out (qzK HK.out)).kd
    have ck : Z1.cell? ⟨W.heap.size, 0, none⟩ = some (.int .i64 k.kind) := by rw [← hkk]; exact GKZ.out.cell 0
    have eB := HI.out.e.2.1.kept hKZ.out hne.out.2.1
    gi_wp2
    clear k10 m1 hz
    rcases hkd with hkd | hkd | hkd | hkd
    ·have hfin : Hid ((if x.st = 1 ∧ 0 < k.grace then ({ st := 2, left := k.grace, got := x.got, brr := x.brr, pau := x.pau } : Mk) else ({ x with left := x.left - 1 } : Mk).endS 4) = xBd false k x) := by
      unfold Hid xBd; rw [if_neg hgo.out, if_neg (show ¬ (x.left - 1 ≠ 0) by rw [hz0.out]; simp), if_pos hkd]; split <;> rfl
     obtain ⟨yy, hyy⟩ : ∃ y, xBd false k x = y := ⟨_, rfl⟩
     have HYY := qzL hyy
     rw [hkd] at ck
     have e1 : Z1.cell? ⟨be, 1, none⟩ = some (.func (.func 65) #[] #[]) := eB.cell 1
     clear eB hkd hyy
     have rg0 := cR ck
     have rg1 := cR e1
     have rg2 := cR x1
     refine xAx [] [0, 1, 2, 3, 4, 5] [6] (by kernel_rfl) nO (by kernel_rfl) (by kernel_rfl) pO ?_
     simp only [xAn, qzA, qzB, qzC, qzD, qzE, qzF]
     repeat (go_big_quiet_step (skip))
     refine wpQuiet_nil ?_
     intro U hw2
     have hbU := xAj hw2
     clear hw2 rg0 rg1 rg2
     have hWU := qzL (hWZ.out.then_ hbU)
     have HU := qzL hbU
     have HE : Hid (Calls Tryz.prog 65 #[.pointer (some ⟨b, 0, none⟩), .int .i64 (i : Nat)] U fun e w' => Eff w0 U b c m { s with marks := ms'.set i { x with left := x.left - 1 } } q i yy e w') := by
      have h := xF2 w0 b c m { s with marks := ms'.set i { x with left := x.left - 1 } } q i { x with left := x.left - 1 } k U hWU.out hxs.out HK.out
      rw [hfin.out, HYY.out] at h
      exact h
     go_wp2_with (go_at_call 65; (with_reducible refine HE.out.mono ?_); rintro e w2 ⟨rfl, h1, h2⟩)
     have hK9 : Kept W w2 (· = q.m) := (hKZ.out.trans (Kept.of_below HU.out)).trans h2
     exact ⟨hK9, HI.out.next HLM.out HK.out HX.out (by rw [HMS.out]; simpa using h1) HYY.out.symm hK9 hne.out.2.2.2 ⟨HI.out.e.1.kept hK9 hne.out.1, HI.out.e.2.1.kept hK9 hne.out.2.1, HI.out.e.2.2.kept hK9 hne.out.2.2.1⟩⟩
    ·have hfin : Hid (({ x with left := x.left - 1 } : Mk).endS 3 = xBd false k x) := by
      unfold Hid xBd; rw [if_neg hgo.out, if_neg (show ¬ (x.left - 1 ≠ 0) by rw [hz0.out]; simp), if_neg (show ¬ k.kind = 1 by omega), if_pos hkd]; rfl
     obtain ⟨yy, hyy⟩ : ∃ y, xBd false k x = y := ⟨_, rfl⟩
     have HYY := qzL hyy
     rw [hkd] at ck
     have e1 : Z1.cell? ⟨be, 2, none⟩ = some (.func (.func 66) #[] #[]) := eB.cell 2
     clear eB hkd hyy
     have rg0 := cR ck
     have rg1 := cR e1
     have rg2 := cR x1
     refine xAx [] [0, 1, 2, 3, 4, 5] [6] (by kernel_rfl) nO (by kernel_rfl) (by kernel_rfl) pO ?_
     simp only [xAn, qzA, qzB, qzC, qzD, qzE, qzF]
     repeat (go_big_quiet_step (skip))
     refine wpQuiet_nil ?_
     intro U hw2
     have hbU := xAj hw2
     clear hw2 rg0 rg1 rg2
     have hWU := qzL (hWZ.out.then_ hbU)
     have HU := qzL hbU
     have HE : Hid (Calls Tryz.prog 66 #[.pointer (some ⟨b, 0, none⟩), .int .i64 (i : Nat)] U fun e w' => Eff w0 U b c m { s with marks := ms'.set i { x with left := x.left - 1 } } q i yy e w') := by
      have h := xE5 w0 b c m { s with marks := ms'.set i { x with left := x.left - 1 } } q i { x with left := x.left - 1 } U hWU.out hxs.out
      rw [hfin.out, HYY.out] at h
      exact h
     go_wp2_with (go_at_call 66; (with_reducible refine HE.out.mono ?_); rintro e w2 ⟨rfl, h1, h2⟩)
     have hK9 : Kept W w2 (· = q.m) := (hKZ.out.trans (Kept.of_below HU.out)).trans h2
     exact ⟨hK9, HI.out.next HLM.out HK.out HX.out (by rw [HMS.out]; simpa using h1) HYY.out.symm hK9 hne.out.2.2.2 ⟨HI.out.e.1.kept hK9 hne.out.1, HI.out.e.2.1.kept hK9 hne.out.2.1, HI.out.e.2.2.kept hK9 hne.out.2.2.1⟩⟩
    ·have hfin : Hid (({ x with left := x.left - 1 } : Mk).endS 5 = xBd false k x) := by
      unfold Hid xBd; rw [if_neg hgo.out, if_neg (show ¬ (x.left - 1 ≠ 0) by rw [hz0.out]; simp), if_neg (show ¬ k.kind = 1 by omega), if_neg (show ¬ k.kind = 2 by omega)]; rfl
     obtain ⟨yy, hyy⟩ : ∃ y, xBd false k x = y := ⟨_, rfl⟩
     have HYY := qzL hyy
     rw [hkd] at ck
     have e1 : Z1.cell? ⟨be, 3, none⟩ = some (.func (.func 67) #[] #[]) := eB.cell 3
     clear eB hkd hyy
     have rg0 := cR ck
     have rg1 := cR e1
     have rg2 := cR x1
     refine xAx [] [0, 1, 2, 3, 4, 5] [6] (by kernel_rfl) nO (by kernel_rfl) (by kernel_rfl) pO ?_
     simp only [xAn, qzA, qzB, qzC, qzD, qzE, qzF]
     repeat (go_big_quiet_step (skip))
     refine wpQuiet_nil ?_
     intro U hw2
     have hbU := xAj hw2
     clear hw2 rg0 rg1 rg2
     have hWU := qzL (hWZ.out.then_ hbU)
     have HU := qzL hbU
     have HE : Hid (Calls Tryz.prog 67 #[.pointer (some ⟨b, 0, none⟩), .int .i64 (i : Nat)] U fun e w' => Eff w0 U b c m { s with marks := ms'.set i { x with left := x.left - 1 } } q i yy e w') := by
      have h := xEn w0 b c m { s with marks := ms'.set i { x with left := x.left - 1 } } q i { x with left := x.left - 1 } U hWU.out hxs.out
      rw [hfin.out, HYY.out] at h
      exact h
     go_wp2_with (go_at_call 67; (with_reducible refine HE.out.mono ?_); rintro e w2 ⟨rfl, h1, h2⟩)
     have hK9 : Kept W w2 (· = q.m) := (hKZ.out.trans (Kept.of_below HU.out)).trans h2
     exact ⟨hK9, HI.out.next HLM.out HK.out HX.out (by rw [HMS.out]; simpa using h1) HYY.out.symm hK9 hne.out.2.2.2 ⟨HI.out.e.1.kept hK9 hne.out.1, HI.out.e.2.1.kept hK9 hne.out.2.1, HI.out.e.2.2.kept hK9 hne.out.2.2.1⟩⟩
    ·have hfin : Hid (({ x with left := x.left - 1 } : Mk).endS 5 = xBd false k x) := by
      unfold Hid xBd; rw [if_neg hgo.out, if_neg (show ¬ (x.left - 1 ≠ 0) by rw [hz0.out]; simp), if_neg (show ¬ k.kind = 1 by omega), if_neg (show ¬ k.kind = 2 by omega)]; rfl
     obtain ⟨yy, hyy⟩ : ∃ y, xBd false k x = y := ⟨_, rfl⟩
     have HYY := qzL hyy
     rw [hkd] at ck
     have e1 : Z1.cell? ⟨be, 4, none⟩ = some (.func (.func 67) #[] #[]) := eB.cell 4
     clear eB hkd hyy
     have rg0 := cR ck
     have rg1 := cR e1
     have rg2 := cR x1
     refine xAx [] [0, 1, 2, 3, 4, 5] [6] (by kernel_rfl) nO (by kernel_rfl) (by kernel_rfl) pO ?_
     simp only [xAn, qzA, qzB, qzC, qzD, qzE, qzF]
     repeat (go_big_quiet_step (skip))
     refine wpQuiet_nil ?_
     intro U hw2
     have hbU := xAj hw2
     clear hw2 rg0 rg1 rg2
     have hWU := qzL (hWZ.out.then_ hbU)
     have HU := qzL hbU
     have HE : Hid (Calls Tryz.prog 67 #[.pointer (some ⟨b, 0, none⟩), .int .i64 (i : Nat)] U fun e w' => Eff w0 U b c m { s with marks := ms'.set i { x with left := x.left - 1 } } q i yy e w') := by
      have h := xEn w0 b c m { s with marks := ms'.set i { x with left := x.left - 1 } } q i { x with left := x.left - 1 } U hWU.out hxs.out
      rw [hfin.out, HYY.out] at h
      exact h
     go_wp2_with (go_at_call 67; (with_reducible refine HE.out.mono ?_); rintro e w2 ⟨rfl, h1, h2⟩)
     have hK9 : Kept W w2 (· = q.m) := (hKZ.out.trans (Kept.of_below HU.out)).trans h2
     exact ⟨hK9, HI.out.next HLM.out HK.out HX.out (by rw [HMS.out]; simpa using h1) HYY.out.symm hK9 hne.out.2.2.2 ⟨HI.out.e.1.kept hK9 hne.out.1, HI.out.e.2.1.kept hK9 hne.out.2.1, HI.out.e.2.2.kept hK9 hne.out.2.2.1⟩⟩
 ·intro D W hD hI hK
  have nd := hd
  have hu0 := hI.wk
  have hWD : Hid (Wk w0 W b c m { s with marks := List.zipWith (xBd fr) c.cl s.marks } q) := by unfold Hid; rw [← xEj (f := xBd fr) hW1.out.lm]; exact hI.wk
  have hDb : Hid (b < D ∧ q.h < D ∧ q.u < D ∧ q.m < D) := by have := hW1.out.bnd; unfold Hid; omega
  have hKD := qzL hI.k
  have gxD := hI.x
  have geD := hI.e.1
  have hxb : Hid (w.heap.size ≤ D) := by have := hK1.out.size; unfold Hid; omega
  have hDl := (Array.getElem?_eq_some_iff.1 hK).1
  have HKD := qzL hK
  have x0 : W.cell? ⟨bx, 0, none⟩ = some (.pointer (some ⟨b, 0, none⟩)) := geD.cell 0
  have k7 : W.cell? ⟨b, 7, none⟩ = some (.int .i64 s.day) := hWD.out.g.cell 7
  have f7 : W.frozen? ⟨b, 7, none⟩ = false := hWD.out.g.frozen 7
  clear hu0 hI hK gxD
  go_upto_region 11 with (fail)
  refine xAi ?_
  intro U hU
  have hWU : Hid (Wk w0 U b c m { s with day := s.day + 1, marks := List.zipWith (xBd fr) c.cl s.marks } q) := by unfold Hid; rw [hU]; exact hWD.out.setDay (s.day + 1)
  have uU : Upd W U b := by rw [hU]; exact (Upd.refl _ _).setCell _ _
  have geU := geD.upd uU hneb.out.1
  have hKU : Hid (U.heap[D]? = some (.deferred (some []))) := (uU.f D (by have := hDb.out; omega)).trans HKD.out
  have hKpU : Hid (Kept w U (fun x => x = b ∨ x = q.m)) := (hK1.out.trans (hKD.out.weak (fun x h => .inr h))).trans (Kept.of_upd uU (.inl rfl))
  have hUs : U.heap.size = W.heap.size := uU.s
  clear hU uU x0 k7 f7 geD hWD HKD
  have x0 : U.cell? ⟨bx, 0, none⟩ = some (.pointer (some ⟨b, 0, none⟩)) := geU.cell 0
  have HS := qzL (xEc w0 b c m { s with day := s.day + 1, marks := List.zipWith (xBd fr) c.cl s.marks } q U hWU.out HOK.out HL.out)
  go_wp2_with (go_at_call 46; (with_reducible refine HS.out.mono ?_); rintro e w2 ⟨rfl, h1, h2⟩)
  have hK2 : w2.heap[D]? = some (.deferred (some [])) := (h2.k D (by omega) (by have := hDb.out; omega)).trans hKU.out
  refine xEf (xHz hK2 (xH0 rfl ?_))
  have hu := Upd.putObj (.deferred none) (Array.getElem?_eq_some_iff.1 hK2).1
  have hW9 := h1.belowN (hu.b D (Nat.le_refl _)) hDb.out (by have := HW.out.hb.size; have := hxb.out; omega)
  have he : s.tick c = { s with day := s.day + 1, marks := xAs c s.hol (List.zipWith (xBd fr) c.cl s.marks) } := by
   unfold Sta.tick
   rw [← show decide (s.day ∈ c.off) = fr from by rw [← HFE.out]; simp]
  rw [he]
  exact ⟨rfl, hW9, (hKpU.out.trans (h2.weak fun x h => .inr h)).thenB (hu.b _ hxb.out)⟩
theorem doer_any (c : Con) (m : Cm) (s : Sta) (q : Qm) (n : Nat) (a : Atc) (w : World) (hC : Cont w c m) (hS : Stm w s q) (ha : c.ac[n]? = some a) (hr : a.role = -1 ∨ (0 ≤ a.role ∧ a.role < (s.hol.length : Int))) :
  Calls Tryz.prog 72 #[.agg (coA c m), .agg (stA s q), .int .i64 (n : Nat)] w fun e w' => e = .returned (.int .i64 (xA9 a s.hol)) ∧ Below w.heap.size w w' := by
 obtain ⟨R, hR⟩ : ∃ r, xA9 a s.hol = r := ⟨_, rfl⟩
 rw [hR]
 have HR := qzL hR
 clear hR
 have hna : n < c.ac.length := (qzM ha).1
 have na := hC.na
 have nh := hS.nh
 obtain ⟨b0, o0, eA0, hb0, hc0⟩ := xAv hC.a ha
 have hix0 := fun W => xAp (t := 24) (size := 7) (cap := m.ac) eA0 hna (by kernel_rfl) (fun W => by kernel_rfl) W
 have d1 : w.cell? ⟨b0, o0 + n * 7 + 1, none⟩ = some (.int .i64 a.role) := hc0 1 _ rfl
 have HS := qzL hS
 clear hC hS ha hc0 eA0
 cases t1 : (a.role == -1) with
 | true =>
  have hf : Hid (R = -1) := by unfold Hid; rw [← HR.out]; unfold xA9; rw [if_pos (by simpa using t1)]
  clear hr HS
  go_enter Tryz.func72, Tryz.ntmps72
  go_upto_region 1 with (fail)
  refine xAi ?_
  intro X hX
  have ga : Blk X w.heap.size 27 (coA c m) := by rw [hX]; exact (xA0 (by simp)).alloc _
  have HB : Below w.heap.size w X := by rw [hX]; (repeat (first | exact Below.refl _ _ | refine xAc ?_ _))
  have x1 := (HB.cell (p := ⟨b0, o0 + n * 7 + 1, none⟩) hb0).trans d1
  clear hX d1
  have k3 : X.cell? ⟨w.heap.size, 3, none⟩ = some (.slice m.a c.ac.length m.ac) := ga.cell 3
  go_wp2
  go_ret
  exact ⟨xCc hf.out.symm, HB⟩
 | false =>
  have h1 : a.role ≠ -1 := by simpa using t1
  obtain ⟨r, hrr⟩ : ∃ r : Nat, a.role = (r : Int) := ⟨a.role.toNat, by omega⟩
  have hrl : r < s.hol.length := by omega
  obtain ⟨hv, hhv⟩ : ∃ v, s.hol[r]? = some v := ⟨_, qzJ hrl⟩
  have hf : Hid (R = hv) := by unfold Hid; rw [← HR.out]; unfold xA9 xCa; rw [if_neg h1, hrr, Int.toNat_natCast, List.getD_eq_getElem?_getD, hhv]; rfl
  obtain ⟨b1, o1, eA1, hb1, hc1⟩ := xAv HS.out.h hhv
  have hix1 := fun W => xAp (t := 22) (size := 1) (cap := q.hc) eA1 hrl (by kernel_rfl) (fun W => by kernel_rfl) W
  have d2 : w.cell? ⟨b1, o1 + r, none⟩ = some (.int .i64 hv) := by simpa using hc1 0 _ rfl
  simp only [Nat.mul_one] at hix1
  rw [hrr] at d1 t1
  clear h1 hr hrr hhv hc1 eA1 HS
  go_enter Tryz.func72, Tryz.ntmps72
  go_upto_region 1 with (fail)
  refine xAi ?_
  intro X hX
  have ga : Blk X w.heap.size 27 (coA c m) := by rw [hX]; exact (xA0 (by simp)).alloc _
  have gs : Blk X (w.heap.size + 1) 47 (stA s q) := by rw [hX]; exact xA0 (by simp)
  have HB : Below w.heap.size w X := by rw [hX]; (repeat (first | exact Below.refl _ _ | refine xAc ?_ _))
  have x1 := (HB.cell (p := ⟨b0, o0 + n * 7 + 1, none⟩) hb0).trans d1
  have x2 := (HB.cell (p := ⟨b1, o1 + r, none⟩) hb1).trans d2
  clear hX d1 d2
  have k3 : X.cell? ⟨w.heap.size, 3, none⟩ = some (.slice m.a c.ac.length m.ac) := ga.cell 3
  have s1 : X.cell? ⟨w.heap.size + 1, 1, none⟩ = some (.slice q.h s.hol.length q.hc) := gs.cell 1
  go_upto_region 3 with (fail)
  have rg0 := cR x1
  have rg1 := cR x2
  have rg2 := cR k3
  have rg3 := cR s1
  refine xAg [0, 1, 2, 3, 4, 5, 6, 7, 8, 9] [10] (by kernel_rfl) (by kernel_rfl) pO ?_
  simp only [xAn, qzA, qzB, qzC, qzD, qzE, qzF]
  repeat (go_big_quiet_step (skip))
  refine wpQuiet_nil ?_
  intro Y hw2
  have hbY := xAj hw2
  clear hw2 rg0 rg1 rg2 rg3
  go_wp2
  go_ret
  exact ⟨xCc hf.out.symm, xAa HB hbY⟩
end Go.Proofs.YtffceokjeonpcaaGreatDoor
