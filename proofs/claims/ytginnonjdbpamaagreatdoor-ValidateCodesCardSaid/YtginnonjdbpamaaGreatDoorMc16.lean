/- Contracts of functions and plain laws, joined: Sg. -/
import Derived.Test.YtginnonjdbpamaaGreatDoorMc15
/- The walk of the method act. -/
import Derived.Test.YtginnonjdbpamaaGreatDoorMc1
set_option maxHeartbeats 12800000
set_option maxRecDepth 100000
namespace Go.Proofs.YtginnonjdbpamaaGreatDoor
open Go.RowKit
attribute [local go_sem] Oper.semAt_some
theorem xI0 (n : Int) (k : Cla) (x : Mk) (h : x.runs = false) : xA4 n k x = x := by unfold xA4; rw [if_pos h]
theorem xJa (n d : Int) (k : Cla) (x : Mk) (h : x.runs = false) : xA0 n d k x = x := by unfold xA0; rw [if_pos (.inl h)]
theorem pause1_got (n : Int) (k : Cla) (x : Mk) : (xA4 n k x).got = x.got := by
 unfold xA4
 repeat' split
 all_goals rfl
theorem pause1_run (n : Int) (k : Cla) (x : Mk) : (xA4 n k x).runs = x.runs := by
 unfold xA4
 repeat' split
 all_goals rfl
abbrev effA : List Value := [.nilFunc, .func (.func 78) #[] #[], .func (.func 79) #[] #[], .func (.func 75) #[] #[], .func (.func 75) #[] #[]]
theorem zip_got {n : Int} {cl : List Cla} {ms : List Mk} {P : Mk → Prop} (hP : ∀ k x, P x → P (xA4 n k x)) (h : ∀ x ∈ ms, P x) : ∀ x ∈ List.zipWith (xA4 n) cl ms, P x := by
 intro x hx
 obtain ⟨i, hi⟩ := List.getElem?_of_mem hx
 rw [List.getElem?_zipWith] at hi
 cases hk : cl[i]? with
 | none => rw [hk] at hi; simp at hi
 | some k =>
  cases hy : ms[i]? with
  | none => rw [hk, hy] at hi; simp at hi
  | some y =>
   rw [hk, hy] at hi
   simp only [Option.some.injEq] at hi
   rw [← hi]
   exact hP k y (h y (qzK hy))
theorem wact_any (w0 : World) (b : Nat) (c : Con) (m : Cm) (s : Sta) (q : Qn) (n : Nat) (a : Atc) (w : World) (hW : Wk w0 w b c m s q) (hok : c.ok = true) (hl : s.hol.length = c.hold.length) (hul : s.used.length = c.ac.length) (ha : c.ac[n]? = some a) (hg : ∀ x ∈ s.marks, x.runs = true → 0 ≤ x.got ∧ x.got ≤ 9) :
  Calls Tryz.prog 55 #[.pointer (some ⟨b, 0, none⟩), .int .i64 (n : Nat)] w fun e w' => e = .returned (.tuple #[]) ∧ Wk w0 w' b c m (s.act c n) q ∧ Kept w w' (pS q) := by
 have hna : n < c.ac.length := (qzM ha).1
 have hnu : n < s.used.length := by omega
 obtain ⟨uv, huv⟩ : ∃ v, s.used[n]? = some v := ⟨_, qzJ hnu⟩
 have hact : s.act c n = (if a.kind ≠ 1 ∧ uv = true then s else
   if a.kind = 1 then { s with marks := xAs c s.hol (List.zipWith (xA0 n (xA7 a s.hol)) c.cl (List.zipWith (xA4 n) c.cl s.marks)) }
   else { s with hol := s.hol.set a.give.toNat a.to_, used := s.used.set n true, marks := xAs c (s.hol.set a.give.toNat a.to_) (if a.kind = 3 then List.zipWith (xBc a) c.cl (List.zipWith (xA0 n (xA7 a s.hol)) c.cl (List.zipWith (xA4 n) c.cl s.marks)) else List.zipWith (xA0 n (xA7 a s.hol)) c.cl (List.zipWith (xA4 n) c.cl s.marks)) }) := by
  unfold Sta.act
  rw [ha]
  simp only [List.getD_eq_getElem?_getD, huv, Option.getD_some]
 obtain ⟨R, hR⟩ : ∃ r, s.act c n = r := ⟨_, rfl⟩
 rw [hR] at hact ⊢
 have HACT := qzL hact
 have hao := ok_act hok (qzK ha)
 obtain ⟨b0, o0, eA0, hb0, hc0⟩ := xAx hW.cont.a ha
 have hix0 := fun W => xAq (t := 24) (size := 7) (cap := m.ac) eA0 hna (by kernel_rfl) (fun W => by kernel_rfl) W
 have hix2 := fun W => xAy (t := 40) (size := 1) (g := q.u) (cap := q.uc) hnu (by kernel_rfl) (fun W => by kernel_rfl) W
 simp only [Nat.mul_one] at hix2
 have na := hW.cn.na
 have nh := hW.nh
 have nu := hW.nu
 have d0 : w.cell? ⟨b0, o0 + n * 7, none⟩ = some (.int .i64 a.kind) := hc0 0 _ rfl
 have d1 : w.cell? ⟨b0, o0 + n * 7 + 1, none⟩ = some (.int .i64 a.role) := hc0 1 _ rfl
 have d2 : w.cell? ⟨b0, o0 + n * 7 + 2, none⟩ = some (.int .i64 a.give) := hc0 2 _ rfl
 have d3 : w.cell? ⟨b0, o0 + n * 7 + 3, none⟩ = some (.int .i64 a.to_) := hc0 3 _ rfl
 have d4 : w.cell? ⟨b0, o0 + n * 7 + 4, none⟩ = some (.int .i64 a.unit) := hc0 4 _ rfl
 have d5 : w.cell? ⟨b0, o0 + n * 7 + 5, none⟩ = some (.int .i64 a.lot.1) := hc0 5 _ rfl
 have d6 : w.cell? ⟨b0, o0 + n * 7 + 6, none⟩ = some (.int .i64 a.lot.2) := hc0 6 _ rfl
 have HW := qzL hW
 have HOK := qzL hok
 have HL := qzL hl
 have HUL := qzL hul
 have HA := qzL ha
 have HG := qzL hg
 have HUV := qzL huv
 have HAO := qzL hao
 clear hW hok hl hul ha hg huv hact hR hc0 eA0 hao
 refine (callsIn_wide (n := 6)).1 ?_
 refine callsIn_of_wp_marks Tryz.func55 rfl trivial ?_
 simp only [Tryz.ntmps55, List.size_toArray, List.length_cons, List.length_nil, Nat.reduceAdd, Nat.reduceSub, Array.replicate_succ, Array.replicate_zero, List.push_toArray, List.append_toArray, qzF, qzE]
 refine wpIn_wide.2 ?_
 refine wp_qs ?_
 go_upto_region 1 with (fail)
 refine xAf ?_
 intro X hX
 have gx : Blk X w.heap.size 110 #[.pointer (some ⟨b, 0, none⟩)] := by rw [hX]; exact (xA5 (by simp)).alloc _
 have gn : Blk X (w.heap.size + 1) 3 #[.int .i64 (n : Nat)] := by rw [hX]; exact xA5 (by simp)
 have hbX : Below w.heap.size w X := by rw [hX]; (repeat (first | exact Below.refl _ _ | refine xAc ?_ _))
 obtain ⟨bn, ebn⟩ : ∃ b, w.heap.size + 1 = b := ⟨_, rfl⟩
 obtain ⟨bx, ebx⟩ : ∃ b, w.heap.size = b := ⟨_, rfl⟩
 have hlx : Hid (w.heap.size ≤ bx ∧ bx < bn) := by unfold Hid; omega
 rw [ebn] at gn ⊢
 rw [ebx] at gx ⊢
 clear hX ebn ebx
 have hWX := qzL (HW.out.then_ hbX)
 have x0 : X.cell? ⟨bx, 0, none⟩ = some (.pointer (some ⟨b, 0, none⟩)) := gx.cell 0
 have n0 : X.cell? ⟨bn, 0, none⟩ = some (.int .i64 (n : Nat)) := gn.cell 0
 have k3 : X.cell? ⟨b, 3, none⟩ = some (.slice m.a c.ac.length m.ac) := hWX.out.g.cell 3
 have a0 := (hbX.cell (p := ⟨b0, o0 + n * 7, none⟩) hb0).trans d0
 have a1 := (hbX.cell (p := ⟨b0, o0 + n * 7 + 1, none⟩) hb0).trans d1
 have a2 := (hbX.cell (p := ⟨b0, o0 + n * 7 + 2, none⟩) hb0).trans d2
 have a3 := (hbX.cell (p := ⟨b0, o0 + n * 7 + 3, none⟩) hb0).trans d3
 have a4 := (hbX.cell (p := ⟨b0, o0 + n * 7 + 4, none⟩) hb0).trans d4
 have a5 := (hbX.cell (p := ⟨b0, o0 + n * 7 + 5, none⟩) hb0).trans d5
 have a6 := (hbX.cell (p := ⟨b0, o0 + n * 7 + 6, none⟩) hb0).trans d6
 clear d0 d1 d2 d3 d4 d5 d6
 refine xCo (T := 118) (zs := #[.int .i64 0, .int .i64 0, .int .i64 0, .int .i64 0, .int .i64 0, .int .i64 0, .int .i64 0]) [0, 1, 2, 3, 4, 5, 6, 7] [] [9] 8 4 (by kernel_rfl) (by kernel_rfl) pO (fun _ _ => by rfl) ?_
 apply Exists.intro
 refine ⟨?_, ?_⟩
 ·intro S gS hGS
  haveI := hGS.2.2
  have rg0 := xA3 hGS x0
  have rg1 := xA3 hGS n0
  have rg2 := xA3 hGS k3
  have rg3 := xA3 hGS a0
  have rg4 := xA3 hGS a1
  have rg5 := xA3 hGS a2
  have rg6 := xA3 hGS a3
  have rg7 := xA3 hGS a4
  have rg8 := xA3 hGS a5
  have rg9 := xA3 hGS a6
  unfold cls
  simp only [xAm, qzA, qzB, qzC, qzD, qzE, qzF]
  repeat (go_big_quiet_step (skip))
  refine wpQuiet_nil ?_
  exact rfl
 intro la Y hla hbY gla
 simp only [xAm, qzA, qzB, qzC, qzD, qzE, qzF, Act.put, qzG, qzH, qzI]
 clear x0 n0 k3 a0 a1 a2 a3 a4 a5 a6
 go_upto_region 2 with ((refine xAg rfl 118 _ _ rfl la 118 [] [.int .i64 0, .int .i64 0, .int .i64 0, .int .i64 0, .int .i64 0, .int .i64 0, .int .i64 0] [] (aL a) rfl rfl gla rfl (by kernel_rfl) (by simp [Value.oneCell']) ?_; intro V gV uV; simp only [Act.put]))
 have hlla : Hid (X.heap.size ≤ la) := hla
 have hwX : Hid (w.heap.size ≤ X.heap.size) := hbX.size
 have hnl : Hid (bx ≠ la ∧ bn ≠ la) := by have := gx.lt; have := gn.lt; unfold Hid; omega
 have gxV := (gx.then_ hbY).upd uV hnl.out.1
 have gnV := (gn.then_ hbY).upd uV hnl.out.2
 have gaV : Blk V la 118 (aL a).toArray := gV
 have hXV : Hid (Below X.heap.size X V) := hbY.trans (uV.b _ hla)
 have hWV := qzL (hWX.out.then_ hXV.out)
 have HBV : Hid (Below w.heap.size w V) := xAa hbX hXV.out
 clear uV gV gla gx gn hWX hbY hbX hXV hla
 have x0 : V.cell? ⟨bx, 0, none⟩ = some (.pointer (some ⟨b, 0, none⟩)) := gxV.cell 0
 have n0 : V.cell? ⟨bn, 0, none⟩ = some (.int .i64 (n : Nat)) := gnV.cell 0
 have k9 : V.cell? ⟨b, 9, none⟩ = some (.slice (some ⟨q.u, 0, none⟩) s.used.length q.uc) := hWV.out.g.cell 9
 have a0 : V.cell? ⟨la, 0, none⟩ = some (.int .i64 a.kind) := gaV.cell 0
 obtain ⟨u0, _⟩ := hWV.out.useAt HUV.out
 obtain ⟨k1, hk1⟩ : ∃ z, (a.kind != 1) = z := ⟨_, rfl⟩
 have HK1 := qzL hk1
 by_cases hskip : k1 = true ∧ uv = true
 ·obtain ⟨rfl, rfl⟩ := hskip
  have hf : Hid (R = s) := by unfold Hid; rw [HACT.out, if_pos ⟨by simpa [bne] using HK1.out, rfl⟩]
  have rg0 := cR x0
  have rg1 := cR n0
  have rg2 := cR k9
  have rg3 := cR a0
  have rg4 := cR u0
  refine xBk [] [0, 1, 2, 3, 4, 5, 6, 7, 8, 9, 10, 11, 12] [] (by kernel_rfl) (by kernel_rfl) pO ?_
  simp only [xAm, qzA, qzB, qzC, qzD, qzE, qzF]
  repeat (go_big_quiet_step (skip))
  refine wpQuiet_nil ?_
  intro Z hw2
  have hbZ := xAh hw2
  clear hw2 rg0 rg1 rg2 rg3 rg4
  refine xAt ?_
  go_wp2
  refine xF5 (xH0 rfl ?_)
  rw [hf.out]
  exact ⟨rfl, hWV.out.then_ hbZ, Kept.of_below (xAa HBV.out hbZ)⟩
 have hf1 : Hid (R = (if a.kind = 1 then { s with marks := xAs c s.hol (List.zipWith (xA0 n (xA7 a s.hol)) c.cl (List.zipWith (xA4 n) c.cl s.marks)) }
   else { s with hol := s.hol.set a.give.toNat a.to_, used := s.used.set n true, marks := xAs c (s.hol.set a.give.toNat a.to_) (if a.kind = 3 then List.zipWith (xBc a) c.cl (List.zipWith (xA0 n (xA7 a s.hol)) c.cl (List.zipWith (xA4 n) c.cl s.marks)) else List.zipWith (xA0 n (xA7 a s.hol)) c.cl (List.zipWith (xA4 n) c.cl s.marks)) })) := by
  unfold Hid
  rw [HACT.out, if_neg]
  rintro ⟨e1, e2⟩
  exact hskip ⟨by rw [← HK1.out]; simpa [bne] using e1, e2⟩
 clear HACT
 have hcut2 : k1 = false ∨ (k1 = true ∧ uv = false) := by cases k1 <;> cases uv <;> simp_all
 clear hskip hk1
 go_cut [30] from 18 to 30 (fun v W => v = .bool false ∧ Below V.heap.size V W)
 case first =>
  rcases hcut2 with rfl | ⟨rfl, rfl⟩
  ·have t1 := HK1.out
   have rg0 := cR x0
   have rg1 := cR n0
   have rg2 := cR k9
   have rg3 := cR a0
   have rg4 := cR u0
   refine xBk [] [0, 1, 2, 3, 4, 5, 6, 7, 8, 9, 10, 11, 12] [] (by kernel_rfl) (by kernel_rfl) pO ?_
   simp only [xAm, qzA, qzB, qzC, qzD, qzE, qzF]
   repeat (go_big_quiet_step (skip))
   refine wpQuiet_nil ?_
   intro Z hw2
   have hbZ := xAh hw2
   clear hw2 rg0 rg1 rg2 rg3 rg4
   refine xAt ?_
   go_wp2
   go_meet
   case rel => exact ⟨rfl, hbZ⟩
  ·have t1 := HK1.out
   have rg0 := cR x0
   have rg1 := cR n0
   have rg2 := cR k9
   have rg3 := cR a0
   have rg4 := cR u0
   refine xBk [] [0, 1, 2, 3, 4, 5, 6, 7, 8, 9, 10, 11, 12] [] (by kernel_rfl) (by kernel_rfl) pO ?_
   simp only [xAm, qzA, qzB, qzC, qzD, qzE, qzF]
   repeat (go_big_quiet_step (skip))
   refine wpQuiet_nil ?_
   intro Z hw2
   have hbZ := xAh hw2
   clear hw2 rg0 rg1 rg2 rg3 rg4
   refine xAt ?_
   go_wp2
   go_meet
   case rel => exact ⟨rfl, hbZ⟩
 obtain ⟨rfl, hbZ⟩ := hcut
 obtain ⟨Z, rfl⟩ : ∃ Z, Z = wc := ⟨_, rfl⟩
 have hWZ := qzL (hWV.out.then_ hbZ)
 have HBZ := qzL (xAa HBV.out hbZ)
 have gxZ := gxV.then_ hbZ
 have gnZ := gnV.then_ hbZ
 have gaZ := gaV.then_ hbZ
 have hlla2 : Hid (w.heap.size ≤ la ∧ bx < Z.heap.size ∧ bn < Z.heap.size ∧ la < Z.heap.size) := by have h1 := gxZ.lt; have h2 := gnZ.lt; have h3 := gaZ.lt; have := hlla.out; have := hlx.out; have := hwX.out; unfold Hid; omega
 clear x0 n0 k9 a0 u0 hWV HBV gxV gnV gaV hbZ hcut2
 have x0 : Z.cell? ⟨bx, 0, none⟩ = some (.pointer (some ⟨b, 0, none⟩)) := gxZ.cell 0
 have HRN := qzL (fun W => xCn b W)
 go_wp2_with (go_at_call 77; (with_reducible refine (HRN.out _).mono ?_); rintro e w1 ⟨rfl, hw1⟩; have HW1 := qzL hw1; clear hw1)
 have hw1 := HW1.out
 have hb1 : Below Z.heap.size Z w1 := by rw [hw1]; exact wa1 _ _
 have gy : Blk w1 Z.heap.size 110 #[.pointer (some ⟨b, 0, none⟩)] := by rw [hw1]; exact Blk.new _ _ _
 have hW1 := qzL (hWZ.out.then_ hb1)
 have hB1 := qzL (xAa HBZ.out hb1)
 have gx1 := gxZ.then_ hb1
 have gn1 := gnZ.then_ hb1
 have ga1 := gaZ.then_ hb1
 have hw1s : Hid (w.heap.size ≤ w1.heap.size) := hB1.out.size
 have hne : Hid (¬ bx = q.m ∧ ¬ bn = q.m ∧ ¬ la = q.m ∧ ¬ Z.heap.size = q.m) := by
  have h1 := HW.out.bnd
  have h2 := hlx.out
  have h3 := hlla2.out
  have h4 := hWZ.out.bnd
  unfold Hid
  omega
 obtain ⟨by_, eby⟩ : ∃ b, Z.heap.size = b := ⟨_, rfl⟩
 rw [eby] at gy hne ⊢
 clear hw1 HW1 HRN x0 gxZ gnZ gaZ hWZ HBZ eby hb1
 refine xD4 by_ _ _ _ _ rfl rfl (by simp) rfl rfl rfl rfl hW1.out gy (· = q.m) (by have := hW1.out.bnd; rintro x rfl; omega) (xA4 n) (xI0 n)
  (fun W => Blk W bx 110 #[.pointer (some ⟨b, 0, none⟩)] ∧ Blk W bn 3 #[.int .i64 (n : Nat)] ∧ Blk W la 118 (aL a).toArray) (fun W W' h hb => ⟨h.1.below hb gx1.lt, h.2.1.below hb gn1.lt, h.2.2.below hb ga1.lt⟩) ⟨gx1, gn1, ga1⟩ ?_ ?_
 ·intro l i k x W hI hk hx hr hlW
  simp only [qzG, qzH, qzI]
  have hlm := hW1.out.lm
  have hik : i < c.cl.length := (qzM hk).1
  have nk := hW1.out.cn.nk
  obtain ⟨kx, hkx, hkk⟩ := xCv hI.wk.cn.e hk
  obtain ⟨b2, o2, eA2, hb2, hc2⟩ := xAx hI.wk.cont.k hkx
  have hrg : W.rangeAt b2 (o2 + i * 16) (kL kx) := fun j v hv => hc2 j v hv
  have hix3 := fun W => xAq (t := 25) (size := 16) (cap := m.kc) eA2 hik (by kernel_rfl) (fun W => by kernel_rfl) W
  have hx2 : (mixM (xA4 n) c.cl s.marks i)[i]? = some x := (xDs hlm hik).trans hx
  have HI := qzL hI
  have HK := qzL hk
  have HX := qzL hx
  have HLM := qzL hlm
  have HXR := qzL hr
  have x0 : W.cell? ⟨bx, 0, none⟩ = some (.pointer (some ⟨b, 0, none⟩)) := hI.e.1.cell 0
  have n0 : W.cell? ⟨bn, 0, none⟩ = some (.int .i64 (n : Nat)) := hI.e.2.1.cell 0
  have k4 : W.cell? ⟨b, 4, none⟩ = some (.slice m.k c.cl.length m.kc) := hI.wk.g.cell 4
  have c9 : W.cell? ⟨b2, o2 + i * 16 + 9, none⟩ = some (.int .i64 k.pause) := by rw [← hkk]; exact hc2 9 _ rfl
  have c10 : W.cell? ⟨b2, o2 + i * 16 + 10, none⟩ = some (.int .i64 k.resume) := by rw [← hkk]; exact hc2 10 _ rfl
  clear hI hk hx hr hlm hc2 eA2 hkx
  have HWm := HI.out.wk
  obtain ⟨ms', hms⟩ : ∃ l, mixM (xA4 n) c.cl s.marks i = l := ⟨_, rfl⟩
  have HMS := qzL hms
  rw [hms] at hx2 HWm
  have hil : i < ms'.length := (qzM hx2).1
  have nms : ms'.length ≤ 1000000 := HWm.nm
  have hix4 := fun W => xAy (t := 41) (size := 5) (g := q.m) (cap := q.mc) hil (by kernel_rfl) (fun W => by kernel_rfl) W
  have HX2 := qzL hx2
  have HWM := qzL HWm
  clear hms hx2 HWm
  have k10 : W.cell? ⟨b, 10, none⟩ = some (.slice (some ⟨q.m, 0, none⟩) ms'.length q.mc) := HWM.out.g.cell 10
  obtain ⟨m4, f4⟩ := (HWM.out.mark HX2.out).2.2.2.2
  clear hrg
  cases t1 : (((n : Nat) : Int) == k.pause) with
  | true =>
   have hfin : Hid ({ x with pau := true } = xA4 n k x) := by unfold Hid xA4; rw [if_neg (by rw [HXR.out]; simp), if_pos (eq_of_beq t1).symm]
   gi_wp2
   have hW9 := HWM.out.setM (j := 4) (y := { x with pau := true }) (v := .bool true) HX2.out (by omega) rfl
   have hK9 : Kept W (W.setCell ⟨q.m, i * 5 + 4, none⟩ (.bool true)) (· = q.m) := (Kept.refl _ _).setCell rfl
   exact ⟨hK9, HI.out.next HLM.out HK.out HX.out (by rw [HMS.out]; exact hW9) hfin.out hK9 hne.out.2.2.2 ⟨HI.out.e.1.kept hK9 hne.out.1, HI.out.e.2.1.kept hK9 hne.out.2.1, HI.out.e.2.2.kept hK9 hne.out.2.2.1⟩⟩
  | false =>
  have n1 : Hid (¬ k.pause = (n : Int)) := by intro e; rw [e] at t1; simp at t1
  cases t2 : (((n : Nat) : Int) == k.resume) with
  | true =>
   have hfin : Hid ({ x with pau := false } = xA4 n k x) := by unfold Hid xA4; rw [if_neg (by rw [HXR.out]; simp), if_neg n1.out, if_pos (eq_of_beq t2).symm]
   gi_wp2
   have hW9 := HWM.out.setM (j := 4) (y := { x with pau := false }) (v := .bool false) HX2.out (by omega) rfl
   have hK9 : Kept W (W.setCell ⟨q.m, i * 5 + 4, none⟩ (.bool false)) (· = q.m) := (Kept.refl _ _).setCell rfl
   exact ⟨hK9, HI.out.next HLM.out HK.out HX.out (by rw [HMS.out]; exact hW9) hfin.out hK9 hne.out.2.2.2 ⟨HI.out.e.1.kept hK9 hne.out.1, HI.out.e.2.1.kept hK9 hne.out.2.1, HI.out.e.2.2.kept hK9 hne.out.2.2.1⟩⟩
  | false =>
   have hsame : Hid (xA4 n k x = x) := by unfold Hid xA4; rw [if_neg (by rw [HXR.out]; simp), if_neg n1.out, if_neg (fun e => by rw [e] at t2; simp at t2)]
   gi_wp2
   exact ⟨Kept.refl _ _, HI.out.same HLM.out HK.out HX.out hsame.out (Below.refl _ _) HI.out.e⟩
 ·intro D1 W hD1 hI hK
  obtain ⟨S1, hS1⟩ : ∃ l, List.zipWith (xA4 n) c.cl s.marks = l := ⟨_, rfl⟩
  have HS1 := qzL hS1
  have hWD : Hid (Wk w0 W b c m { s with marks := S1 } q) := by unfold Hid; rw [← hS1, ← xD9 (f := xA4 n) hW1.out.lm]; exact hI.wk
  have hKD : Hid (Kept w W (pS q)) := (Kept.of_below hB1.out).trans (hI.k.weak fun x h => .inr (.inr h))
  have gxD := hI.e.1
  have gnD := hI.e.2.1
  have gaD := hI.e.2.2
  have HD1 := qzL hK
  have hDl : D1 < W.heap.size := (Array.getElem?_eq_some_iff.1 hK).1
  have hDn : Hid (D1 ≠ q.h ∧ D1 ≠ q.u ∧ D1 ≠ q.m ∧ D1 ≠ b ∧ w1.heap.size ≤ D1) := by have := hW1.out.bnd; unfold Hid; omega
  have hG1 : Hid (∀ x ∈ S1, x.runs = true → 0 ≤ x.got ∧ x.got ≤ 9) := by
   unfold Hid; rw [← hS1]
   exact zip_got (P := fun x => x.runs = true → 0 ≤ x.got ∧ x.got ≤ 9) (fun k x h hr => by rw [pause1_got]; exact h (by rw [← hr, pause1_run])) HG.out
  clear hI hK hS1 gx1 gn1 ga1 gy hW1 hB1 hne hDl
  go_upto_region 11 with ((refine xAg rfl 131 _ _ rfl W.heap.size 131 [] [.nilFunc, .nilFunc, .nilFunc, .nilFunc, .nilFunc] [] effA rfl rfl (Blk.new _ _ _) rfl (by kernel_rfl) (by simp [Value.oneCell']) ?_; intro X gX uX; simp only [Act.put]))
  have hbX : Below W.heap.size W X := (wa1 W _).trans (uX.b _ (Nat.le_refl _))
  obtain ⟨be, ebe⟩ : ∃ b, W.heap.size = b := ⟨_, rfl⟩
  have hle : Hid (W.heap.size = be) := ebe
  have geX : Blk X be 131 effA.toArray := by rw [← ebe]; exact gX
  rw [ebe]
  clear gX uX ebe
  have hWX := qzL (hWD.out.then_ hbX)
  have hKX : Hid (Kept w X (pS q)) := hKD.out.trans (Kept.of_below hbX)
  have hDX : Hid (X.heap[D1]? = some (.deferred (some []))) := (hbX.block D1 (Array.getElem?_eq_some_iff.1 HD1.out).1).trans HD1.out
  have gxX := gxD.then_ hbX
  have gnX := gnD.then_ hbX
  have gaX := gaD.then_ hbX
  have hlX : Hid (W.heap.size ≤ X.heap.size ∧ be < X.heap.size) := ⟨hbX.size, geX.lt⟩
  clear gxD gnD gaD hWD hKD HD1 hbX
  have gz := hWX.out.g
  have k0 : X.cell? ⟨b, 0, none⟩ = some (.int .i64 c.par) := gz.cell 0
  have k1' : X.cell? ⟨b, 1, none⟩ = some (.slice m.h c.hold.length m.hc) := gz.cell 1
  have k2 : X.cell? ⟨b, 2, none⟩ = some (.slice m.u c.un.length m.uc) := gz.cell 2
  have k3 : X.cell? ⟨b, 3, none⟩ = some (.slice m.a c.ac.length m.ac) := gz.cell 3
  have k4 : X.cell? ⟨b, 4, none⟩ = some (.slice m.k c.cl.length m.kc) := gz.cell 4
  have k5 : X.cell? ⟨b, 5, none⟩ = some (.int .i64 c.days) := gz.cell 5
  have k6 : X.cell? ⟨b, 6, none⟩ = some (.slice m.o c.off.length m.oc) := gz.cell 6
  have k7 : X.cell? ⟨b, 7, none⟩ = some (.int .i64 s.day) := gz.cell 7
  have k8 : X.cell? ⟨b, 8, none⟩ = some (.slice (some ⟨q.h, 0, none⟩) s.hol.length q.hc) := gz.cell 8
  have k9 : X.cell? ⟨b, 9, none⟩ = some (.slice (some ⟨q.u, 0, none⟩) s.used.length q.uc) := gz.cell 9
  have k10 : X.cell? ⟨b, 10, none⟩ = some (.slice (some ⟨q.m, 0, none⟩) S1.length q.mc) := gz.cell 10
  have x0 : X.cell? ⟨bx, 0, none⟩ = some (.pointer (some ⟨b, 0, none⟩)) := gxX.cell 0
  have n0 : X.cell? ⟨bn, 0, none⟩ = some (.int .i64 (n : Nat)) := gnX.cell 0
  clear gz
  obtain ⟨dr, hdr⟩ : ∃ z, xA7 a s.hol = z := ⟨_, rfl⟩
  have HDR := qzL hdr
  have HDO : Hid (∀ W, Below X.heap.size X W → Calls Tryz.prog 80 #[.agg #[.int .i64 c.par, .slice m.h c.hold.length m.hc, .slice m.u c.un.length m.uc, .slice m.a c.ac.length m.ac, .slice m.k c.cl.length m.kc, .int .i64 c.days, .slice m.o c.off.length m.oc],
    .agg #[.int .i64 s.day, .slice (some ⟨q.h, 0, none⟩) s.hol.length q.hc, .slice (some ⟨q.u, 0, none⟩) s.used.length q.uc, .slice (some ⟨q.m, 0, none⟩) S1.length q.mc], .int .i64 (n : Nat)] W fun e w' => e = .returned (.int .i64 dr) ∧ Below W.heap.size W w') := fun W hb => by
   have h := doer_any c m { s with marks := S1 } q.q n a W ((hWX.out.then_ hb).cont) ((hWX.out.then_ hb).stm) HA.out (by rcases HAO.out.2.1 with h | h; exact .inl h; exact .inr ⟨h.1, by show a.role < (s.hol.length : Int); rw [HL.out]; exact h.2⟩)
   rw [show xA7 a ({ s with marks := S1 } : Sta).hol = dr from hdr] at h
   exact h
  clear hdr
  refine xCo (T := 3) (zs := #[.int .i64 0]) [0, 1, 2, 3, 4, 5, 6, 7, 8, 9] [] [11] 10 7 (by kernel_rfl) (by kernel_rfl) pO (fun _ _ => by rfl) ?_
  apply Exists.intro
  refine ⟨?_, ?_⟩
  ·intro S gS hGS
   haveI := hGS.2.2
   have rg0 := xA3 hGS x0
   have rg1 := xA3 hGS n0
   have rg2 := xA3 hGS k0
   have rg3 := xA3 hGS k1'
   have rg4 := xA3 hGS k2
   have rg5 := xA3 hGS k3
   have rg6 := xA3 hGS k4
   have rg7 := xA3 hGS k5
   have rg8 := xA3 hGS k6
   have rg9 := xA3 hGS k7
   have rg10 := xA3 hGS k8
   have rg11 := xA3 hGS k9
   have rg12 := xA3 hGS k10
   unfold cls
   simp only [xAm, qzA, qzB, qzC, qzD, qzE, qzF]
   repeat (go_big_quiet_step ((go_at_call 80; exact xFh hGS (fun W' hW' => HDO.out W' hW') _)))
   refine wpQuiet_nil ?_
   exact rfl
  intro bd Y hbd hbY gbd
  simp only [xAm, qzA, qzB, qzC, qzD, qzE, qzF, Act.put, qzG, qzH, qzI]
  clear x0 n0 k0 k1' k2 k3 k4 k5 k6 k7 k8 k9 k10 HDO
  have cd : Y.cell? ⟨bd, 0, none⟩ = some (.int .i64 0) := gbd.cell 0
  have cdf : Y.frozen? ⟨bd, 0, none⟩ = false := gbd.frozen 0
  go_upto_region 12 with (fail)
  refine xAf ?_
  intro V hV
  have uV : Upd Y V bd := by rw [hV]; exact (Upd.refl _ _).setCell _ _
  have gdV : Blk V bd 3 #[.int .i64 dr] := by rw [hV]; exact gbd.set_ 0 _
  have hnb : Hid (bx ≠ bd ∧ bn ≠ bd ∧ la ≠ bd ∧ be ≠ bd) := by have h1 := gxX.lt; have h2 := gnX.lt; have h3 := gaX.lt; have h4 := geX.lt; unfold Hid; omega
  have hXV : Below X.heap.size X V := hbY.trans (uV.b _ hbd)
  have gxV := gxX.then_ hXV
  have gnV := gnX.then_ hXV
  have gaV := gaX.then_ hXV
  have geV := geX.then_ hXV
  have hWV := qzL (hWX.out.then_ hXV)
  have hKV : Hid (Kept w V (pS q)) := hKX.out.trans (Kept.of_below hXV)
  have hDV : Hid (V.heap[D1]? = some (.deferred (some []))) := (hXV.block D1 (Array.getElem?_eq_some_iff.1 hDX.out).1).trans hDX.out
  have hbdl := qzL hbd
  clear hV uV gbd hbY hbd cd cdf hXV gxX gnX gaX geX hWX hKX hDX
  have x0 : V.cell? ⟨bx, 0, none⟩ = some (.pointer (some ⟨b, 0, none⟩)) := gxV.cell 0
  have HRN := qzL (fun W => xCn b W)
  go_wp2_with (go_at_call 77; (with_reducible refine (HRN.out _).mono ?_); rintro e w2 ⟨rfl, hw1⟩; have HW1 := qzL hw1; clear hw1)
  have hw1 := HW1.out
  have hb1 : Below V.heap.size V w2 := by rw [hw1]; exact wa1 _ _
  have gy : Blk w2 V.heap.size 110 #[.pointer (some ⟨b, 0, none⟩)] := by rw [hw1]; exact Blk.new _ _ _
  have hW2 := qzL (hWV.out.then_ hb1)
  have hK2 : Hid (Kept w w2 (pS q)) := hKV.out.trans (Kept.of_below hb1)
  have hD2 : Hid (w2.heap[D1]? = some (.deferred (some []))) := (hb1.block D1 (Array.getElem?_eq_some_iff.1 hDV.out).1).trans hDV.out
  have gx2 := gxV.then_ hb1
  have gn2 := gnV.then_ hb1
  have ga2 := gaV.then_ hb1
  have ge2 := geV.then_ hb1
  have gd2 := gdV.then_ hb1
  have hne : Hid (¬ bx = q.m ∧ ¬ bn = q.m ∧ ¬ la = q.m ∧ ¬ be = q.m ∧ ¬ bd = q.m ∧ ¬ V.heap.size = q.m) := by
   have h1 := HW.out.bnd
   have h2 := hlx.out
   have h3 := hlla2.out
   have h4 := hWV.out.bnd
   obtain ⟨_, h7⟩ := hWV.out.om.blkT
   have h6 := xAw gdV h7 (by decide)
   have h8 := xAw geV h7 (by decide)
   unfold Hid
   omega
  have hneS : Hid (¬ pS q bx ∧ ¬ pS q bn ∧ ¬ pS q la) := by
   have h1 := HW.out.bnd
   have h2 := hlx.out
   have h3 := hlla2.out
   unfold Hid pS
   omega
  obtain ⟨bz, ebz⟩ : ∃ b, V.heap.size = b := ⟨_, rfl⟩
  rw [ebz] at gy hne ⊢
  clear hw1 HW1 HRN x0 gxV gnV gaV geV gdV hWV hKV hDV ebz hb1
  refine xD4 bz _ _ _ _ rfl rfl (by simp) rfl rfl rfl rfl hW2.out gy (· = q.m) (by have := hW2.out.bnd; rintro x rfl; omega) (xA0 n dr) (xJa n dr)
   (fun W => Blk W bx 110 #[.pointer (some ⟨b, 0, none⟩)] ∧ Blk W bn 3 #[.int .i64 (n : Nat)] ∧ Blk W la 118 (aL a).toArray ∧ Blk W be 131 effA.toArray ∧ Blk W bd 3 #[.int .i64 dr] ∧ W.heap[D1]? = some (.deferred (some [])))
   (fun W W' h hb => ⟨h.1.below hb gx2.lt, h.2.1.below hb gn2.lt, h.2.2.1.below hb ga2.lt, h.2.2.2.1.below hb ge2.lt, h.2.2.2.2.1.below hb gd2.lt, (hb.block D1 (Array.getElem?_eq_some_iff.1 hD2.out).1).trans h.2.2.2.2.2⟩) ⟨gx2, gn2, ga2, ge2, gd2, hD2.out⟩ ?_ ?_
  ·intro l i k x W hI hk hx hr hlW
   simp only [qzG, qzH, qzI]
   have hlm := hW2.out.lm
   have hik : i < c.cl.length := (qzM hk).1
   have nk := hW2.out.cn.nk
   obtain ⟨kx, hkx, hkk⟩ := xCv hI.wk.cn.e hk
   obtain ⟨b2, o2, eA2, hb2, hc2⟩ := xAx hI.wk.cont.k hkx
   have hrg : W.rangeAt b2 (o2 + i * 16) (kL kx) := fun j v hv => hc2 j v hv
   have hix3 := fun W => xAq (t := 25) (size := 16) (cap := m.kc) eA2 hik (by kernel_rfl) (fun W => by kernel_rfl) W
   have hx2 : (mixM (xA0 n dr) c.cl S1 i)[i]? = some x := (xDs hlm hik).trans hx
   have HI := qzL hI
   have HK := qzL hk
   have HX := qzL hx
   have HLM := qzL hlm
   have HXR := qzL hr
   have x0 : W.cell? ⟨bx, 0, none⟩ = some (.pointer (some ⟨b, 0, none⟩)) := hI.e.1.cell 0
   have n0 : W.cell? ⟨bn, 0, none⟩ = some (.int .i64 (n : Nat)) := hI.e.2.1.cell 0
   have k4 : W.cell? ⟨b, 4, none⟩ = some (.slice m.k c.cl.length m.kc) := hI.wk.g.cell 4
   have c9 : W.cell? ⟨b2, o2 + i * 16 + 9, none⟩ = some (.int .i64 k.pause) := by rw [← hkk]; exact hc2 9 _ rfl
   have c10 : W.cell? ⟨b2, o2 + i * 16 + 10, none⟩ = some (.int .i64 k.resume) := by rw [← hkk]; exact hc2 10 _ rfl
   clear hI hk hx hr hlm hc2 eA2 hkx
   have HWm := HI.out.wk
   obtain ⟨ms', hms⟩ : ∃ l, mixM (xA0 n dr) c.cl S1 i = l := ⟨_, rfl⟩
   have HMS := qzL hms
   rw [hms] at hx2 HWm
   have hil : i < ms'.length := (qzM hx2).1
   have nms : ms'.length ≤ 1000000 := HWm.nm
   have hix4 := fun W => xAy (t := 41) (size := 5) (g := q.m) (cap := q.mc) hil (by kernel_rfl) (fun W => by kernel_rfl) W
   have HX2 := qzL hx2
   have HWM := qzL HWm
   clear hms hx2 HWm
   cases t1 : (k.act == ((n : Nat) : Int)) with
   | false =>
    have hsame : Hid (xA0 n dr k x = x) := by unfold Hid xA0; rw [if_pos (.inr (.inl (fun e => by rw [e] at t1; simp at t1)))]
    gi_step
    gi_step
    gi_step
    (with_reducible refine xAj ?_ ?_ ?_; (focus kernel_rfl); exact nO)
    go_wp2_with ((refine xAo 52 el16 _ _ _ rfl rfl rfl rfl rfl rfl rfl rfl rfl b2 _ rfl (kL kx) rfl hrg (by simp [Value.oneCell']) (by decide) (by simp) (by simp) ?_; simp only [Act.put, qzG, qzH, qzI]; refine xBy ?_; intro Y1 hY; have gk : Blk Y1 W.heap.size 52 (kL kx).toArray := (by rw [hY]; exact Blk.new _ _ _); have HY1 : Hid (Below W.heap.size W Y1) := (by rw [hY]; exact wa1 _ _); have GK := qzL gk; clear hY gk))
    clear x0 n0 k4 c9 c10
    have x1 : Y1.cell? ⟨bx, 0, none⟩ = some (.pointer (some ⟨b, 0, none⟩)) := (HI.out.e.1.then_ HY1.out).cell 0
    have n1 : Y1.cell? ⟨bn, 0, none⟩ = some (.int .i64 (n : Nat)) := (HI.out.e.2.1.then_ HY1.out).cell 0
    have c2 : Y1.cell? ⟨W.heap.size, 2, none⟩ = some (.int .i64 k.act) := by rw [← hkk]; exact GK.out.cell 2
    have c0 : Y1.cell? ⟨W.heap.size, 0, none⟩ = some (.int .i64 k.kind) := by rw [← hkk]; exact GK.out.cell 0
    have k10 : Y1.cell? ⟨b, 10, none⟩ = some (.slice (some ⟨q.m, 0, none⟩) ms'.length q.mc) := (HWM.out.then_ HY1.out).g.cell 10
    have m3 : Y1.cell? ⟨q.m, i * 5 + 3, none⟩ = some (.int .i64 x.brr) := ((HWM.out.then_ HY1.out).mark HX2.out).2.2.2.1.1
    have cd : Y1.cell? ⟨bd, 0, none⟩ = some (.int .i64 dr) := (HI.out.e.2.2.2.2.1.then_ HY1.out).cell 0
    gi_step
    have rg0 := cR x1
    have rg1 := cR n1
    have rg2 := cR c2
    have rg3 := cR c0
    have rg4 := cR k10
    have rg5 := cR m3
    have rg6 := cR cd
    refine xAv [] [0, 1, 2, 3, 4, 5, 6, 7, 8, 9, 10, 11, 12, 13, 14, 15, 16, 17, 18, 19, 20, 21] [] (by kernel_rfl) nO (by kernel_rfl) (by kernel_rfl) pO ?_
    simp only [xAm, qzA, qzB, qzC, qzD, qzE, qzF]
    repeat (go_big_quiet_step (skip))
    refine wpQuiet_nil ?_
    intro U hw2
    have hbU := xAh hw2
    clear hw2 rg0 rg1 rg2 rg3 rg4 rg5 rg6
    refine xAt ?_
    gi_wp2
    exact ⟨Kept.of_below (xAa HY1.out hbU), HI.out.same HLM.out HK.out HX.out hsame.out (xAa HY1.out hbU) ⟨HI.out.e.1.then_ (xAa HY1.out hbU), HI.out.e.2.1.then_ (xAa HY1.out hbU), HI.out.e.2.2.1.then_ (xAa HY1.out hbU), HI.out.e.2.2.2.1.then_ (xAa HY1.out hbU), HI.out.e.2.2.2.2.1.then_ (xAa HY1.out hbU), ((xAa HY1.out hbU).block D1 (Array.getElem?_eq_some_iff.1 HI.out.e.2.2.2.2.2).1).trans HI.out.e.2.2.2.2.2⟩⟩
   | true =>
   have hka : Hid (k.act = (n : Int)) := eq_of_beq t1
   cases t4 : (k.kind == 4) with
   | true =>
    have hkd : Hid (k.kind = 4) := eq_of_beq t4
    have hfin : Hid (x.endS 3 = xA0 n dr k x) := by unfold Hid xA0; rw [if_neg (show ¬ (x.runs = false ∨ k.act ≠ (n : Int) ∨ ¬ (k.kind = 4 ∨ x.brr = dr)) by rw [HXR.out, hka.out]; simp; exact fun h => absurd hkd.out h), if_neg (show ¬ k.kind = 1 by have := hkd.out; omega), if_neg (show ¬ k.kind = 2 by have := hkd.out; omega)]
    gi_step
    gi_step
    gi_step
    (with_reducible refine xAj ?_ ?_ ?_; (focus kernel_rfl); exact nO)
    go_wp2_with ((refine xAo 52 el16 _ _ _ rfl rfl rfl rfl rfl rfl rfl rfl rfl b2 _ rfl (kL kx) rfl hrg (by simp [Value.oneCell']) (by decide) (by simp) (by simp) ?_; simp only [Act.put, qzG, qzH, qzI]; refine xBy ?_; intro Y1 hY; have gk : Blk Y1 W.heap.size 52 (kL kx).toArray := (by rw [hY]; exact Blk.new _ _ _); have HY1 : Hid (Below W.heap.size W Y1) := (by rw [hY]; exact wa1 _ _); have GK := qzL gk; clear hY gk))
    clear x0 n0 k4 c9 c10
    have x1 : Y1.cell? ⟨bx, 0, none⟩ = some (.pointer (some ⟨b, 0, none⟩)) := (HI.out.e.1.then_ HY1.out).cell 0
    have n1 : Y1.cell? ⟨bn, 0, none⟩ = some (.int .i64 (n : Nat)) := (HI.out.e.2.1.then_ HY1.out).cell 0
    have c2 : Y1.cell? ⟨W.heap.size, 2, none⟩ = some (.int .i64 k.act) := by rw [← hkk]; exact GK.out.cell 2
    have c0 : Y1.cell? ⟨W.heap.size, 0, none⟩ = some (.int .i64 k.kind) := by rw [← hkk]; exact GK.out.cell 0
    have k10 : Y1.cell? ⟨b, 10, none⟩ = some (.slice (some ⟨q.m, 0, none⟩) ms'.length q.mc) := (HWM.out.then_ HY1.out).g.cell 10
    have m3 : Y1.cell? ⟨q.m, i * 5 + 3, none⟩ = some (.int .i64 x.brr) := ((HWM.out.then_ HY1.out).mark HX2.out).2.2.2.1.1
    have cd : Y1.cell? ⟨bd, 0, none⟩ = some (.int .i64 dr) := (HI.out.e.2.2.2.2.1.then_ HY1.out).cell 0
    gi_step
    have rg0 := cR x1
    have rg1 := cR n1
    have rg2 := cR c2
    have rg3 := cR c0
    have rg4 := cR k10
    have rg5 := cR m3
    have rg6 := cR cd
    refine xAv [] [0, 1, 2, 3, 4, 5, 6, 7, 8, 9, 10, 11, 12, 13, 14, 15, 16, 17, 18, 19, 20, 21] [] (by kernel_rfl) nO (by kernel_rfl) (by kernel_rfl) pO ?_
    simp only [xAm, qzA, qzB, qzC, qzD, qzE, qzF]
    repeat (go_big_quiet_step (skip))
    refine wpQuiet_nil ?_
    intro U hw2
    have hbU := xAh hw2
    clear hw2 rg0 rg1 rg2 rg3 rg4 rg5 rg6
    refine xAt ?_
    gi_wp2
    have hBU : Hid (Below W.heap.size W U) := xAa HY1.out hbU
    have ck : U.cell? ⟨W.heap.size, 0, none⟩ = some (.int .i64 4) := by rw [← hkd.out, ← hkk]; exact (GK.out.then_ hbU).cell 0
    have e1 : U.cell? ⟨be, 4, none⟩ = some (.func (.func 75) #[] #[]) := (HI.out.e.2.2.2.1.then_ hBU.out).cell 4
    have x2 : U.cell? ⟨bx, 0, none⟩ = some (.pointer (some ⟨b, 0, none⟩)) := (HI.out.e.1.then_ hBU.out).cell 0
    clear x1 n1 c2 c0 k10 m3 cd hbU
    obtain ⟨yy, hyy⟩ : ∃ y, xA0 n dr k x = y := ⟨_, rfl⟩
    have HYY := qzL hyy
    clear hyy
    have rg0 := cR ck
    have rg1 := cR e1
    have rg2 := cR x2
    refine xAv [] [0, 1, 2, 3, 4, 5] [6] (by kernel_rfl) nO (by kernel_rfl) (by kernel_rfl) pO ?_
    simp only [xAm, qzA, qzB, qzC, qzD, qzE, qzF]
    repeat (go_big_quiet_step (skip))
    refine wpQuiet_nil ?_
    intro U2 hw2
    have hbU2 := xAh hw2
    clear hw2 rg0 rg1 rg2
    have hWU := qzL (HWM.out.then_ (xAa hBU.out hbU2))
    have hB2 := qzL (xAa hBU.out hbU2)
    have HE : Hid (Calls Tryz.prog 75 #[.pointer (some ⟨b, 0, none⟩), .int .i64 (i : Nat)] U2 fun e w' => Eff w0 U2 b c m { s with marks := ms' } q i yy e w') := by
     have h := xEz w0 b c m { s with marks := ms' } q i x U2 hWU.out HX2.out
     rw [hfin.out, HYY.out] at h
     exact h
    go_wp2_with (go_at_call 75; (with_reducible refine HE.out.mono ?_); rintro e w3 ⟨rfl, h1, h2⟩)
    have hK9 : Kept W w3 (· = q.m) := (Kept.of_below hB2.out).trans h2
    exact ⟨hK9, HI.out.next HLM.out HK.out HX.out (by rw [HMS.out]; exact h1) HYY.out.symm hK9 hne.out.2.2.2.2.2 ⟨HI.out.e.1.kept hK9 hne.out.1, HI.out.e.2.1.kept hK9 hne.out.2.1, HI.out.e.2.2.1.kept hK9 hne.out.2.2.1, HI.out.e.2.2.2.1.kept hK9 hne.out.2.2.2.1, HI.out.e.2.2.2.2.1.kept hK9 hne.out.2.2.2.2.1, (hK9.k D1 (Array.getElem?_eq_some_iff.1 HI.out.e.2.2.2.2.2).1 hDn.out.2.2.1).trans HI.out.e.2.2.2.2.2⟩⟩
   | false =>
   have hk4 : Hid (k.kind ≠ 4) := by intro e; rw [e] at t4; simp at t4
   cases t5 : (x.brr == dr) with
   | false =>
    have hsame : Hid (xA0 n dr k x = x) := by unfold Hid xA0; rw [if_pos (.inr (.inr (fun e => by rcases e with e | e; exact hk4.out e; rw [e] at t5; simp at t5)))]
    gi_step
    gi_step
    gi_step
    (with_reducible refine xAj ?_ ?_ ?_; (focus kernel_rfl); exact nO)
    go_wp2_with ((refine xAo 52 el16 _ _ _ rfl rfl rfl rfl rfl rfl rfl rfl rfl b2 _ rfl (kL kx) rfl hrg (by simp [Value.oneCell']) (by decide) (by simp) (by simp) ?_; simp only [Act.put, qzG, qzH, qzI]; refine xBy ?_; intro Y1 hY; have gk : Blk Y1 W.heap.size 52 (kL kx).toArray := (by rw [hY]; exact Blk.new _ _ _); have HY1 : Hid (Below W.heap.size W Y1) := (by rw [hY]; exact wa1 _ _); have GK := qzL gk; clear hY gk))
    clear x0 n0 k4 c9 c10
    have x1 : Y1.cell? ⟨bx, 0, none⟩ = some (.pointer (some ⟨b, 0, none⟩)) := (HI.out.e.1.then_ HY1.out).cell 0
    have n1 : Y1.cell? ⟨bn, 0, none⟩ = some (.int .i64 (n : Nat)) := (HI.out.e.2.1.then_ HY1.out).cell 0
    have c2 : Y1.cell? ⟨W.heap.size, 2, none⟩ = some (.int .i64 k.act) := by rw [← hkk]; exact GK.out.cell 2
    have c0 : Y1.cell? ⟨W.heap.size, 0, none⟩ = some (.int .i64 k.kind) := by rw [← hkk]; exact GK.out.cell 0
    have k10 : Y1.cell? ⟨b, 10, none⟩ = some (.slice (some ⟨q.m, 0, none⟩) ms'.length q.mc) := (HWM.out.then_ HY1.out).g.cell 10
    have m3 : Y1.cell? ⟨q.m, i * 5 + 3, none⟩ = some (.int .i64 x.brr) := ((HWM.out.then_ HY1.out).mark HX2.out).2.2.2.1.1
    have cd : Y1.cell? ⟨bd, 0, none⟩ = some (.int .i64 dr) := (HI.out.e.2.2.2.2.1.then_ HY1.out).cell 0
    gi_step
    have rg0 := cR x1
    have rg1 := cR n1
    have rg2 := cR c2
    have rg3 := cR c0
    have rg4 := cR k10
    have rg5 := cR m3
    have rg6 := cR cd
    refine xAv [] [0, 1, 2, 3, 4, 5, 6, 7, 8, 9, 10, 11, 12, 13, 14, 15, 16, 17, 18, 19, 20, 21] [] (by kernel_rfl) nO (by kernel_rfl) (by kernel_rfl) pO ?_
    simp only [xAm, qzA, qzB, qzC, qzD, qzE, qzF]
    repeat (go_big_quiet_step (skip))
    refine wpQuiet_nil ?_
    intro U hw2
    have hbU := xAh hw2
    clear hw2 rg0 rg1 rg2 rg3 rg4 rg5 rg6
    refine xAt ?_
    gi_wp2
    exact ⟨Kept.of_below (xAa HY1.out hbU), HI.out.same HLM.out HK.out HX.out hsame.out (xAa HY1.out hbU) ⟨HI.out.e.1.then_ (xAa HY1.out hbU), HI.out.e.2.1.then_ (xAa HY1.out hbU), HI.out.e.2.2.1.then_ (xAa HY1.out hbU), HI.out.e.2.2.2.1.then_ (xAa HY1.out hbU), HI.out.e.2.2.2.2.1.then_ (xAa HY1.out hbU), ((xAa HY1.out hbU).block D1 (Array.getElem?_eq_some_iff.1 HI.out.e.2.2.2.2.2).1).trans HI.out.e.2.2.2.2.2⟩⟩
   | true =>
   have hbr : Hid (x.brr = dr) := eq_of_beq t5
   have hgot := hG1.out x (qzK HX.out) HXR.out
   have hkd0 := (xDr HOK.out (qzK HK.out)).kd
   rcases hkd0 with hkd0 | hkd0 | hkd0 | hkd0
   ·have hkd := qzL hkd0
    have hfin : Hid ((if x.got + 1 = k.need then { x with got := x.got + 1 }.endS 3 else { x with got := x.got + 1 }) = xA0 n dr k x) := by unfold Hid xA0; rw [if_neg (show ¬ (x.runs = false ∨ k.act ≠ (n : Int) ∨ ¬ (k.kind = 4 ∨ x.brr = dr)) by rw [HXR.out, hka.out]; simp; exact fun _ => hbr.out), if_pos hkd.out]
    clear hkd0
    gi_step
    gi_step
    gi_step
    (with_reducible refine xAj ?_ ?_ ?_; (focus kernel_rfl); exact nO)
    go_wp2_with ((refine xAo 52 el16 _ _ _ rfl rfl rfl rfl rfl rfl rfl rfl rfl b2 _ rfl (kL kx) rfl hrg (by simp [Value.oneCell']) (by decide) (by simp) (by simp) ?_; simp only [Act.put, qzG, qzH, qzI]; refine xBy ?_; intro Y1 hY; have gk : Blk Y1 W.heap.size 52 (kL kx).toArray := (by rw [hY]; exact Blk.new _ _ _); have HY1 : Hid (Below W.heap.size W Y1) := (by rw [hY]; exact wa1 _ _); have GK := qzL gk; clear hY gk))
    clear x0 n0 k4 c9 c10
    have x1 : Y1.cell? ⟨bx, 0, none⟩ = some (.pointer (some ⟨b, 0, none⟩)) := (HI.out.e.1.then_ HY1.out).cell 0
    have n1 : Y1.cell? ⟨bn, 0, none⟩ = some (.int .i64 (n : Nat)) := (HI.out.e.2.1.then_ HY1.out).cell 0
    have c2 : Y1.cell? ⟨W.heap.size, 2, none⟩ = some (.int .i64 k.act) := by rw [← hkk]; exact GK.out.cell 2
    have c0 : Y1.cell? ⟨W.heap.size, 0, none⟩ = some (.int .i64 k.kind) := by rw [← hkk]; exact GK.out.cell 0
    have k10 : Y1.cell? ⟨b, 10, none⟩ = some (.slice (some ⟨q.m, 0, none⟩) ms'.length q.mc) := (HWM.out.then_ HY1.out).g.cell 10
    have m3 : Y1.cell? ⟨q.m, i * 5 + 3, none⟩ = some (.int .i64 x.brr) := ((HWM.out.then_ HY1.out).mark HX2.out).2.2.2.1.1
    have cd : Y1.cell? ⟨bd, 0, none⟩ = some (.int .i64 dr) := (HI.out.e.2.2.2.2.1.then_ HY1.out).cell 0
    gi_step
    have rg0 := cR x1
    have rg1 := cR n1
    have rg2 := cR c2
    have rg3 := cR c0
    have rg4 := cR k10
    have rg5 := cR m3
    have rg6 := cR cd
    refine xAv [] [0, 1, 2, 3, 4, 5, 6, 7, 8, 9, 10, 11, 12, 13, 14, 15, 16, 17, 18, 19, 20, 21] [] (by kernel_rfl) nO (by kernel_rfl) (by kernel_rfl) pO ?_
    simp only [xAm, qzA, qzB, qzC, qzD, qzE, qzF]
    repeat (go_big_quiet_step (skip))
    refine wpQuiet_nil ?_
    intro U hw2
    have hbU := xAh hw2
    clear hw2 rg0 rg1 rg2 rg3 rg4 rg5 rg6
    refine xAt ?_
    gi_wp2
    have hBU : Hid (Below W.heap.size W U) := xAa HY1.out hbU
    have ck : U.cell? ⟨W.heap.size, 0, none⟩ = some (.int .i64 1) := by rw [← hkd.out, ← hkk]; exact (GK.out.then_ hbU).cell 0
    have e1 : U.cell? ⟨be, 1, none⟩ = some (.func (.func 78) #[] #[]) := (HI.out.e.2.2.2.1.then_ hBU.out).cell 1
    have x2 : U.cell? ⟨bx, 0, none⟩ = some (.pointer (some ⟨b, 0, none⟩)) := (HI.out.e.1.then_ hBU.out).cell 0
    clear x1 n1 c2 c0 k10 m3 cd hbU
    obtain ⟨yy, hyy⟩ : ∃ y, xA0 n dr k x = y := ⟨_, rfl⟩
    have HYY := qzL hyy
    clear hyy
    have rg0 := cR ck
    have rg1 := cR e1
    have rg2 := cR x2
    refine xAv [] [0, 1, 2, 3, 4, 5] [6] (by kernel_rfl) nO (by kernel_rfl) (by kernel_rfl) pO ?_
    simp only [xAm, qzA, qzB, qzC, qzD, qzE, qzF]
    repeat (go_big_quiet_step (skip))
    refine wpQuiet_nil ?_
    intro U2 hw2
    have hbU2 := xAh hw2
    clear hw2 rg0 rg1 rg2
    have hWU := qzL (HWM.out.then_ (xAa hBU.out hbU2))
    have hB2 := qzL (xAa hBU.out hbU2)
    have HE : Hid (Calls Tryz.prog 78 #[.pointer (some ⟨b, 0, none⟩), .int .i64 (i : Nat)] U2 fun e w' => Eff w0 U2 b c m { s with marks := ms' } q i yy e w') := by
     have h := xIz w0 b c m { s with marks := ms' } q i x k U2 hWU.out HX2.out HK.out hgot
     rw [hfin.out, HYY.out] at h
     exact h
    go_wp2_with (go_at_call 78; (with_reducible refine HE.out.mono ?_); rintro e w3 ⟨rfl, h1, h2⟩)
    have hK9 : Kept W w3 (· = q.m) := (Kept.of_below hB2.out).trans h2
    exact ⟨hK9, HI.out.next HLM.out HK.out HX.out (by rw [HMS.out]; exact h1) HYY.out.symm hK9 hne.out.2.2.2.2.2 ⟨HI.out.e.1.kept hK9 hne.out.1, HI.out.e.2.1.kept hK9 hne.out.2.1, HI.out.e.2.2.1.kept hK9 hne.out.2.2.1, HI.out.e.2.2.2.1.kept hK9 hne.out.2.2.2.1, HI.out.e.2.2.2.2.1.kept hK9 hne.out.2.2.2.2.1, (hK9.k D1 (Array.getElem?_eq_some_iff.1 HI.out.e.2.2.2.2.2).1 hDn.out.2.2.1).trans HI.out.e.2.2.2.2.2⟩⟩
   ·have hkd := qzL hkd0
    have hfin : Hid ((if x.pau then x else x.endS 4) = xA0 n dr k x) := by unfold Hid xA0; rw [if_neg (show ¬ (x.runs = false ∨ k.act ≠ (n : Int) ∨ ¬ (k.kind = 4 ∨ x.brr = dr)) by rw [HXR.out, hka.out]; simp; exact fun _ => hbr.out), if_neg (show ¬ k.kind = 1 by omega), if_pos hkd.out]
    clear hkd0
    gi_step
    gi_step
    gi_step
    (with_reducible refine xAj ?_ ?_ ?_; (focus kernel_rfl); exact nO)
    go_wp2_with ((refine xAo 52 el16 _ _ _ rfl rfl rfl rfl rfl rfl rfl rfl rfl b2 _ rfl (kL kx) rfl hrg (by simp [Value.oneCell']) (by decide) (by simp) (by simp) ?_; simp only [Act.put, qzG, qzH, qzI]; refine xBy ?_; intro Y1 hY; have gk : Blk Y1 W.heap.size 52 (kL kx).toArray := (by rw [hY]; exact Blk.new _ _ _); have HY1 : Hid (Below W.heap.size W Y1) := (by rw [hY]; exact wa1 _ _); have GK := qzL gk; clear hY gk))
    clear x0 n0 k4 c9 c10
    have x1 : Y1.cell? ⟨bx, 0, none⟩ = some (.pointer (some ⟨b, 0, none⟩)) := (HI.out.e.1.then_ HY1.out).cell 0
    have n1 : Y1.cell? ⟨bn, 0, none⟩ = some (.int .i64 (n : Nat)) := (HI.out.e.2.1.then_ HY1.out).cell 0
    have c2 : Y1.cell? ⟨W.heap.size, 2, none⟩ = some (.int .i64 k.act) := by rw [← hkk]; exact GK.out.cell 2
    have c0 : Y1.cell? ⟨W.heap.size, 0, none⟩ = some (.int .i64 k.kind) := by rw [← hkk]; exact GK.out.cell 0
    have k10 : Y1.cell? ⟨b, 10, none⟩ = some (.slice (some ⟨q.m, 0, none⟩) ms'.length q.mc) := (HWM.out.then_ HY1.out).g.cell 10
    have m3 : Y1.cell? ⟨q.m, i * 5 + 3, none⟩ = some (.int .i64 x.brr) := ((HWM.out.then_ HY1.out).mark HX2.out).2.2.2.1.1
    have cd : Y1.cell? ⟨bd, 0, none⟩ = some (.int .i64 dr) := (HI.out.e.2.2.2.2.1.then_ HY1.out).cell 0
    gi_step
    have rg0 := cR x1
    have rg1 := cR n1
    have rg2 := cR c2
    have rg3 := cR c0
    have rg4 := cR k10
    have rg5 := cR m3
    have rg6 := cR cd
    refine xAv [] [0, 1, 2, 3, 4, 5, 6, 7, 8, 9, 10, 11, 12, 13, 14, 15, 16, 17, 18, 19, 20, 21] [] (by kernel_rfl) nO (by kernel_rfl) (by kernel_rfl) pO ?_
    simp only [xAm, qzA, qzB, qzC, qzD, qzE, qzF]
    repeat (go_big_quiet_step (skip))
    refine wpQuiet_nil ?_
    intro U hw2
    have hbU := xAh hw2
    clear hw2 rg0 rg1 rg2 rg3 rg4 rg5 rg6
    refine xAt ?_
    gi_wp2
    have hBU : Hid (Below W.heap.size W U) := xAa HY1.out hbU
    have ck : U.cell? ⟨W.heap.size, 0, none⟩ = some (.int .i64 2) := by rw [← hkd.out, ← hkk]; exact (GK.out.then_ hbU).cell 0
    have e1 : U.cell? ⟨be, 2, none⟩ = some (.func (.func 79) #[] #[]) := (HI.out.e.2.2.2.1.then_ hBU.out).cell 2
    have x2 : U.cell? ⟨bx, 0, none⟩ = some (.pointer (some ⟨b, 0, none⟩)) := (HI.out.e.1.then_ hBU.out).cell 0
    clear x1 n1 c2 c0 k10 m3 cd hbU
    obtain ⟨yy, hyy⟩ : ∃ y, xA0 n dr k x = y := ⟨_, rfl⟩
    have HYY := qzL hyy
    clear hyy
    have rg0 := cR ck
    have rg1 := cR e1
    have rg2 := cR x2
    refine xAv [] [0, 1, 2, 3, 4, 5] [6] (by kernel_rfl) nO (by kernel_rfl) (by kernel_rfl) pO ?_
    simp only [xAm, qzA, qzB, qzC, qzD, qzE, qzF]
    repeat (go_big_quiet_step (skip))
    refine wpQuiet_nil ?_
    intro U2 hw2
    have hbU2 := xAh hw2
    clear hw2 rg0 rg1 rg2
    have hWU := qzL (HWM.out.then_ (xAa hBU.out hbU2))
    have hB2 := qzL (xAa hBU.out hbU2)
    have HE : Hid (Calls Tryz.prog 79 #[.pointer (some ⟨b, 0, none⟩), .int .i64 (i : Nat)] U2 fun e w' => Eff w0 U2 b c m { s with marks := ms' } q i yy e w') := by
     have h := xIp w0 b c m { s with marks := ms' } q i x U2 hWU.out HX2.out
     rw [hfin.out, HYY.out] at h
     exact h
    go_wp2_with (go_at_call 79; (with_reducible refine HE.out.mono ?_); rintro e w3 ⟨rfl, h1, h2⟩)
    have hK9 : Kept W w3 (· = q.m) := (Kept.of_below hB2.out).trans h2
    exact ⟨hK9, HI.out.next HLM.out HK.out HX.out (by rw [HMS.out]; exact h1) HYY.out.symm hK9 hne.out.2.2.2.2.2 ⟨HI.out.e.1.kept hK9 hne.out.1, HI.out.e.2.1.kept hK9 hne.out.2.1, HI.out.e.2.2.1.kept hK9 hne.out.2.2.1, HI.out.e.2.2.2.1.kept hK9 hne.out.2.2.2.1, HI.out.e.2.2.2.2.1.kept hK9 hne.out.2.2.2.2.1, (hK9.k D1 (Array.getElem?_eq_some_iff.1 HI.out.e.2.2.2.2.2).1 hDn.out.2.2.1).trans HI.out.e.2.2.2.2.2⟩⟩
   ·have hkd := qzL hkd0
    have hfin : Hid (x.endS 3 = xA0 n dr k x) := by unfold Hid xA0; rw [if_neg (show ¬ (x.runs = false ∨ k.act ≠ (n : Int) ∨ ¬ (k.kind = 4 ∨ x.brr = dr)) by rw [HXR.out, hka.out]; simp; exact fun _ => hbr.out), if_neg (show ¬ k.kind = 1 by omega), if_neg (show ¬ k.kind = 2 by omega)]
    clear hkd0
    gi_step
    gi_step
    gi_step
    (with_reducible refine xAj ?_ ?_ ?_; (focus kernel_rfl); exact nO)
    go_wp2_with ((refine xAo 52 el16 _ _ _ rfl rfl rfl rfl rfl rfl rfl rfl rfl b2 _ rfl (kL kx) rfl hrg (by simp [Value.oneCell']) (by decide) (by simp) (by simp) ?_; simp only [Act.put, qzG, qzH, qzI]; refine xBy ?_; intro Y1 hY; have gk : Blk Y1 W.heap.size 52 (kL kx).toArray := (by rw [hY]; exact Blk.new _ _ _); have HY1 : Hid (Below W.heap.size W Y1) := (by rw [hY]; exact wa1 _ _); have GK := qzL gk; clear hY gk))
    clear x0 n0 k4 c9 c10
    have x1 : Y1.cell? ⟨bx, 0, none⟩ = some (.pointer (some ⟨b, 0, none⟩)) := (HI.out.e.1.then_ HY1.out).cell 0
    have n1 : Y1.cell? ⟨bn, 0, none⟩ = some (.int .i64 (n : Nat)) := (HI.out.e.2.1.then_ HY1.out).cell 0
    have c2 : Y1.cell? ⟨W.heap.size, 2, none⟩ = some (.int .i64 k.act) := by rw [← hkk]; exact GK.out.cell 2
    have c0 : Y1.cell? ⟨W.heap.size, 0, none⟩ = some (.int .i64 k.kind) := by rw [← hkk]; exact GK.out.cell 0
    have k10 : Y1.cell? ⟨b, 10, none⟩ = some (.slice (some ⟨q.m, 0, none⟩) ms'.length q.mc) := (HWM.out.then_ HY1.out).g.cell 10
    have m3 : Y1.cell? ⟨q.m, i * 5 + 3, none⟩ = some (.int .i64 x.brr) := ((HWM.out.then_ HY1.out).mark HX2.out).2.2.2.1.1
    have cd : Y1.cell? ⟨bd, 0, none⟩ = some (.int .i64 dr) := (HI.out.e.2.2.2.2.1.then_ HY1.out).cell 0
    gi_step
    have rg0 := cR x1
    have rg1 := cR n1
    have rg2 := cR c2
    have rg3 := cR c0
    have rg4 := cR k10
    have rg5 := cR m3
    have rg6 := cR cd
    refine xAv [] [0, 1, 2, 3, 4, 5, 6, 7, 8, 9, 10, 11, 12, 13, 14, 15, 16, 17, 18, 19, 20, 21] [] (by kernel_rfl) nO (by kernel_rfl) (by kernel_rfl) pO ?_
    simp only [xAm, qzA, qzB, qzC, qzD, qzE, qzF]
    repeat (go_big_quiet_step (skip))
    refine wpQuiet_nil ?_
    intro U hw2
    have hbU := xAh hw2
    clear hw2 rg0 rg1 rg2 rg3 rg4 rg5 rg6
    refine xAt ?_
    gi_wp2
    have hBU : Hid (Below W.heap.size W U) := xAa HY1.out hbU
    have ck : U.cell? ⟨W.heap.size, 0, none⟩ = some (.int .i64 3) := by rw [← hkd.out, ← hkk]; exact (GK.out.then_ hbU).cell 0
    have e1 : U.cell? ⟨be, 3, none⟩ = some (.func (.func 75) #[] #[]) := (HI.out.e.2.2.2.1.then_ hBU.out).cell 3
    have x2 : U.cell? ⟨bx, 0, none⟩ = some (.pointer (some ⟨b, 0, none⟩)) := (HI.out.e.1.then_ hBU.out).cell 0
    clear x1 n1 c2 c0 k10 m3 cd hbU
    obtain ⟨yy, hyy⟩ : ∃ y, xA0 n dr k x = y := ⟨_, rfl⟩
    have HYY := qzL hyy
    clear hyy
    have rg0 := cR ck
    have rg1 := cR e1
    have rg2 := cR x2
    refine xAv [] [0, 1, 2, 3, 4, 5] [6] (by kernel_rfl) nO (by kernel_rfl) (by kernel_rfl) pO ?_
    simp only [xAm, qzA, qzB, qzC, qzD, qzE, qzF]
    repeat (go_big_quiet_step (skip))
    refine wpQuiet_nil ?_
    intro U2 hw2
    have hbU2 := xAh hw2
    clear hw2 rg0 rg1 rg2
    have hWU := qzL (HWM.out.then_ (xAa hBU.out hbU2))
    have hB2 := qzL (xAa hBU.out hbU2)
    have HE : Hid (Calls Tryz.prog 75 #[.pointer (some ⟨b, 0, none⟩), .int .i64 (i : Nat)] U2 fun e w' => Eff w0 U2 b c m { s with marks := ms' } q i yy e w') := by
     have h := xEz w0 b c m { s with marks := ms' } q i x U2 hWU.out HX2.out
     rw [hfin.out, HYY.out] at h
     exact h
    go_wp2_with (go_at_call 75; (with_reducible refine HE.out.mono ?_); rintro e w3 ⟨rfl, h1, h2⟩)
    have hK9 : Kept W w3 (· = q.m) := (Kept.of_below hB2.out).trans h2
    exact ⟨hK9, HI.out.next HLM.out HK.out HX.out (by rw [HMS.out]; exact h1) HYY.out.symm hK9 hne.out.2.2.2.2.2 ⟨HI.out.e.1.kept hK9 hne.out.1, HI.out.e.2.1.kept hK9 hne.out.2.1, HI.out.e.2.2.1.kept hK9 hne.out.2.2.1, HI.out.e.2.2.2.1.kept hK9 hne.out.2.2.2.1, HI.out.e.2.2.2.2.1.kept hK9 hne.out.2.2.2.2.1, (hK9.k D1 (Array.getElem?_eq_some_iff.1 HI.out.e.2.2.2.2.2).1 hDn.out.2.2.1).trans HI.out.e.2.2.2.2.2⟩⟩
   ·exact absurd hkd0 hk4.out
  ·intro D2 W hD hI hK
   obtain ⟨S2, hS2⟩ : ∃ l, List.zipWith (xA0 n dr) c.cl S1 = l := ⟨_, rfl⟩
   have hWD : Hid (Wk w0 W b c m { s with marks := S2 } q) := by unfold Hid; rw [← hS2, ← xD9 (f := xA0 n dr) hW2.out.lm]; exact hI.wk
   have hKD : Hid (Kept w W (pS q)) := hK2.out.trans (hI.k.weak fun x h => .inr (.inr h))
   have hD1W := qzL hI.e.2.2.2.2.2
   have hD2W := qzL hK
   have gxW := hI.e.1
   have gnW := hI.e.2.1
   have gaW := hI.e.2.2.1
   have hD1l := (Array.getElem?_eq_some_iff.1 hD2.out).1
   have hDl : Hid (D1 < D2 ∧ ¬ pS q D1 ∧ ¬ pS q D2 ∧ b < D1 ∧ q.h < D1 ∧ q.u < D1 ∧ q.m < D1 ∧ w.heap.size ≤ D1) := by
    have h1 := hDn.out
    have h2 := HW.out.bnd
    have h3 := hlla2.out
    have h4 := hW2.out.bnd
    have h5 := hw1s.out
    unfold Hid pS
    omega
   have hf2 : Hid (R = (if a.kind = 1 then { s with marks := xAs c s.hol S2 } else { s with hol := s.hol.set a.give.toNat a.to_, used := s.used.set n true, marks := xAs c (s.hol.set a.give.toNat a.to_) (if a.kind = 3 then List.zipWith (xBc a) c.cl S2 else S2) })) := by
    unfold Hid; rw [hf1.out, HDR.out, HS1.out, hS2]
   have fin : ∀ (ts : Array Value) (V : World), Wk w0 V b c m R q → Kept W V (pS q) → LeavesInM Fence.wide 6 Tryz.prog Tryz.f55 ts (fun e w' => e = .returned (.tuple #[]) ∧ Wk w0 w' b c m R q ∧ Kept w w' (pS q)) [{ target := .collected D2, args := #[] }, { target := .collected D1, args := #[] }] .returning V := fun ts V hV hk => by
    have hd2 : V.heap[D2]? = some (.deferred (some [])) := (hk.k D2 (Array.getElem?_eq_some_iff.1 hD2W.out).1 hDl.out.2.2.1).trans hD2W.out
    have hd1 : V.heap[D1]? = some (.deferred (some [])) := (hk.k D1 (Array.getElem?_eq_some_iff.1 hD1W.out).1 hDl.out.2.1).trans hD1W.out
    have u2 := Upd.putObj (.deferred none) (Array.getElem?_eq_some_iff.1 hd2).1
    have hd1' : (V.putObj D2 (.deferred none)).heap[D1]? = some (.deferred (some [])) := (u2.f D1 (by have := hDl.out.1; omega)).trans hd1
    have u1 := Upd.putObj (.deferred none) (Array.getElem?_eq_some_iff.1 hd1').1
    refine xGb hd2 (xGb hd1' (xH0 rfl ?_))
    have hb : Below D1 V ((V.putObj D2 (.deferred none)).putObj D1 (.deferred none)) := (u2.b D1 (by have := hDl.out.1; omega)).trans (u1.b D1 (Nat.le_refl _))
    have h9 := hDl.out
    exact ⟨rfl, hV.belowN hb ⟨h9.2.2.2.1, h9.2.2.2.2.1, h9.2.2.2.2.2.1, h9.2.2.2.2.2.2.1⟩ (by have := HW.out.hb.size; omega), (hKD.out.trans hk).thenB (hb.mono h9.2.2.2.2.2.2.2)⟩
   have FIN := qzL fin
   clear fin hI hK hS2 hf1 gx2 gn2 ga2 ge2 gd2 gy
   have x0 : W.cell? ⟨bx, 0, none⟩ = some (.pointer (some ⟨b, 0, none⟩)) := gxW.cell 0
   have n0 : W.cell? ⟨bn, 0, none⟩ = some (.int .i64 (n : Nat)) := gnW.cell 0
   have a0 : W.cell? ⟨la, 0, none⟩ = some (.int .i64 a.kind) := gaW.cell 0
   cases k1 with
   | false =>
    have t1 := HK1.out
    have hf3 : Hid (R = { s with marks := xAs c s.hol S2 }) := by unfold Hid; rw [hf2.out, if_pos (by simpa [bne] using HK1.out)]
    have HS := qzL (xDy w0 b c m { s with marks := S2 } q W hWD.out HOK.out HL.out)
    go_wp2_with (go_at_call 52; (with_reducible refine HS.out.mono ?_); rintro e w3 ⟨rfl, h1, h2⟩)
    refine xD5 ?_
    exact FIN.out _ w3 (by rw [hf3.out]; exact h1) (h2.weak fun x h => .inr (.inr h))
   | true =>
    have t1 := HK1.out
    have hk1n : a.kind ≠ 1 := by simpa [bne] using HK1.out
    have hf3 : Hid (R = { s with hol := s.hol.set a.give.toNat a.to_, used := s.used.set n true, marks := xAs c (s.hol.set a.give.toNat a.to_) (if a.kind = 3 then List.zipWith (xBc a) c.cl S2 else S2) }) := by unfold Hid; rw [hf2.out, if_neg hk1n]
    have hgv := HAO.out.2.2 hk1n
    obtain ⟨S3, hS3⟩ : ∃ l, (if a.kind = 3 then List.zipWith (xBc a) c.cl S2 else S2) = l := ⟨_, rfl⟩
    rw [hS3] at hf3
    have HSH : Hid (Calls Tryz.prog 81 #[.pointer (some ⟨b, 0, none⟩), .int .i64 (n : Nat)] W fun e w' => e = .returned (.tuple #[]) ∧ Wk w0 w' b c m { shS s n a with marks := S3 } q ∧ Kept W w' (pS q)) := by
     have h := shift_any w0 b c m { s with marks := S2 } q n a W hWD.out HA.out ⟨hgv.1, by show a.give < (s.hol.length : Int); rw [HL.out]; exact hgv.2.1⟩ hnu
     rw [show ({ s with marks := S2 } : Sta).marks = S2 from rfl, hS3] at h
     exact h
    have HST : Hid (∀ V, Wk w0 V b c m { shS s n a with marks := S3 } q → Calls Tryz.prog 52 #[.pointer (some ⟨b, 0, none⟩)] V fun e w' => e = .returned (.tuple #[]) ∧ Wk w0 w' b c m R q ∧ Kept V w' (· = q.m)) := fun V hV => by
     have h := xDy w0 b c m { shS s n a with marks := S3 } q V hV HOK.out (by show (s.hol.set a.give.toNat a.to_).length = _; rw [List.length_set]; exact HL.out)
     rw [hf3.out]
     exact h
    clear hk1n hgv hS3
    go_wp2_with (first | (go_at_call 81; (with_reducible refine HSH.out.mono ?_); rintro e w3 ⟨rfl, h1, h2⟩; have x0' : w3.cell? ⟨bx, 0, none⟩ = some (.pointer (some ⟨b, 0, none⟩)) := (gxW.kept h2 hneS.out.1).cell 0) | (go_at_call 52; (with_reducible refine (HST.out _ h1).mono ?_); rintro e w4 ⟨rfl, h3, h4⟩))
    refine xD5 ?_
    exact FIN.out _ w4 h3 (h2.trans (h4.weak fun x h => .inr (.inr h)))
end Go.Proofs.YtginnonjdbpamaaGreatDoor
