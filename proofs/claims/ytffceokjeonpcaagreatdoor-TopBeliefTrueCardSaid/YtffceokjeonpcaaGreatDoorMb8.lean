/- Contracts of functions and plain laws, joined: Sg, Sh, Si. -/
import Derived.Test.YtffceokjeonpcaaGreatDoorMb7
import Derived.Test.YtffceokjeonpcaaGreatDoorMb5
import Derived.Test.YtffceokjeonpcaaGreatDoorMb1
set_option maxHeartbeats 12800000
set_option maxRecDepth 100000
namespace Go.Proofs.YtffceokjeonpcaaGreatDoor
open Go.RowKit
attribute [local go_sem] Oper.semAt_some
theorem xIv (n : Int) (k : Cla) (x : Mk) (h : x.runs = false) : xA1 n k x = x := by unfold xA1; rw [if_pos h]
theorem xI7 (n d : Int) (k : Cla) (x : Mk) (h : x.runs = false) : xAy n d k x = x := by unfold xAy; rw [if_pos (.inl h)]
theorem pause1_got (n : Int) (k : Cla) (x : Mk) : (xA1 n k x).got = x.got := by
 unfold xA1
 repeat' split
 all_goals rfl
theorem pause1_run (n : Int) (k : Cla) (x : Mk) : (xA1 n k x).runs = x.runs := by
 unfold xA1
 repeat' split
 all_goals rfl
abbrev effA : List Value := [.nilFunc, .func (.func 70) #[] #[], .func (.func 71) #[] #[], .func (.func 66) #[] #[], .func (.func 66) #[] #[]]
theorem zip_got {n : Int} {cl : List Cla} {ms : List Mk} {P : Mk → Prop} (hP : ∀ k x, P x → P (xA1 n k x)) (h : ∀ x ∈ ms, P x) : ∀ x ∈ List.zipWith (xA1 n) cl ms, P x := by
 intro x hx
 obtain ⟨i, hi⟩ := List.getElem?_of_mem hx
 rw [List.getElem?_zipWith] at hi
 cases hk : cl[i]? with
 | none => rw [hk] at hi; simp at hi
 | some k =>
  cases hy : ms[i]? with
  | none => rw [hk, hy] at hi; simp at hi
  | some y =>
   rw [hk, hy] at hi
   simp only [Option.some.injEq] at hi
   rw [← hi]
   exact hP k y (h y (qzK hy))
theorem wact_any (w0 : World) (b : Nat) (c : Con) (m : Cm) (s : Sta) (q : Qn) (n : Nat) (a : Atc) (w : World) (hW : Wk w0 w b c m s q) (hok : c.ok = true) (hl : s.hol.length = c.hold.length) (hul : s.used.length = c.ac.length) (ha : c.ac[n]? = some a) (hg : ∀ x ∈ s.marks, x.runs = true → 0 ≤ x.got ∧ x.got ≤ 9) :
  Calls Tryz.prog 49 #[.pointer (some ⟨b, 0, none⟩), .int .i64 (n : Nat)] w fun e w' => e = .returned (.tuple #[]) ∧ Wk w0 w' b c m (s.act c n) q ∧ Kept w w' (pS q) := by
 have hna : n < c.ac.length := (qzM ha).1
 have hnu : n < s.used.length := by omega
 obtain ⟨uv, huv⟩ : ∃ v, s.used[n]? = some v := ⟨_, qzJ hnu⟩
 have hact : s.act c n = (if a.kind ≠ 1 ∧ uv = true then s else
   if a.kind = 1 then { s with marks := xAs c s.hol (List.zipWith (xAy n (xA9 a s.hol)) c.cl (List.zipWith (xA1 n) c.cl s.marks)) }
   else { s with hol := s.hol.set a.give.toNat a.to_, used := s.used.set n true, marks := xAs c (s.hol.set a.give.toNat a.to_) (if a.kind = 3 then List.zipWith (xBb a) c.cl (List.zipWith (xAy n (xA9 a s.hol)) c.cl (List.zipWith (xA1 n) c.cl s.marks)) else List.zipWith (xAy n (xA9 a s.hol)) c.cl (List.zipWith (xA1 n) c.cl s.marks)) }) := by
  unfold Sta.act
  rw [ha]
  simp only [List.getD_eq_getElem?_getD, huv, Option.getD_some]
 obtain ⟨R, hR⟩ : ∃ r, s.act c n = r := ⟨_, rfl⟩
 rw [hR] at hact ⊢
 have HACT := qzL hact
 have hao := ok_act hok (qzK ha)
 obtain ⟨b0, o0, eA0, hb0, hc0⟩ := xAv hW.cont.a ha
 have hix0 := fun W => xAp (t := 24) (size := 7) (cap := m.ac) eA0 hna (by kernel_rfl) (fun W => by kernel_rfl) W
 have hix2 := fun W => xA4 (t := 44) (size := 1) (g := q.u) (cap := q.uc) hnu (by kernel_rfl) (fun W => by kernel_rfl) W
 simp only [Nat.mul_one] at hix2
 have na := hW.cn.na
 have nh := hW.nh
 have nu := hW.nu
 have d0 : w.cell? ⟨b0, o0 + n * 7, none⟩ = some (.int .i64 a.kind) := hc0 0 _ rfl
 have d1 : w.cell? ⟨b0, o0 + n * 7 + 1, none⟩ = some (.int .i64 a.role) := hc0 1 _ rfl
 have d2 : w.cell? ⟨b0, o0 + n * 7 + 2, none⟩ = some (.int .i64 a.give) := hc0 2 _ rfl
 have d3 : w.cell? ⟨b0, o0 + n * 7 + 3, none⟩ = some (.int .i64 a.to_) := hc0 3 _ rfl
 have d4 : w.cell? ⟨b0, o0 + n * 7 + 4, none⟩ = some (.int .i64 a.unit) := hc0 4 _ rfl
 have d5 : w.cell? ⟨b0, o0 + n * 7 + 5, none⟩ = some (.int .i64 a.lot.1) := hc0 5 _ rfl
 have d6 : w.cell? ⟨b0, o0 + n * 7 + 6, none⟩ = some (.int .i64 a.lot.2) := hc0 6 _ rfl
 have HW := qzL hW
 have HOK := qzL hok
 have HL := qzL hl
 have HUL := qzL hul
 have HA := qzL ha
 have HG := qzL hg
 have HUV := qzL huv
 have HAO := qzL hao
 clear hW hok hl hul ha hg huv hact hR hc0 eA0 hao
 refine (callsIn_wide (n := 6)).1 ?_
 refine callsIn_of_wp_marks Tryz.func49 rfl trivial ?_
 simp only [Tryz.ntmps49, List.size_toArray, List.length_cons, List.length_nil, Nat.reduceAdd, Nat.reduceSub, Array.replicate_succ, Array.replicate_zero, List.push_toArray, List.append_toArray, qzF, qzE]
 refine wpIn_wide.2 ?_
 refine wp_qs ?_
 go_upto_region 1 with (fail)
 refine xAi ?_
 intro X hX
 have gx : Blk X w.heap.size 98 #[.pointer (some ⟨b, 0, none⟩)] := by rw [hX]; exact (xA0 (by simp)).alloc _
 have gn : Blk X (w.heap.size + 1) 3 #[.int .i64 (n : Nat)] := by rw [hX]; exact xA0 (by simp)
 have hbX : Below w.heap.size w X := by rw [hX]; (repeat (first | exact Below.refl _ _ | refine xAc ?_ _))
 obtain ⟨bn, ebn⟩ : ∃ b, w.heap.size + 1 = b := ⟨_, rfl⟩
 obtain ⟨bx, ebx⟩ : ∃ b, w.heap.size = b := ⟨_, rfl⟩
 have hlx : Hid (w.heap.size ≤ bx ∧ bx < bn) := by unfold Hid; omega
 rw [ebn] at gn ⊢
 rw [ebx] at gx ⊢
 clear hX ebn ebx
 have hWX := qzL (HW.out.then_ hbX)
 have x0 : X.cell? ⟨bx, 0, none⟩ = some (.pointer (some ⟨b, 0, none⟩)) := gx.cell 0
 have n0 : X.cell? ⟨bn, 0, none⟩ = some (.int .i64 (n : Nat)) := gn.cell 0
 have k3 : X.cell? ⟨b, 3, none⟩ = some (.slice m.a c.ac.length m.ac) := hWX.out.g.cell 3
 have a0 := (hbX.cell (p := ⟨b0, o0 + n * 7, none⟩) hb0).trans d0
 have a1 := (hbX.cell (p := ⟨b0, o0 + n * 7 + 1, none⟩) hb0).trans d1
 have a2 := (hbX.cell (p := ⟨b0, o0 + n * 7 + 2, none⟩) hb0).trans d2
 have a3 := (hbX.cell (p := ⟨b0, o0 + n * 7 + 3, none⟩) hb0).trans d3
 have a4 := (hbX.cell (p := ⟨b0, o0 + n * 7 + 4, none⟩) hb0).trans d4
 have a5 := (hbX.cell (p := ⟨b0, o0 + n * 7 + 5, none⟩) hb0).trans d5
 have a6 := (hbX.cell (p := ⟨b0, o0 + n * 7 + 6, none⟩) hb0).trans d6
 clear d0 d1 d2 d3 d4 d5 d6
 refine xDh (T := 92) (zs := #[.int .i64 0, .int .i64 0, .int .i64 0, .int .i64 0, .int .i64 0, .int .i64 0, .int .i64 0]) [0, 1, 2, 3, 4, 5, 6, 7] [] [9] 8 4 (by kernel_rfl) (by kernel_rfl) pO (fun _ _ => by rfl) ?_
 apply Exists.intro
 refine ⟨?_, ?_⟩
 ·intro S gS hGS
  haveI := hGS.2.2
  have rg0 := xA3 hGS x0
  have rg1 := xA3 hGS n0
  have rg2 := xA3 hGS k3
  have rg3 := xA3 hGS a0
  have rg4 := xA3 hGS a1
  have rg5 := xA3 hGS a2
  have rg6 := xA3 hGS a3
  have rg7 := xA3 hGS a4
  have rg8 := xA3 hGS a5
  have rg9 := xA3 hGS a6
  unfold cls
  simp only [xAn, qzA, qzB, qzC, qzD, qzE, qzF]
  repeat (go_big_quiet_step (skip))
  refine wpQuiet_nil ?_
  exact rfl
 intro la Y hla hbY gla
 simp only [xAn, qzA, qzB, qzC, qzD, qzE, qzF, Act.put, qzG, qzH, qzI]
 clear x0 n0 k3 a0 a1 a2 a3 a4 a5 a6
 go_upto_region 2 with ((refine xAh rfl 92 _ _ rfl la 92 [] [.int .i64 0, .int .i64 0, .int .i64 0, .int .i64 0, .int .i64 0, .int .i64 0, .int .i64 0] [] (aL a) rfl rfl gla rfl (by kernel_rfl) (by simp [Value.oneCell']) ?_; intro V gV uV; simp only [Act.put]))
 have hlla : Hid (X.heap.size ≤ la) := hla
 have hwX : Hid (w.heap.size ≤ X.heap.size) := hbX.size
 have hnl : Hid (bx ≠ la ∧ bn ≠ la) := by have := gx.lt; have := gn.lt; unfold Hid; omega
 have gxV := (gx.then_ hbY).upd uV hnl.out.1
 have gnV := (gn.then_ hbY).upd uV hnl.out.2
 have gaV : Blk V la 92 (aL a).toArray := gV
 have hXV : Hid (Below X.heap.size X V) := hbY.trans (uV.b _ hla)
 have hWV := qzL (hWX.out.then_ hXV.out)
 have HBV : Hid (Below w.heap.size w V) := xAa hbX hXV.out
 clear uV gV gla gx gn hWX hbY hbX hXV hla
 have x0 : V.cell? ⟨bx, 0, none⟩ = some (.pointer (some ⟨b, 0, none⟩)) := gxV.cell 0
 have n0 : V.cell? ⟨bn, 0, none⟩ = some (.int .i64 (n : Nat)) := gnV.cell 0
 have k9 : V.cell? ⟨b, 9, none⟩ = some (.slice (some ⟨q.u, 0, none⟩) s.used.length q.uc) := hWV.out.g.cell 9
 have a0 : V.cell? ⟨la, 0, none⟩ = some (.int .i64 a.kind) := gaV.cell 0
 obtain ⟨u0, _⟩ := hWV.out.useAt HUV.out
 obtain ⟨k1, hk1⟩ : ∃ z, (a.kind != 1) = z := ⟨_, rfl⟩
 have HK1 := qzL hk1
 by_cases hskip : k1 = true ∧ uv = true
 ·obtain ⟨rfl, rfl⟩ := hskip
  have hf : Hid (R = s) := by unfold Hid; rw [HACT.out, if_pos ⟨by simpa [bne] using HK1.out, rfl⟩]
  have rg0 := cR x0
  have rg1 := cR n0
  have rg2 := cR k9
  have rg3 := cR a0
  have rg4 := cR u0
  refine xBm [] [0, 1, 2, 3, 4, 5, 6, 7, 8, 9, 10, 11, 12] [] (by kernel_rfl) (by kernel_rfl) pO ?_
  simp only [xAn, qzA, qzB, qzC, qzD, qzE, qzF]
  repeat (go_big_quiet_step (skip))
  refine wpQuiet_nil ?_
  intro Z hw2
  have hbZ := xAj hw2
  clear hw2 rg0 rg1 rg2 rg3 rg4
  refine xAw ?_
  go_wp2
  refine qs_ret (xH0 rfl ?_)
  rw [hf.out]
  exact ⟨rfl, hWV.out.then_ hbZ, Kept.of_below (xAa HBV.out hbZ)⟩
 have hf1 : Hid (R = (if a.kind = 1 then { s with marks := xAs c s.hol (List.zipWith (xAy n (xA9 a s.hol)) c.cl (List.zipWith (xA1 n) c.cl s.marks)) }
   else { s with hol := s.hol.set a.give.toNat a.to_, used := s.used.set n true, marks := xAs c (s.hol.set a.give.toNat a.to_) (if a.kind = 3 then List.zipWith (xBb a) c.cl (List.zipWith (xAy n (xA9 a s.hol)) c.cl (List.zipWith (xA1 n) c.cl s.marks)) else List.zipWith (xAy n (xA9 a s.hol)) c.cl (List.zipWith (xA1 n) c.cl s.marks)) })) := by
  unfold Hid
  rw [HACT.out, if_neg]
  rintro ⟨e1, e2⟩
  exact hskip ⟨by rw [← HK1.out]; simpa [bne] using e1, e2⟩
 clear HACT
 have hcut2 : k1 = false ∨ (k1 = true ∧ uv = false) := by cases k1 <;> cases uv <;> simp_all
 clear hskip hk1
 go_cut [30] from 18 to 30 (fun v W => v = .bool false ∧ Below V.heap.size V W)
 case first =>
  rcases hcut2 with rfl | ⟨rfl, rfl⟩
  ·have t1 := HK1.out
   have rg0 := cR x0
   have rg1 := cR n0
   have rg2 := cR k9
   have rg3 := cR a0
   have rg4 := cR u0
   refine xBm [] [0, 1, 2, 3, 4, 5, 6, 7, 8, 9, 10, 11, 12] [] (by kernel_rfl) (by kernel_rfl) pO ?_
   simp only [xAn, qzA, qzB, qzC, qzD, qzE, qzF]
   repeat (go_big_quiet_step (skip))
   refine wpQuiet_nil ?_
   intro Z hw2
   have hbZ := xAj hw2
   clear hw2 rg0 rg1 rg2 rg3 rg4
   refine xAw ?_
   go_wp2
   go_meet
   case rel => exact ⟨rfl, hbZ⟩
  ·have t1 := HK1.out
   have rg0 := cR x0
   have rg1 := cR n0
   have rg2 := cR k9
   have rg3 := cR a0
   have rg4 := cR u0
   refine xBm [] [0, 1, 2, 3, 4, 5, 6, 7, 8, 9, 10, 11, 12] [] (by kernel_rfl) (by kernel_rfl) pO ?_
   simp only [xAn, qzA, qzB, qzC, qzD, qzE, qzF]
   repeat (go_big_quiet_step (skip))
   refine wpQuiet_nil ?_
   intro Z hw2
   have hbZ := xAj hw2
   clear hw2 rg0 rg1 rg2 rg3 rg4
   refine xAw ?_
   go_wp2
   go_meet
   case rel => exact ⟨rfl, hbZ⟩
 obtain ⟨rfl, hbZ⟩ := hcut
 obtain ⟨Z, rfl⟩ : ∃ Z, Z = wc := ⟨_, rfl⟩
 have hWZ := qzL (hWV.out.then_ hbZ)
 have HBZ := qzL (xAa HBV.out hbZ)
 have gxZ := gxV.then_ hbZ
 have gnZ := gnV.then_ hbZ
 have gaZ := gaV.then_ hbZ
 have hlla2 : Hid (w.heap.size ≤ la ∧ bx < Z.heap.size ∧ bn < Z.heap.size ∧ la < Z.heap.size) := by have h1 := gxZ.lt; have h2 := gnZ.lt; have h3 := gaZ.lt; have := hlla.out; have := hlx.out; have := hwX.out; unfold Hid; omega
 clear x0 n0 k9 a0 u0 hWV HBV gxV gnV gaV hbZ hcut2
 have x0 : Z.cell? ⟨bx, 0, none⟩ = some (.pointer (some ⟨b, 0, none⟩)) := gxZ.cell 0
 have HRN := qzL (fun W => xCt b W)
 go_wp2_with (go_at_call 69; (with_reducible refine (HRN.out _).mono ?_); rintro e w1 ⟨rfl, hw1⟩; have HW1 := qzL hw1; clear hw1)
 have hw1 := HW1.out
 have hb1 : Below Z.heap.size Z w1 := by rw [hw1]; exact wa1 _ _
 have gy : Blk w1 Z.heap.size 98 #[.pointer (some ⟨b, 0, none⟩)] := by rw [hw1]; exact Blk.new _ _ _
 have hW1 := qzL (hWZ.out.then_ hb1)
 have hB1 := qzL (xAa HBZ.out hb1)
 have gx1 := gxZ.then_ hb1
 have gn1 := gnZ.then_ hb1
 have ga1 := gaZ.then_ hb1
 have hw1s : Hid (w.heap.size ≤ w1.heap.size) := hB1.out.size
 have hne : Hid (¬ bx = q.m ∧ ¬ bn = q.m ∧ ¬ la = q.m ∧ ¬ Z.heap.size = q.m) := by
  have h1 := HW.out.bnd
  have h2 := hlx.out
  have h3 := hlla2.out
  have h4 := hWZ.out.bnd
  unfold Hid
  omega
 obtain ⟨by_, eby⟩ : ∃ b, Z.heap.size = b := ⟨_, rfl⟩
 rw [eby] at gy hne ⊢
 clear hw1 HW1 HRN x0 gxZ gnZ gaZ hWZ HBZ eby hb1
 refine xEe by_ _ _ _ _ rfl rfl (by simp) rfl rfl rfl rfl hW1.out gy (· = q.m) (by have := hW1.out.bnd; rintro x rfl; omega) (xA1 n) (xIv n)
  (fun W => Blk W bx 98 #[.pointer (some ⟨b, 0, none⟩)] ∧ Blk W bn 3 #[.int .i64 (n : Nat)] ∧ Blk W la 92 (aL a).toArray) (fun W W' h hb => ⟨h.1.below hb gx1.lt, h.2.1.below hb gn1.lt, h.2.2.below hb ga1.lt⟩) ⟨gx1, gn1, ga1⟩ ?_ ?_
 ·intro l i k x W hI hk hx hr hlW
  simp only [qzG, qzH, qzI]
  have hlm := hW1.out.lm
  have hik : i < c.cl.length := (qzM hk).1
  have nk := hW1.out.cn.nk
  obtain ⟨kx, hkx, hkk⟩ := xC3 hI.wk.cn.e hk
  obtain ⟨b2, o2, eA2, hb2, hc2⟩ := xAv hI.wk.cont.k hkx
  have hrg : W.rangeAt b2 (o2 + i * 16) (kL kx) := fun j v hv => hc2 j v hv
  have hix3 := fun W => xAp (t := 25) (size := 16) (cap := m.kc) eA2 hik (by kernel_rfl) (fun W => by kernel_rfl) W
  have hx2 : (mixM (xA1 n) c.cl s.marks i)[i]? = some x := (xD6 hlm hik).trans hx
  have HI := qzL hI
  have HK := qzL hk
  have HX := qzL hx
  have HLM := qzL hlm
  have HXR := qzL hr
  have x0 : W.cell? ⟨bx, 0, none⟩ = some (.pointer (some ⟨b, 0, none⟩)) := hI.e.1.cell 0
  have n0 : W.cell? ⟨bn, 0, none⟩ = some (.int .i64 (n : Nat)) := hI.e.2.1.cell 0
  have k4 : W.cell? ⟨b, 4, none⟩ = some (.slice m.k c.cl.length m.kc) := hI.wk.g.cell 4
  have c9 : W.cell? ⟨b2, o2 + i * 16 + 9, none⟩ = some (.int .i64 k.pause) := by rw [← hkk]; exact hc2 9 _ rfl
  have c10 : W.cell? ⟨b2, o2 + i * 16 + 10, none⟩ = some (.int .i64 k.resume) := by rw [← hkk]; exact hc2 10 _ rfl
  clear hI hk hx hr hlm hc2 eA2 hkx
  have HWm := HI.out.wk
  obtain ⟨ms', hms⟩ : ∃ l, mixM (xA1 n) c.cl s.marks i = l := ⟨_, rfl⟩
  have HMS := qzL hms
  rw [hms] at hx2 HWm
  have hil : i < ms'.length := (qzM hx2).1
  have nms : ms'.length ≤ 1000000 := HWm.nm
  have hix4 := fun W => xA4 (t := 45) (size := 5) (g := q.m) (cap := q.mc) hil (by kernel_rfl) (fun W => by kernel_rfl) W
  have HX2 := qzL hx2
  have HWM := qzL HWm
  clear hms hx2 HWm
  have k10 : W.cell? ⟨b, 10, none⟩ = some (.slice (some ⟨q.m, 0, none⟩) ms'.length q.mc) := HWM.out.g.cell 10
  obtain ⟨m4, f4⟩ := (HWM.out.mark HX2.out).2.2.2.2
  clear hrg
  cases t1 : (((n : Nat) : Int) == k.pause) with
  | true =>
   have hfin : Hid ({ x with pau := true } = xA1 n k x) := by unfold Hid xA1; rw [if_neg (by rw [HXR.out]; simp), if_pos (eq_of_beq t1).symm]
   gi_wp2
   have hW9 := HWM.out.setM (j := 4) (y := { x with pau := true }) (v := .bool true) HX2.out (by omega) rfl
   have hK9 : Kept W (W.setCell ⟨q.m, i * 5 + 4, none⟩ (.bool true)) (· = q.m) := (Kept.refl _ _).setCell rfl
   exact ⟨hK9, HI.out.next HLM.out HK.out HX.out (by rw [HMS.out]; exact hW9) hfin.out hK9 hne.out.2.2.2 ⟨HI.out.e.1.kept hK9 hne.out.1, HI.out.e.2.1.kept hK9 hne.out.2.1, HI.out.e.2.2.kept hK9 hne.out.2.2.1⟩⟩
  | false =>
  have n1 : Hid (¬ k.pause = (n : Int)) := by intro e; rw [e] at t1; simp at t1
  cases t2 : (((n : Nat) : Int) == k.resume) with
  | true =>
   have hfin : Hid ({ x with pau := false } = xA1 n k x) := by unfold Hid xA1; rw [if_neg (by rw [HXR.out]; simp), if_neg n1.out, if_pos (eq_of_beq t2).symm]
   gi_wp2
   have hW9 := HWM.out.setM (j := 4) (y := { x with pau := false }) (v := .bool false) HX2.out (by omega) rfl
   have hK9 : Kept W (W.setCell ⟨q.m, i * 5 + 4, none⟩ (.bool false)) (· = q.m) := (Kept.refl _ _).setCell rfl
   exact ⟨hK9, HI.out.next HLM.out HK.out HX.out (by rw [HMS.out]; exact hW9) hfin.out hK9 hne.out.2.2.2 ⟨HI.out.e.1.kept hK9 hne.out.1, HI.out.e.2.1.kept hK9 hne.out.2.1, HI.out.e.2.2.kept hK9 hne.out.2.2.1⟩⟩
  | false =>
   have hsame : Hid (xA1 n k x = x) := by unfold Hid xA1; rw [if_neg (by rw [HXR.out]; simp), if_neg n1.out, if_neg (fun e => by rw [e] at t2; simp at t2)]
   gi_wp2
   exact ⟨Kept.refl _ _, HI.out.same HLM.out HK.out HX.out hsame.out (Below.refl _ _) HI.out.e⟩
 ·intro D1 W hD1 hI hK
  obtain ⟨S1, hS1⟩ : ∃ l, List.zipWith (xA1 n) c.cl s.marks = l := ⟨_, rfl⟩
  have HS1 := qzL hS1
  have hWD : Hid (Wk w0 W b c m { s with marks := S1 } q) := by unfold Hid; rw [← hS1, ← xEj (f := xA1 n) hW1.out.lm]; exact hI.wk
  have hKD : Hid (Kept w W (pS q)) := (Kept.of_below hB1.out).trans (hI.k.weak fun x h => .inr (.inr h))
  have gxD := hI.e.1
  have gnD := hI.e.2.1
  have gaD := hI.e.2.2
  have HD1 := qzL hK
  have hDl : D1 < W.heap.size := (Array.getElem?_eq_some_iff.1 hK).1
  have hDn : Hid (D1 ≠ q.h ∧ D1 ≠ q.u ∧ D1 ≠ q.m ∧ D1 ≠ b ∧ w1.heap.size ≤ D1) := by have := hW1.out.bnd; unfold Hid; omega
  have hG1 : Hid (∀ x ∈ S1, x.runs = true → 0 ≤ x.got ∧ x.got ≤ 9) := by
   unfold Hid; rw [← hS1]
   exact zip_got (P := fun x => x.runs = true → 0 ≤ x.got ∧ x.got ≤ 9) (fun k x h hr => by rw [pause1_got]; exact h (by rw [← hr, pause1_run])) HG.out
  clear hI hK hS1 gx1 gn1 ga1 gy hW1 hB1 hne hDl
  go_upto_region 11 with ((refine xAh rfl 124 _ _ rfl W.heap.size 124 [] [.nilFunc, .nilFunc, .nilFunc, .nilFunc, .nilFunc] [] effA rfl rfl (Blk.new _ _ _) rfl (by kernel_rfl) (by simp [Value.oneCell']) ?_; intro X gX uX; simp only [Act.put]))
  have hbX : Below W.heap.size W X := (wa1 W _).trans (uX.b _ (Nat.le_refl _))
  obtain ⟨be, ebe⟩ : ∃ b, W.heap.size = b := ⟨_, rfl⟩
  have hle : Hid (W.heap.size = be) := ebe
  have geX : Blk X be 124 effA.toArray := by rw [← ebe]; exact gX
  rw [ebe]
  clear gX uX ebe
  have hWX := qzL (hWD.out.then_ hbX)
  have hKX : Hid (Kept w X (pS q)) := hKD.out.trans (Kept.of_below hbX)
  have hDX : Hid (X.heap[D1]? = some (.deferred (some []))) := (hbX.block D1 (Array.getElem?_eq_some_iff.1 HD1.out).1).trans HD1.out
  have gxX := gxD.then_ hbX
  have gnX := gnD.then_ hbX
  have gaX := gaD.then_ hbX
  have hlX : Hid (W.heap.size ≤ X.heap.size ∧ be < X.heap.size) := ⟨hbX.size, geX.lt⟩
  clear gxD gnD gaD hWD hKD HD1 hbX
  have gz := hWX.out.g
  have k0 : X.cell? ⟨b, 0, none⟩ = some (.int .i64 c.par) := gz.cell 0
  have k1' : X.cell? ⟨b, 1, none⟩ = some (.slice m.h c.hold.length m.hc) := gz.cell 1
  have k2 : X.cell? ⟨b, 2, none⟩ = some (.slice m.u c.un.length m.uc) := gz.cell 2
  have k3 : X.cell? ⟨b, 3, none⟩ = some (.slice m.a c.ac.length m.ac) := gz.cell 3
  have k4 : X.cell? ⟨b, 4, none⟩ = some (.slice m.k c.cl.length m.kc) := gz.cell 4
  have k5 : X.cell? ⟨b, 5, none⟩ = some (.int .i64 c.days) := gz.cell 5
  have k6 : X.cell? ⟨b, 6, none⟩ = some (.slice m.o c.off.length m.oc) := gz.cell 6
  have k7 : X.cell? ⟨b, 7, none⟩ = some (.int .i64 s.day) := gz.cell 7
  have k8 : X.cell? ⟨b, 8, none⟩ = some (.slice (some ⟨q.h, 0, none⟩) s.hol.length q.hc) := gz.cell 8
  have k9 : X.cell? ⟨b, 9, none⟩ = some (.slice (some ⟨q.u, 0, none⟩) s.used.length q.uc) := gz.cell 9
  have k10 : X.cell? ⟨b, 10, none⟩ = some (.slice (some ⟨q.m, 0, none⟩) S1.length q.mc) := gz.cell 10
  have x0 : X.cell? ⟨bx, 0, none⟩ = some (.pointer (some ⟨b, 0, none⟩)) := gxX.cell 0
  have n0 : X.cell? ⟨bn, 0, none⟩ = some (.int .i64 (n : Nat)) := gnX.cell 0
  clear gz
  obtain ⟨dr, hdr⟩ : ∃ z, xA9 a s.hol = z := ⟨_, rfl⟩
  have HDR := qzL hdr
  have HDO : Hid (∀ W, Below X.heap.size X W → Calls Tryz.prog 72 #[.agg #[.int .i64 c.par, .slice m.h c.hold.length m.hc, .slice m.u c.un.length m.uc, .slice m.a c.ac.length m.ac, .slice m.k c.cl.length m.kc, .int .i64 c.days, .slice m.o c.off.length m.oc],
    .agg #[.int .i64 s.day, .slice (some ⟨q.h, 0, none⟩) s.hol.length q.hc, .slice (some ⟨q.u, 0, none⟩) s.used.length q.uc, .slice (some ⟨q.m, 0, none⟩) S1.length q.mc], .int .i64 (n : Nat)] W fun e w' => e = .returned (.int .i64 dr) ∧ Below W.heap.size W w') := fun W hb => by
   have h := doer_any c m { s with marks := S1 } q.q n a W ((hWX.out.then_ hb).cont) ((hWX.out.then_ hb).stm) HA.out (by rcases HAO.out.2.1 with h | h; exact .inl h; exact .inr ⟨h.1, by show a.role < (s.hol.length : Int); rw [HL.out]; exact h.2⟩)
   rw [show xA9 a ({ s with marks := S1 } : Sta).hol = dr from hdr] at h
   exact h
  clear hdr
  refine xDh (T := 3) (zs := #[.int .i64 0]) [0, 1, 2, 3, 4, 5, 6, 7, 8, 9] [] [11] 10 7 (by kernel_rfl) (by kernel_rfl) pO (fun _ _ => by rfl) ?_
  apply Exists.intro
  refine ⟨?_, ?_⟩
  ·intro S gS hGS
   haveI := hGS.2.2
   have rg0 := xA3 hGS x0
   have rg1 := xA3 hGS n0
   have rg2 := xA3 hGS k0
   have rg3 := xA3 hGS k1'
   have rg4 := xA3 hGS k2
   have rg5 := xA3 hGS k3
   have rg6 := xA3 hGS k4
   have rg7 := xA3 hGS k5
   have rg8 := xA3 hGS k6
   have rg9 := xA3 hGS k7
   have rg10 := xA3 hGS k8
   have rg11 := xA3 hGS k9
   have rg12 := xA3 hGS k10
   unfold cls
   simp only [xAn, qzA, qzB, qzC, qzD, qzE, qzF]
   repeat (go_big_quiet_step ((go_at_call 72; exact qa_call hGS (fun W' hW' => HDO.out W' hW') _)))
   refine wpQuiet_nil ?_
   exact rfl
  intro bd Y hbd hbY gbd
  simp only [xAn, qzA, qzB, qzC, qzD, qzE, qzF, Act.put, qzG, qzH, qzI]
  clear x0 n0 k0 k1' k2 k3 k4 k5 k6 k7 k8 k9 k10 HDO
  have cd : Y.cell? ⟨bd, 0, none⟩ = some (.int .i64 0) := gbd.cell 0
  have cdf : Y.frozen? ⟨bd, 0, none⟩ = false := gbd.frozen 0
  go_upto_region 12 with (fail)
  refine xAi ?_
  intro V hV
  have uV : Upd Y V bd := by rw [hV]; exact (Upd.refl _ _).setCell _ _
  have gdV : Blk V bd 3 #[.int .i64 dr] := by rw [hV]; exact gbd.set_ 0 _
  have hnb : Hid (bx ≠ bd ∧ bn ≠ bd ∧ la ≠ bd ∧ be ≠ bd) := by have h1 := gxX.lt; have h2 := gnX.lt; have h3 := gaX.lt; have h4 := geX.lt; unfold Hid; omega
  have hXV : Below X.heap.size X V := hbY.trans (uV.b _ hbd)
  have gxV := gxX.then_ hXV
  have gnV := gnX.then_ hXV
  have gaV := gaX.then_ hXV
  have geV := geX.then_ hXV
  have hWV := qzL (hWX.out.then_ hXV)
  have hKV : Hid (Kept w V (pS q)) := hKX.out.trans (Kept.of_below hXV)
  have hDV : Hid (V.heap[D1]? = some (.deferred (some []))) := (hXV.block D1 (Array.getElem?_eq_some_iff.1 hDX.out).1).trans hDX.out
  have hbdl := qzL hbd
  clear hV uV gbd hbY hbd cd cdf hXV gxX gnX gaX geX hWX hKX hDX
  have x0 : V.cell? ⟨bx, 0, none⟩ = some (.pointer (some ⟨b, 0, none⟩)) := gxV.cell 0
  have HRN := qzL (fun W => xCt b W)
  go_wp2_with (go_at_call 69; (with_reducible refine (HRN.out _).mono ?_); rintro e w2 ⟨rfl, hw1⟩; have HW1 := qzL hw1; clear hw1)
  have hw1 := HW1.out
  have hb1 : Below V.heap.size V w2 := by rw [hw1]; exact wa1 _ _
  have gy : Blk w2 V.heap.size 98 #[.pointer (some ⟨b, 0, none⟩)] := by rw [hw1]; exact Blk.new _ _ _
  have hW2 := qzL (hWV.out.then_ hb1)
  have hK2 : Hid (Kept w w2 (pS q)) := hKV.out.trans (Kept.of_below hb1)
  have hD2 : Hid (w2.heap[D1]? = some (.deferred (some []))) := (hb1.block D1 (Array.getElem?_eq_some_iff.1 hDV.out).1).trans hDV.out
  have gx2 := gxV.then_ hb1
  have gn2 := gnV.then_ hb1
  have ga2 := gaV.then_ hb1
  have ge2 := geV.then_ hb1
  have gd2 := gdV.then_ hb1
  have hne : Hid (¬ bx = q.m ∧ ¬ bn = q.m ∧ ¬ la = q.m ∧ ¬ be = q.m ∧ ¬ bd = q.m ∧ ¬ V.heap.size = q.m) := by
   have h1 := HW.out.bnd
   have h2 := hlx.out
   have h3 := hlla2.out
   have h4 := hWV.out.bnd
   obtain ⟨_, h7⟩ := hWV.out.om.blkT
   have h6 := xBc gdV h7 (by decide)
   have h8 := xBc geV h7 (by decide)
   unfold Hid
   omega
  have hneS : Hid (¬ pS q bx ∧ ¬ pS q bn ∧ ¬ pS q la) := by
   have h1 := HW.out.bnd
   have h2 := hlx.out
   have h3 := hlla2.out
   unfold Hid pS
   omega
  obtain ⟨bz, ebz⟩ : ∃ b, V.heap.size = b := ⟨_, rfl⟩
  rw [ebz] at gy hne ⊢
  clear hw1 HW1 HRN x0 gxV gnV gaV geV gdV hWV hKV hDV ebz hb1
  refine xEe bz _ _ _ _ rfl rfl (by simp) rfl rfl rfl rfl hW2.out gy (· = q.m) (by have := hW2.out.bnd; rintro x rfl; omega) (xAy n dr) (xI7 n dr)
   (fun W => Blk W bx 98 #[.pointer (some ⟨b, 0, none⟩)] ∧ Blk W bn 3 #[.int .i64 (n : Nat)] ∧ Blk W la 92 (aL a).toArray ∧ Blk W be 124 effA.toArray ∧ Blk W bd 3 #[.int .i64 dr] ∧ W.heap[D1]? = some (.deferred (some [])))
   (fun W W' h hb => ⟨h.1.below hb gx2.lt, h.2.1.below hb gn2.lt, h.2.2.1.below hb ga2.lt, h.2.2.2.1.below hb ge2.lt, h.2.2.2.2.1.below hb gd2.lt, (hb.block D1 (Array.getElem?_eq_some_iff.1 hD2.out).1).trans h.2.2.2.2.2⟩) ⟨gx2, gn2, ga2, ge2, gd2, hD2.out⟩ ?_ ?_
  ·intro l i k x W hI hk hx hr hlW
   simp only [qzG, qzH, qzI]
   have hlm := hW2.out.lm
   have hik : i < c.cl.length := (qzM hk).1
   have nk := hW2.out.cn.nk
   obtain ⟨kx, hkx, hkk⟩ := xC3 hI.wk.cn.e hk
   obtain ⟨b2, o2, eA2, hb2, hc2⟩ := xAv hI.wk.cont.k hkx
   have hrg : W.rangeAt b2 (o2 + i * 16) (kL kx) := fun j v hv => hc2 j v hv
   have hix3 := fun W => xAp (t := 25) (size := 16) (cap := m.kc) eA2 hik (by kernel_rfl) (fun W => by kernel_rfl) W
   have hx2 : (mixM (xAy n dr) c.cl S1 i)[i]? = some x := (xD6 hlm hik).trans hx
   have HI := qzL hI
   have HK := qzL hk
   have HX := qzL hx
   have HLM := qzL hlm
   have HXR := qzL hr
   have x0 : W.cell? ⟨bx, 0, none⟩ = some (.pointer (some ⟨b, 0, none⟩)) := hI.e.1.cell 0
   have n0 : W.cell? ⟨bn, 0, none⟩ = some (.int .i64 (n : Nat)) := hI.e.2.1.cell 0
   have k4 : W.cell? ⟨b, 4, none⟩ = some (.slice m.k c.cl.length m.kc) := hI.wk.g.cell 4
   have c9 : W.cell? ⟨b2, o2 + i * 16 + 9, none⟩ = some (.int .i64 k.pause) := by rw [← hkk]; exact hc2 9 _ rfl
   have c10 : W.cell? ⟨b2, o2 + i * 16 + 10, none⟩ = some (.int .i64 k.resume) := by rw [← hkk]; exact hc2 10 _ rfl
   clear hI hk hx hr hlm hc2 eA2 hkx
   have HWm := HI.out.wk
   obtain ⟨ms', hms⟩ : ∃ l, mixM (xAy n dr) c.cl S1 i = l := ⟨_, rfl⟩
   have HMS := qzL hms
   rw [hms] at hx2 HWm
   have hil : i < ms'.length := (qzM hx2).1
   have nms : ms'.length ≤ 1000000 := HWm.nm
   have hix4 := fun W => xA4 (t := 45) (size := 5) (g := q.m) (cap := q.mc) hil (by kernel_rfl) (fun W => by kernel_rfl) W
   have HX2 := qzL hx2
   have HWM := qzL HWm
   clear hms hx2 HWm
   cases t1 : (k.act == ((n : Nat) : Int)) with
   | false =>
    have hsame : Hid (xAy n dr k x = x) := by unfold Hid xAy; rw [if_pos (.inr (.inl (fun e => by rw [e] at t1; simp at t1)))]
    gi_step
    gi_step
    gi_step
    (with_reducible refine xAe ?_ ?_ ?_; (focus kernel_rfl); exact nO)
    go_wp2_with ((refine xAm 95 el16 _ _ _ rfl rfl rfl rfl rfl rfl rfl rfl rfl b2 _ rfl (kL kx) rfl hrg (by simp [Value.oneCell']) (by decide) (by simp) (by simp) ?_; simp only [Act.put, qzG, qzH, qzI]; refine xBq ?_; intro Y1 hY; have gk : Blk Y1 W.heap.size 95 (kL kx).toArray := (by rw [hY]; exact Blk.new _ _ _); have HY1 : Hid (Below W.heap.size W Y1) := (by rw [hY]; exact wa1 _ _); have GK := qzL gk; clear hY gk))
    clear x0 n0 k4 c9 c10
    have x1 : Y1.cell? ⟨bx, 0, none⟩ = some (.pointer (some ⟨b, 0, none⟩)) := (HI.out.e.1.then_ HY1.out).cell 0
    have n1 : Y1.cell? ⟨bn, 0, none⟩ = some (.int .i64 (n : Nat)) := (HI.out.e.2.1.then_ HY1.out).cell 0
    have c2 : Y1.cell? ⟨W.heap.size, 2, none⟩ = some (.int .i64 k.act) := by rw [← hkk]; exact GK.out.cell 2
    have c0 : Y1.cell? ⟨W.heap.size, 0, none⟩ = some (.int .i64 k.kind) := by rw [← hkk]; exact GK.out.cell 0
    have k10 : Y1.cell? ⟨b, 10, none⟩ = some (.slice (some ⟨q.m, 0, none⟩) ms'.length q.mc) := (HWM.out.then_ HY1.out).g.cell 10
    have m3 : Y1.cell? ⟨q.m, i * 5 + 3, none⟩ = some (.int .i64 x.brr) := ((HWM.out.then_ HY1.out).mark HX2.out).2.2.2.1.1
    have cd : Y1.cell? ⟨bd, 0, none⟩ = some (.int .i64 dr) := (HI.out.e.2.2.2.2.1.then_ HY1.out).cell 0
    gi_step
    have rg0 := cR x1
    have rg1 := cR n1
    have rg2 := cR c2
    have rg3 := cR c0
    have rg4 := cR k10
    have rg5 := cR m3
    have rg6 := cR cd
    refine xAx [] [0, 1, 2, 3, 4, 5, 6, 7, 8, 9, 10, 11, 12, 13, 14, 15, 16, 17, 18, 19, 20, 21] [] (by kernel_rfl) nO (by kernel_rfl) (by kernel_rfl) pO ?_
    simp only [xAn, qzA, qzB, qzC, qzD, qzE, qzF]
    repeat (go_big_quiet_step (skip))
    refine wpQuiet_nil ?_
    intro U hw2
    have hbU := xAj hw2
    clear hw2 rg0 rg1 rg2 rg3 rg4 rg5 rg6
    refine xAw ?_
    gi_wp2
    exact ⟨Kept.of_below (xAa HY1.out hbU), HI.out.same HLM.out HK.out HX.out hsame.out (xAa HY1.out hbU) ⟨HI.out.e.1.then_ (xAa HY1.out hbU), HI.out.e.2.1.then_ (xAa HY1.out hbU), HI.out.e.2.2.1.then_ (xAa HY1.out hbU), HI.out.e.2.2.2.1.then_ (xAa HY1.out hbU), HI.out.e.2.2.2.2.1.then_ (xAa HY1.out hbU), ((xAa HY1.out hbU).block D1 (Array.getElem?_eq_some_iff.1 HI.out.e.2.2.2.2.2).1).trans HI.out.e.2.2.2.2.2⟩⟩
   | true =>
   have hka : Hid (k.act = (n : Int)) := eq_of_beq t1
   cases t4 : (k.kind == 4) with
   | true =>
    have hkd : Hid (k.kind = 4) := eq_of_beq t4
    have hfin : Hid (x.endS 3 = xAy n dr k x) := by unfold Hid xAy; rw [if_neg (show ¬ (x.runs = false ∨ k.act ≠ (n : Int) ∨ ¬ (k.kind = 4 ∨ x.brr = dr)) by rw [HXR.out, hka.out]; simp; exact fun h => absurd hkd.out h), if_neg (show ¬ k.kind = 1 by have := hkd.out; omega), if_neg (show ¬ k.kind = 2 by have := hkd.out; omega)]
    gi_step
    gi_step
    gi_step
    (with_reducible refine xAe ?_ ?_ ?_; (focus kernel_rfl); exact nO)
    go_wp2_with ((refine xAm 95 el16 _ _ _ rfl rfl rfl rfl rfl rfl rfl rfl rfl b2 _ rfl (kL kx) rfl hrg (by simp [Value.oneCell']) (by decide) (by simp) (by simp) ?_; simp only [Act.put, qzG, qzH, qzI]; refine xBq ?_; intro Y1 hY; have gk : Blk Y1 W.heap.size 95 (kL kx).toArray := (by rw [hY]; exact Blk.new _ _ _); have HY1 : Hid (Below W.heap.size W Y1) := (by rw [hY]; exact wa1 _ _); have GK := qzL gk; clear hY gk))
    clear x0 n0 k4 c9 c10
    have x1 : Y1.cell? ⟨bx, 0, none⟩ = some (.pointer (some ⟨b, 0, none⟩)) := (HI.out.e.1.then_ HY1.out).cell 0
    have n1 : Y1.cell? ⟨bn, 0, none⟩ = some (.int .i64 (n : Nat)) := (HI.out.e.2.1.then_ HY1.out).cell 0
    have c2 : Y1.cell? ⟨W.heap.size, 2, none⟩ = some (.int .i64 k.act) := by rw [← hkk]; exact GK.out.cell 2
    have c0 : Y1.cell? ⟨W.heap.size, 0, none⟩ = some (.int .i64 k.kind) := by rw [← hkk]; exact GK.out.cell 0
    have k10 : Y1.cell? ⟨b, 10, none⟩ = some (.slice (some ⟨q.m, 0, none⟩) ms'.length q.mc) := (HWM.out.then_ HY1.out).g.cell 10
    have m3 : Y1.cell? ⟨q.m, i * 5 + 3, none⟩ = some (.int .i64 x.brr) := ((HWM.out.then_ HY1.out).mark HX2.out).2.2.2.1.1
    have cd : Y1.cell? ⟨bd, 0, none⟩ = some (.int .i64 dr) := (HI.out.e.2.2.2.2.1.then_ HY1.out).cell 0
    gi_step
    have rg0 := cR x1
    have rg1 := cR n1
    have rg2 := cR c2
    have rg3 := cR c0
    have rg4 := cR k10
    have rg5 := cR m3
    have rg6 := cR cd
    refine xAx [] [0, 1, 2, 3, 4, 5, 6, 7, 8, 9, 10, 11, 12, 13, 14, 15, 16, 17, 18, 19, 20, 21] [] (by kernel_rfl) nO (by kernel_rfl) (by kernel_rfl) pO ?_
    simp only [xAn, qzA, qzB, qzC, qzD, qzE, qzF]
    repeat (go_big_quiet_step (skip))
    refine wpQuiet_nil ?_
    intro U hw2
    have hbU := xAj hw2
    clear hw2 rg0 rg1 rg2 rg3 rg4 rg5 rg6
    refine xAw ?_
    gi_wp2
    have hBU : Hid (Below W.heap.size W U) := xAa HY1.out hbU
    have ck : U.cell? ⟨W.heap.size, 0, none⟩ = some (.int .i64 4) := by rw [← hkd.out, ← hkk]; exact (GK.out.then_ hbU).cell 0
    have e1 : U.cell? ⟨be, 4, none⟩ = some (.func (.func 66) #[] #[]) := (HI.out.e.2.2.2.1.then_ hBU.out).cell 4
    have x2 : U.cell? ⟨bx, 0, none⟩ = some (.pointer (some ⟨b, 0, none⟩)) := (HI.out.e.1.then_ hBU.out).cell 0
    clear x1 n1 c2 c0 k10 m3 cd hbU
    obtain ⟨yy, hyy⟩ : ∃ y, xAy n dr k x = y := ⟨_, rfl⟩
    have HYY := qzL hyy
    clear hyy
    have rg0 := cR ck
    have rg1 := cR e1
    have rg2 := cR x2
    refine xAx [] [0, 1, 2, 3, 4, 5] [6] (by kernel_rfl) nO (by kernel_rfl) (by kernel_rfl) pO ?_
    simp only [xAn, qzA, qzB, qzC, qzD, qzE, qzF]
    repeat (go_big_quiet_step (skip))
    refine wpQuiet_nil ?_
    intro U2 hw2
    have hbU2 := xAj hw2
    clear hw2 rg0 rg1 rg2
    have hWU := qzL (HWM.out.then_ (xAa hBU.out hbU2))
    have hB2 := qzL (xAa hBU.out hbU2)
    have HE : Hid (Calls Tryz.prog 66 #[.pointer (some ⟨b, 0, none⟩), .int .i64 (i : Nat)] U2 fun e w' => Eff w0 U2 b c m { s with marks := ms' } q i yy e w') := by
     have h := xE5 w0 b c m { s with marks := ms' } q i x U2 hWU.out HX2.out
     rw [hfin.out, HYY.out] at h
     exact h
    go_wp2_with (go_at_call 66; (with_reducible refine HE.out.mono ?_); rintro e w3 ⟨rfl, h1, h2⟩)
    have hK9 : Kept W w3 (· = q.m) := (Kept.of_below hB2.out).trans h2
    exact ⟨hK9, HI.out.next HLM.out HK.out HX.out (by rw [HMS.out]; exact h1) HYY.out.symm hK9 hne.out.2.2.2.2.2 ⟨HI.out.e.1.kept hK9 hne.out.1, HI.out.e.2.1.kept hK9 hne.out.2.1, HI.out.e.2.2.1.kept hK9 hne.out.2.2.1, HI.out.e.2.2.2.1.kept hK9 hne.out.2.2.2.1, HI.out.e.2.2.2.2.1.kept hK9 hne.out.2.2.2.2.1, (hK9.k D1 (Array.getElem?_eq_some_iff.1 HI.out.e.2.2.2.2.2).1 hDn.out.2.2.1).trans HI.out.e.2.2.2.2.2⟩⟩
   | false =>
   have hk4 : Hid (k.kind ≠ 4) := by intro e; rw [e] at t4; simp at t4
   cases t5 : (x.brr == dr) with
   | false =>
    have hsame : Hid (xAy n dr k x = x) := by unfold Hid xAy; rw [if_pos (.inr (.inr (fun e => by rcases e with e | e; exact hk4.out e; rw [e] at t5; simp at t5)))]
    gi_step
    gi_step
    gi_step
    (with_reducible refine xAe ?_ ?_ ?_; (focus kernel_rfl); exact nO)
    go_wp2_with ((refine xAm 95 el16 _ _ _ rfl rfl rfl rfl rfl rfl rfl rfl rfl b2 _ rfl (kL kx) rfl hrg (by simp [Value.oneCell']) (by decide) (by simp) (by simp) ?_; simp only [Act.put, qzG, qzH, qzI]; refine xBq ?_; intro Y1 hY; have gk : Blk Y1 W.heap.size 95 (kL kx).toArray := (by rw [hY]; exact Blk.new _ _ _); have HY1 : Hid (Below W.heap.size W Y1) := (by rw [hY]; exact wa1 _ _); have GK := qzL gk; clear hY gk))
    clear x0 n0 k4 c9 c10
    have x1 : Y1.cell? ⟨bx, 0, none⟩ = some (.pointer (some ⟨b, 0, none⟩)) := (HI.out.e.1.then_ HY1.out).cell 0
    have n1 : Y1.cell? ⟨bn, 0, none⟩ = some (.int .i64 (n : Nat)) := (HI.out.e.2.1.then_ HY1.out).cell 0
    have c2 : Y1.cell? ⟨W.heap.size, 2, none⟩ = some (.int .i64 k.act) := by rw [← hkk]; exact GK.out.cell 2
    have c0 : Y1.cell? ⟨W.heap.size, 0, none⟩ = some (.int .i64 k.kind) := by rw [← hkk]; exact GK.out.cell 0
    have k10 : Y1.cell? ⟨b, 10, none⟩ = some (.slice (some ⟨q.m, 0, none⟩) ms'.length q.mc) := (HWM.out.then_ HY1.out).g.cell 10
    have m3 : Y1.cell? ⟨q.m, i * 5 + 3, none⟩ = some (.int .i64 x.brr) := ((HWM.out.then_ HY1.out).mark HX2.out).2.2.2.1.1
    have cd : Y1.cell? ⟨bd, 0, none⟩ = some (.int .i64 dr) := (HI.out.e.2.2.2.2.1.then_ HY1.out).cell 0
    gi_step
    have rg0 := cR x1
    have rg1 := cR n1
    have rg2 := cR c2
    have rg3 := cR c0
    have rg4 := cR k10
    have rg5 := cR m3
    have rg6 := cR cd
    refine xAx [] [0, 1, 2, 3, 4, 5, 6, 7, 8, 9, 10, 11, 12, 13, 14, 15, 16, 17, 18, 19, 20, 21] [] (by kernel_rfl) nO (by kernel_rfl) (by kernel_rfl) pO ?_
    simp only [xAn, qzA, qzB, qzC, qzD, qzE, qzF]
    repeat (go_big_quiet_step (skip))
    refine wpQuiet_nil ?_
    intro U hw2
    have hbU := xAj hw2
    clear hw2 rg0 rg1 rg2 rg3 rg4 rg5 rg6
    refine xAw ?_
    gi_wp2
    exact ⟨Kept.of_below (xAa HY1.out hbU), HI.out.same HLM.out HK.out HX.out hsame.out (xAa HY1.out hbU) ⟨HI.out.e.1.then_ (xAa HY1.out hbU), HI.out.e.2.1.then_ (xAa HY1.out hbU), HI.out.e.2.2.1.then_ (xAa HY1.out hbU), HI.out.e.2.2.2.1.then_ (xAa HY1.out hbU), HI.out.e.2.2.2.2.1.then_ (xAa HY1.out hbU), ((xAa HY1.out hbU).block D1 (Array.getElem?_eq_some_iff.1 HI.out.e.2.2.2.2.2).1).trans HI.out.e.2.2.2.2.2⟩⟩
   | true =>
   have hbr : Hid (x.brr = dr) := eq_of_beq t5
   have hgot := hG1.out x (qzK HX.out) HXR.out
   have hkd0 := (xDa HOK.out (qzK HK.out)).kd
   rcases hkd0 with hkd0 | hkd0 | hkd0 | hkd0
   ·have hkd := qzL hkd0
    have hfin : Hid ((if x.got + 1 = k.need then { x with got := x.got + 1 }.endS 3 else { x with got := x.got + 1 }) = xAy n dr k x) := by unfold Hid xAy; rw [if_neg (show ¬ (x.runs = false ∨ k.act ≠ (n : Int) ∨ ¬ (k.kind = 4 ∨ x.brr = dr)) by rw [HXR.out, hka.out]; simp; exact fun _ => hbr.out), if_pos hkd.out]
    clear hkd0
    gi_step
    gi_step
    gi_step
    (with_reducible refine xAe ?_ ?_ ?_; (focus kernel_rfl); exact nO)
    go_wp2_with ((refine xAm 95 el16 _ _ _ rfl rfl rfl rfl rfl rfl rfl rfl rfl b2 _ rfl (kL kx) rfl hrg (by simp [Value.oneCell']) (by decide) (by simp) (by simp) ?_; simp only [Act.put, qzG, qzH, qzI]; refine xBq ?_; intro Y1 hY; have gk : Blk Y1 W.heap.size 95 (kL kx).toArray := (by rw [hY]; exact Blk.new _ _ _); have HY1 : Hid (Below W.heap.size W Y1) := (by rw [hY]; exact wa1 _ _); have GK := qzL gk; clear hY gk))
    clear x0 n0 k4 c9 c10
    have x1 : Y1.cell? ⟨bx, 0, none⟩ = some (.pointer (some ⟨b, 0, none⟩)) := (HI.out.e.1.then_ HY1.out).cell 0
    have n1 : Y1.cell? ⟨bn, 0, none⟩ = some (.int .i64 (n : Nat)) := (HI.out.e.2.1.then_ HY1.out).cell 0
    have c2 : Y1.cell? ⟨W.heap.size, 2, none⟩ = some (.int .i64 k.act) := by rw [← hkk]; exact GK.out.cell 2
    have c0 : Y1.cell? ⟨W.heap.size, 0, none⟩ = some (.int .i64 k.kind) := by rw [← hkk]; exact GK.out.cell 0
    have k10 : Y1.cell? ⟨b, 10, none⟩ = some (.slice (some ⟨q.m, 0, none⟩) ms'.length q.mc) := (HWM.out.then_ HY1.out).g.cell 10
    have m3 : Y1.cell? ⟨q.m, i * 5 + 3, none⟩ = some (.int .i64 x.brr) := ((HWM.out.then_ HY1.out).mark HX2.out).2.2.2.1.1
    have cd : Y1.cell? ⟨bd, 0, none⟩ = some (.int .i64 dr) := (HI.out.e.2.2.2.2.1.then_ HY1.out).cell 0
    gi_step
    have rg0 := cR x1
    have rg1 := cR n1
    have rg2 := cR c2
    have rg3 := cR c0
    have rg4 := cR k10
    have rg5 := cR m3
    have rg6 := cR cd
    refine xAx [] [0, 1, 2, 3, 4, 5, 6, 7, 8, 9, 10, 11, 12, 13, 14, 15, 16, 17, 18, 19, 20, 21] [] (by kernel_rfl) nO (by kernel_rfl) (by kernel_rfl) pO ?_
    simp only [xAn, qzA, qzB, qzC, qzD, qzE, qzF]
    repeat (go_big_quiet_step (skip))
    refine wpQuiet_nil ?_
    intro U hw2
    have hbU := xAj hw2
    clear hw2 rg0 rg1 rg2 rg3 rg4 rg5 rg6
    refine xAw ?_
    gi_wp2
    have hBU : Hid (Below W.heap.size W U) := xAa HY1.out hbU
    have ck : U.cell? ⟨W.heap.size, 0, none⟩ = some (.int .i64 1) := by rw [← hkd.out, ← hkk]; exact (GK.out.then_ hbU).cell 0
    have e1 : U.cell? ⟨be, 1, none⟩ = some (.func (.func 70) #[] #[]) := (HI.out.e.2.2.2.1.then_ hBU.out).cell 1
    have x2 : U.cell? ⟨bx, 0, none⟩ = some (.pointer (some ⟨b, 0, none⟩)) := (HI.out.e.1.then_ hBU.out).cell 0
    clear x1 n1 c2 c0 k10 m3 cd hbU
    obtain ⟨yy, hyy⟩ : ∃ y, xAy n dr k x = y := ⟨_, rfl⟩
    have HYY := qzL hyy
    clear hyy
    have rg0 := cR ck
    have rg1 := cR e1
    have rg2 := cR x2
    refine xAx [] [0, 1, 2, 3, 4, 5] [6] (by kernel_rfl) nO (by kernel_rfl) (by kernel_rfl) pO ?_
    simp only [xAn, qzA, qzB, qzC, qzD, qzE, qzF]
    repeat (go_big_quiet_step (skip))
    refine wpQuiet_nil ?_
    intro U2 hw2
    have hbU2 := xAj hw2
    clear hw2 rg0 rg1 rg2
    have hWU := qzL (HWM.out.then_ (xAa hBU.out hbU2))
    have hB2 := qzL (xAa hBU.out hbU2)
    have HE : Hid (Calls Tryz.prog 70 #[.pointer (some ⟨b, 0, none⟩), .int .i64 (i : Nat)] U2 fun e w' => Eff w0 U2 b c m { s with marks := ms' } q i yy e w') := by
     have h := xIu w0 b c m { s with marks := ms' } q i x k U2 hWU.out HX2.out HK.out hgot
     rw [hfin.out, HYY.out] at h
     exact h
    go_wp2_with (go_at_call 70; (with_reducible refine HE.out.mono ?_); rintro e w3 ⟨rfl, h1, h2⟩)
    have hK9 : Kept W w3 (· = q.m) := (Kept.of_below hB2.out).trans h2
    exact ⟨hK9, HI.out.next HLM.out HK.out HX.out (by rw [HMS.out]; exact h1) HYY.out.symm hK9 hne.out.2.2.2.2.2 ⟨HI.out.e.1.kept hK9 hne.out.1, HI.out.e.2.1.kept hK9 hne.out.2.1, HI.out.e.2.2.1.kept hK9 hne.out.2.2.1, HI.out.e.2.2.2.1.kept hK9 hne.out.2.2.2.1, HI.out.e.2.2.2.2.1.kept hK9 hne.out.2.2.2.2.1, (hK9.k D1 (Array.getElem?_eq_some_iff.1 HI.out.e.2.2.2.2.2).1 hDn.out.2.2.1).trans HI.out.e.2.2.2.2.2⟩⟩
   ·have hkd := qzL hkd0
    have hfin : Hid ((if x.pau then x else x.endS 4) = xAy n dr k x) := by unfold Hid xAy; rw [if_neg (show ¬ (x.runs = false ∨ k.act ≠ (n : Int) ∨ ¬ (k.kind = 4 ∨ x.brr = dr)) by rw [HXR.out, hka.out]; simp; exact fun _ => hbr.out), if_neg (show ¬ k.kind = 1 by omega), if_pos hkd.out]
    clear hkd0
    gi_step
    gi_step
    gi_step
    (with_reducible refine xAe ?_ ?_ ?_; (focus kernel_rfl); exact nO)
    go_wp2_with ((refine xAm 95 el16 _ _ _ rfl rfl rfl rfl rfl rfl rfl rfl rfl b2 _ rfl (kL kx) rfl hrg (by simp [Value.oneCell']) (by decide) (by simp) (by simp) ?_; simp only [Act.put, qzG, qzH, qzI]; refine xBq ?_; intro Y1 hY; have gk : Blk Y1 W.heap.size 95 (kL kx).toArray := (by rw [hY]; exact Blk.new _ _ _); have HY1 : Hid (Below W.heap.size W Y1) := (by rw [hY]; exact wa1 _ _); have GK := qzL gk; clear hY gk))
    clear x0 n0 k4 c9 c10
    have x1 : Y1.cell? ⟨bx, 0, none⟩ = some (.pointer (some ⟨b, 0, none⟩)) := (HI.out.e.1.then_ HY1.out).cell 0
    have n1 : Y1.cell? ⟨bn, 0, none⟩ = some (.int .i64 (n : Nat)) := (HI.out.e.2.1.then_ HY1.out).cell 0
    have c2 : Y1.cell? ⟨W.heap.size, 2, none⟩ = some (.int .i64 k.act) := by rw [← hkk]; exact GK.out.cell 2
    have c0 : Y1.cell? ⟨W.heap.size, 0, none⟩ = some (.int .i64 k.kind) := by rw [← hkk]; exact GK.out.cell 0
    have k10 : Y1.cell? ⟨b, 10, none⟩ = some (.slice (some ⟨q.m, 0, none⟩) ms'.length q.mc) := (HWM.out.then_ HY1.out).g.cell 10
    have m3 : Y1.cell? ⟨q.m, i * 5 + 3, none⟩ = some (.int .i64 x.brr) := ((HWM.out.then_ HY1.out).mark HX2.out).2.2.2.1.1
    have cd : Y1.cell? ⟨bd, 0, none⟩ = some (.int .i64 dr) := (HI.out.e.2.2.2.2.1.then_ HY1.out).cell 0
    gi_step
    have rg0 := cR x1
    have rg1 := cR n1
    have rg2 := cR c2
    have rg3 := cR c0
    have rg4 := cR k10
    have rg5 := cR m3
    have rg6 := cR cd
    refine xAx [] [0, 1, 2, 3, 4, 5, 6, 7, 8, 9, 10, 11, 12, 13, 14, 15, 16, 17, 18, 19, 20, 21] [] (by kernel_rfl) nO (by kernel_rfl) (by kernel_rfl) pO ?_
    simp only [xAn, qzA, qzB, qzC, qzD, qzE, qzF]
    repeat (go_big_quiet_step (skip))
    refine wpQuiet_nil ?_
    intro U hw2
    have hbU := xAj hw2
    clear hw2 rg0 rg1 rg2 rg3 rg4 rg5 rg6
    refine xAw ?_
    gi_wp2
    have hBU : Hid (Below W.heap.size W U) := xAa HY1.out hbU
    have ck : U.cell? ⟨W.heap.size, 0, none⟩ = some (.int .i64 2) := by rw [← hkd.out, ← hkk]; exact (GK.out.then_ hbU).cell 0
    have e1 : U.cell? ⟨be, 2, none⟩ = some (.func (.func 71) #[] #[]) := (HI.out.e.2.2.2.1.then_ hBU.out).cell 2
    have x2 : U.cell? ⟨bx, 0, none⟩ = some (.pointer (some ⟨b, 0, none⟩)) := (HI.out.e.1.then_ hBU.out).cell 0
    clear x1 n1 c2 c0 k10 m3 cd hbU
    obtain ⟨yy, hyy⟩ : ∃ y, xAy n dr k x = y := ⟨_, rfl⟩
    have HYY := qzL hyy
    clear hyy
    have rg0 := cR ck
    have rg1 := cR e1
    have rg2 := cR x2
    refine xAx [] [0, 1, 2, 3, 4, 5] [6] (by kernel_rfl) nO (by kernel_rfl) (by kernel_rfl) pO ?_
    simp only [xAn, qzA, qzB, qzC, qzD, qzE, qzF]
    repeat (go_big_quiet_step (skip))
    refine wpQuiet_nil ?_
    intro U2 hw2
    have hbU2 := xAj hw2
    clear hw2 rg0 rg1 rg2
    have hWU := qzL (HWM.out.then_ (xAa hBU.out hbU2))
    have hB2 := qzL (xAa hBU.out hbU2)
    have HE : Hid (Calls Tryz.prog 71 #[.pointer (some ⟨b, 0, none⟩), .int .i64 (i : Nat)] U2 fun e w' => Eff w0 U2 b c m { s with marks := ms' } q i yy e w') := by
     have h := xIf w0 b c m { s with marks := ms' } q i x U2 hWU.out HX2.out
     rw [hfin.out, HYY.out] at h
     exact h
    go_wp2_with (go_at_call 71; (with_reducible refine HE.out.mono ?_); rintro e w3 ⟨rfl, h1, h2⟩)
    have hK9 : Kept W w3 (· = q.m) := (Kept.of_below hB2.out).trans h2
    exact ⟨hK9, HI.out.next HLM.out HK.out HX.out (by rw [HMS.out]; exact h1) HYY.out.symm hK9 hne.out.2.2.2.2.2 ⟨HI.out.e.1.kept hK9 hne.out.1, HI.out.e.2.1.kept hK9 hne.out.2.1, HI.out.e.2.2.1.kept hK9 hne.out.2.2.1, HI.out.e.2.2.2.1.kept hK9 hne.out.2.2.2.1, HI.out.e.2.2.2.2.1.kept hK9 hne.out.2.2.2.2.1, (hK9.k D1 (Array.getElem?_eq_some_iff.1 HI.out.e.2.2.2.2.2).1 hDn.out.2.2.1).trans HI.out.e.2.2.2.2.2⟩⟩
   ·have hkd := qzL hkd0
    have hfin : Hid (x.endS 3 = xAy n dr k x) := by unfold Hid xAy; rw [if_neg (show ¬ (x.runs = false ∨ k.act ≠ (n : Int) ∨ ¬ (k.kind = 4 ∨ x.brr = dr)) by rw [HXR.out, hka.out]; simp; exact fun _ => hbr.out), if_neg (show ¬ k.kind = 1 by omega), if_neg (show ¬ k.kind = 2 by omega)]
    clear hkd0
    gi_step
    gi_step
    gi_step
    (with_reducible refine xAe ?_ ?_ ?_; (focus kernel_rfl); exact nO)
    go_wp2_with ((refine xAm 95 el16 _ _ _ rfl rfl rfl rfl rfl rfl rfl rfl rfl b2 _ rfl (kL kx) rfl hrg (by simp [Value.oneCell']) (by decide) (by simp) (by simp) ?_; simp only [Act.put, qzG, qzH, qzI]; refine xBq ?_; intro Y1 hY; have gk : Blk Y1 W.heap.size 95 (kL kx).toArray := (by rw [hY]; exact Blk.new _ _ _); have HY1 : Hid (Below W.heap.size W Y1) := (by rw [hY]; exact wa1 _ _); have GK := qzL gk; clear hY gk))
    clear x0 n0 k4 c9 c10
    have x1 : Y1.cell? ⟨bx, 0, none⟩ = some (.pointer (some ⟨b, 0, none⟩)) := (HI.out.e.1.then_ HY1.out).cell 0
    have n1 : Y1.cell? ⟨bn, 0, none⟩ = some (.int .i64 (n : Nat)) := (HI.out.e.2.1.then_ HY1.out).cell 0
    have c2 : Y1.cell? ⟨W.heap.size, 2, none⟩ = some (.int .i64 k.act) := by rw [← hkk]; exact GK.out.cell 2
    have c0 : Y1.cell? ⟨W.heap.size, 0, none⟩ = some (.int .i64 k.kind) := by rw [← hkk]; exact GK.out.cell 0
    have k10 : Y1.cell? ⟨b, 10, none⟩ = some (.slice (some ⟨q.m, 0, none⟩) ms'.length q.mc) := (HWM.out.then_ HY1.out).g.cell 10
    have m3 : Y1.cell? ⟨q.m, i * 5 + 3, none⟩ = some (.int .i64 x.brr) := ((HWM.out.then_ HY1.out).mark HX2.out).2.2.2.1.1
    have cd : Y1.cell? ⟨bd, 0, none⟩ = some (.int .i64 dr) := (HI.out.e.2.2.2.2.1.then_ HY1.out).cell 0
    gi_step
    have rg0 := cR x1
    have rg1 := cR n1
    have rg2 := cR c2
    have rg3 := cR c0
    have rg4 := cR k10
    have rg5 := cR m3
    have rg6 := cR cd
    refine xAx [] [0, 1, 2, 3, 4, 5, 6, 7, 8, 9, 10, 11, 12, 13, 14, 15, 16, 17, 18, 19, 20, 21] [] (by kernel_rfl) nO (by kernel_rfl) (by kernel_rfl) pO ?_
    simp only [xAn, qzA, qzB, qzC, qzD, qzE, qzF]
    repeat (go_big_quiet_step (skip))
    refine wpQuiet_nil ?_
    intro U hw2
    have hbU := xAj hw2
    clear hw2 rg0 rg1 rg2 rg3 rg4 rg5 rg6
    refine xAw ?_
    gi_wp2
    have hBU : Hid (Below W.heap.size W U) := xAa HY1.out hbU
    have ck : U.cell? ⟨W.heap.size, 0, none⟩ = some (.int .i64 3) := by rw [← hkd.out, ← hkk]; exact (GK.out.then_ hbU).cell 0
    have e1 : U.cell? ⟨be, 3, none⟩ = some (.func (.func 66) #[] #[]) := (HI.out.e.2.2.2.1.then_ hBU.out).cell 3
    have x2 : U.cell? ⟨bx, 0, none⟩ = some (.pointer (some ⟨b, 0, none⟩)) := (HI.out.e.1.then_ hBU.out).cell 0
    clear x1 n1 c2 c0 k10 m3 cd hbU
    obtain ⟨yy, hyy⟩ : ∃ y, xAy n dr k x = y := ⟨_, rfl⟩
    have HYY := qzL hyy
    clear hyy
    have rg0 := cR ck
    have rg1 := cR e1
    have rg2 := cR x2
    refine xAx [] [0, 1, 2, 3, 4, 5] [6] (by kernel_rfl) nO (by kernel_rfl) (by kernel_rfl) pO ?_
    simp only [xAn, qzA, qzB, qzC, qzD, qzE, qzF]
    repeat (go_big_quiet_step (skip))
    refine wpQuiet_nil ?_
    intro U2 hw2
    have hbU2 := xAj hw2
    clear hw2 rg0 rg1 rg2
    have hWU := qzL (HWM.out.then_ (xAa hBU.out hbU2))
    have hB2 := qzL (xAa hBU.out hbU2)
    have HE : Hid (Calls Tryz.prog 66 #[.pointer (some ⟨b, 0, none⟩), .int .i64 (i : Nat)] U2 fun e w' => Eff w0 U2 b c m { s with marks := ms' } q i yy e w') := by
     have h := xE5 w0 b c m { s with marks := ms' } q i x U2 hWU.out HX2.out
     rw [hfin.out, HYY.out] at h
     exact h
    go_wp2_with (go_at_call 66; (with_reducible refine HE.out.mono ?_); rintro e w3 ⟨rfl, h1, h2⟩)
    have hK9 : Kept W w3 (· = q.m) := (Kept.of_below hB2.out).trans h2
    exact ⟨hK9, HI.out.next HLM.out HK.out HX.out (by rw [HMS.out]; exact h1) HYY.out.symm hK9 hne.out.2.2.2.2.2 ⟨HI.out.e.1.kept hK9 hne.out.1, HI.out.e.2.1.kept hK9 hne.out.2.1, HI.out.e.2.2.1.kept hK9 hne.out.2.2.1, HI.out.e.2.2.2.1.kept hK9 hne.out.2.2.2.1, HI.out.e.2.2.2.2.1.kept hK9 hne.out.2.2.2.2.1, (hK9.k D1 (Array.getElem?_eq_some_iff.1 HI.out.e.2.2.2.2.2).1 hDn.out.2.2.1).trans HI.out.e.2.2.2.2.2⟩⟩
   ·exact absurd hkd0 hk4.out
  ·intro D2 W hD hI hK
   obtain ⟨S2, hS2⟩ : ∃ l, List.zipWith (xAy n dr) c.cl S1 = l := ⟨_, rfl⟩
   have hWD : Hid (Wk w0 W b c m { s with marks := S2 } q) := by unfold Hid; rw [← hS2, ← xEj (f := xAy n dr) hW2.out.lm]; exact hI.wk
   have hKD : Hid (Kept w W (pS q)) := hK2.out.trans (hI.k.weak fun x h => .inr (.inr h))
   have hD1W := qzL hI.e.2.2.2.2.2
   have hD2W := qzL hK
   have gxW := hI.e.1
   have gnW := hI.e.2.1
   have gaW := hI.e.2.2.1
   have hD1l := (Array.getElem?_eq_some_iff.1 hD2.out).1
   have hDl : Hid (D1 < D2 ∧ ¬ pS q D1 ∧ ¬ pS q D2 ∧ b < D1 ∧ q.h < D1 ∧ q.u < D1 ∧ q.m < D1 ∧ w.heap.size ≤ D1) := by
    have h1 := hDn.out
    have h2 := HW.out.bnd
    have h3 := hlla2.out
    have h4 := hW2.out.bnd
    have h5 := hw1s.out
    unfold Hid pS
    omega
   have hf2 : Hid (R = (if a.kind = 1 then { s with marks := xAs c s.hol S2 } else { s with hol := s.hol.set a.give.toNat a.to_, used := s.used.set n true, marks := xAs c (s.hol.set a.give.toNat a.to_) (if a.kind = 3 then List.zipWith (xBb a) c.cl S2 else S2) })) := by
    unfold Hid; rw [hf1.out, HDR.out, HS1.out, hS2]
   have fin : ∀ (ts : Array Value) (V : World), Wk w0 V b c m R q → Kept W V (pS q) → LeavesInM Fence.wide 6 Tryz.prog Tryz.f49 ts (fun e w' => e = .returned (.tuple #[]) ∧ Wk w0 w' b c m R q ∧ Kept w w' (pS q)) [{ target := .collected D2, args := #[] }, { target := .collected D1, args := #[] }] .returning V := fun ts V hV hk => by
    have hd2 : V.heap[D2]? = some (.deferred (some [])) := (hk.k D2 (Array.getElem?_eq_some_iff.1 hD2W.out).1 hDl.out.2.2.1).trans hD2W.out
    have hd1 : V.heap[D1]? = some (.deferred (some [])) := (hk.k D1 (Array.getElem?_eq_some_iff.1 hD1W.out).1 hDl.out.2.1).trans hD1W.out
    have u2 := Upd.putObj (.deferred none) (Array.getElem?_eq_some_iff.1 hd2).1
    have hd1' : (V.putObj D2 (.deferred none)).heap[D1]? = some (.deferred (some [])) := (u2.f D1 (by have := hDl.out.1; omega)).trans hd1
    have u1 := Upd.putObj (.deferred none) (Array.getElem?_eq_some_iff.1 hd1').1
    refine xHz hd2 (xHz hd1' (xH0 rfl ?_))
    have hb : Below D1 V ((V.putObj D2 (.deferred none)).putObj D1 (.deferred none)) := (u2.b D1 (by have := hDl.out.1; omega)).trans (u1.b D1 (Nat.le_refl _))
    have h9 := hDl.out
    exact ⟨rfl, hV.belowN hb ⟨h9.2.2.2.1, h9.2.2.2.2.1, h9.2.2.2.2.2.1, h9.2.2.2.2.2.2.1⟩ (by have := HW.out.hb.size; omega), (hKD.out.trans hk).thenB (hb.mono h9.2.2.2.2.2.2.2)⟩
   have FIN := qzL fin
   clear fin hI hK hS2 hf1 gx2 gn2 ga2 ge2 gd2 gy
   have x0 : W.cell? ⟨bx, 0, none⟩ = some (.pointer (some ⟨b, 0, none⟩)) := gxW.cell 0
   have n0 : W.cell? ⟨bn, 0, none⟩ = some (.int .i64 (n : Nat)) := gnW.cell 0
   have a0 : W.cell? ⟨la, 0, none⟩ = some (.int .i64 a.kind) := gaW.cell 0
   cases k1 with
   | false =>
    have t1 := HK1.out
    have hf3 : Hid (R = { s with marks := xAs c s.hol S2 }) := by unfold Hid; rw [hf2.out, if_pos (by simpa [bne] using HK1.out)]
    have HS := qzL (xEc w0 b c m { s with marks := S2 } q W hWD.out HOK.out HL.out)
    go_wp2_with (go_at_call 46; (with_reducible refine HS.out.mono ?_); rintro e w3 ⟨rfl, h1, h2⟩)
    refine xEf ?_
    exact FIN.out _ w3 (by rw [hf3.out]; exact h1) (h2.weak fun x h => .inr (.inr h))
   | true =>
    have t1 := HK1.out
    have hk1n : a.kind ≠ 1 := by simpa [bne] using HK1.out
    have hf3 : Hid (R = { s with hol := s.hol.set a.give.toNat a.to_, used := s.used.set n true, marks := xAs c (s.hol.set a.give.toNat a.to_) (if a.kind = 3 then List.zipWith (xBb a) c.cl S2 else S2) }) := by unfold Hid; rw [hf2.out, if_neg hk1n]
    have hgv := HAO.out.2.2 hk1n
    obtain ⟨S3, hS3⟩ : ∃ l, (if a.kind = 3 then List.zipWith (xBb a) c.cl S2 else S2) = l := ⟨_, rfl⟩
    rw [hS3] at hf3
    have HSH : Hid (Calls Tryz.prog 73 #[.pointer (some ⟨b, 0, none⟩), .int .i64 (n : Nat)] W fun e w' => e = .returned (.tuple #[]) ∧ Wk w0 w' b c m { shS s n a with marks := S3 } q ∧ Kept W w' (pS q)) := by
     have h := shift_any w0 b c m { s with marks := S2 } q n a W hWD.out HA.out ⟨hgv.1, by show a.give < (s.hol.length : Int); rw [HL.out]; exact hgv.2.1⟩ hnu
     rw [show ({ s with marks := S2 } : Sta).marks = S2 from rfl, hS3] at h
     exact h
    have HST : Hid (∀ V, Wk w0 V b c m { shS s n a with marks := S3 } q → Calls Tryz.prog 46 #[.pointer (some ⟨b, 0, none⟩)] V fun e w' => e = .returned (.tuple #[]) ∧ Wk w0 w' b c m R q ∧ Kept V w' (· = q.m)) := fun V hV => by
     have h := xEc w0 b c m { shS s n a with marks := S3 } q V hV HOK.out (by show (s.hol.set a.give.toNat a.to_).length = _; rw [List.length_set]; exact HL.out)
     rw [hf3.out]
     exact h
    clear hk1n hgv hS3
    go_wp2_with (first | (go_at_call 73; (with_reducible refine HSH.out.mono ?_); rintro e w3 ⟨rfl, h1, h2⟩; have x0' : w3.cell? ⟨bx, 0, none⟩ = some (.pointer (some ⟨b, 0, none⟩)) := (gxW.kept h2 hneS.out.1).cell 0) | (go_at_call 46; (with_reducible refine (HST.out _ h1).mono ?_); rintro e w4 ⟨rfl, h3, h4⟩))
    refine xEf ?_
    exact FIN.out _ w4 h3 (h2.trans (h4.weak fun x h => .inr (.inr h)))
abbrev kB (k : Cla) (A : Option Addr) (cap : Nat) : Array Value := #[.int .i64 k.kind, .int .i64 k.role, .int .i64 k.act, .int .i64 k.need, .slice A k.start.length cap, .int .i64 k.aft, .int .i64 k.grace, .bool k.bus, .bool k.fin, .int .i64 k.pause, .int .i64 k.resume, .int .i64 k.v.1, .int .i64 k.v.2, .int .i64 k.unit, .int .i64 k.to_, .bool k.waived]
theorem vrun_any (c : Con) (m : Cm) (k : Cla) (A : Option Addr) (cap : Nat) (x : Mk) (w : World) (R : Bool) (hR : R = xDb c k x) :
  Calls Tryz.prog 95 #[.agg (coA c m), .agg (kB k A cap), .agg (mA x)] w fun e w' => e = .returned (.bool R) ∧ Below w.heap.size w w' := by
 have HR := qzL hR
 clear hR
 go_enter Tryz.func95, Tryz.ntmps95
 go_upto_region 1 with (fail)
 refine xAi ?_
 intro X hX
 have ga : Blk X w.heap.size 27 (coA c m) := by rw [hX]; exact ((xA0 (by simp)).alloc _).alloc _
 have gk : Blk X (w.heap.size + 1) 95 (kB k A cap) := by rw [hX]; exact (xA0 (by simp)).alloc _
 have gm : Blk X (w.heap.size + 2) 61 (mA x) := by rw [hX]; exact xA0 (by simp)
 have HB : Below w.heap.size w X := by rw [hX]; (repeat (first | exact Below.refl _ _ | refine xAc ?_ _))
 clear hX
 have k0 : X.cell? ⟨w.heap.size, 0, none⟩ = some (.int .i64 c.par) := ga.cell 0
 have c0 : X.cell? ⟨w.heap.size + 1, 0, none⟩ = some (.int .i64 k.kind) := gk.cell 0
 have c3 : X.cell? ⟨w.heap.size + 1, 3, none⟩ = some (.int .i64 k.need) := gk.cell 3
 have c9 : X.cell? ⟨w.heap.size + 1, 9, none⟩ = some (.int .i64 k.pause) := gk.cell 9
 have c15 : X.cell? ⟨w.heap.size + 1, 15, none⟩ = some (.bool k.waived) := gk.cell 15
 have m1 : X.cell? ⟨w.heap.size + 2, 1, none⟩ = some (.int .i64 x.left) := gm.cell 1
 have m2 : X.cell? ⟨w.heap.size + 2, 2, none⟩ = some (.int .i64 x.got) := gm.cell 2
 have m3 : X.cell? ⟨w.heap.size + 2, 3, none⟩ = some (.int .i64 x.brr) := gm.cell 3
 have m4 : X.cell? ⟨w.heap.size + 2, 4, none⟩ = some (.bool x.pau) := gm.cell 4
 obtain ⟨wv, hwv⟩ : ∃ z, k.waived = z := ⟨_, rfl⟩
 obtain ⟨pu, hpu⟩ : ∃ z, x.pau = z := ⟨_, rfl⟩
 rw [hwv] at c15
 rw [hpu] at m4
 have HE := qzL (And.intro hwv hpu)
 clear hwv hpu ga gk gm
 obtain ⟨b1, t1⟩ : ∃ z, decide (x.left < 1) = z := ⟨_, rfl⟩
 obtain ⟨b2, t2⟩ : ∃ z, (k.pause == -1) = z := ⟨_, rfl⟩
 obtain ⟨b3, t3⟩ : ∃ z, (x.got != 0) = z := ⟨_, rfl⟩
 obtain ⟨b4, t4⟩ : ∃ z, (k.kind != 1) = z := ⟨_, rfl⟩
 obtain ⟨b5, t5⟩ : ∃ z, decide (x.got < 0) = z := ⟨_, rfl⟩
 obtain ⟨b6, t6⟩ : ∃ z, decide (k.need ≤ x.got) = z := ⟨_, rfl⟩
 obtain ⟨b7, t7⟩ : ∃ z, (k.kind == 4) = z := ⟨_, rfl⟩
 obtain ⟨b8, t8⟩ : ∃ z, (x.brr == -1) = z := ⟨_, rfl⟩
 obtain ⟨b9, t9⟩ : ∃ z, decide (0 ≤ x.brr) = z := ⟨_, rfl⟩
 obtain ⟨bA, tA⟩ : ∃ z, decide (x.brr < c.par) = z := ⟨_, rfl⟩
 have HS : Hid (R = (!(wv || b1 || (pu && b2)) && !(b3 && (b4 || b5 || b6)) && (if b7 = true then b8 else b9 && bA))) := by
  unfold Hid
  rw [HR.out, ← HE.out.1, ← HE.out.2, ← t1, ← t2, ← t3, ← t4, ← t5, ← t6, ← t7, ← t8, ← t9, ← tA]
  unfold xDb
  by_cases h : k.kind = 4
  ·simp [h]
  ·simp [h]
 clear HR HE
 have fl : (b3 : Bool) → True := fun _ => trivial
 clear fl
 cases wv with
 | true =>
  go_wp2
  go_ret
  exact ⟨xAb (by rw [HS.out]; simp), HB⟩
 | false =>
 cases b1 with
 | true =>
  go_wp2
  go_ret
  exact ⟨xAb (by rw [HS.out]; simp), HB⟩
 | false =>
 have first : (pu && b2) = false ∨ (pu = true ∧ b2 = true) := by cases pu <;> cases b2 <;> simp
 rcases first with hp | ⟨rfl, rfl⟩
 ·go_cut [22] from 7 to 22 (fun v W => v = .bool false ∧ X = W)
  case first =>
   cases pu with
   | false =>
    go_wp2
    go_meet
    case rel => exact ⟨rfl, rfl⟩
   | true =>
    cases b2 with
    | false =>
     go_wp2
     go_meet
     case rel => exact ⟨rfl, rfl⟩
    | true => cases hp
  obtain ⟨rfl, rfl⟩ := hcut
  have HS2 : Hid (R = (!(b3 && (b4 || b5 || b6)) && (if b7 = true then b8 else b9 && bA))) := by unfold Hid; rw [HS.out, hp]; simp
  clear HS hp
  cases b3 with
  | false =>
   have t3' : (x.got == 0) = true := by simpa [bne] using t3
   cases b7 with
   | true =>
    go_wp2
    go_ret
    exact ⟨xAb (by rw [HS2.out]; simp), HB⟩
   | false =>
    cases b9 with
    | true =>
     go_wp2
     go_ret
     exact ⟨xAb (by rw [HS2.out]; simp), HB⟩
    | false =>
     go_wp2
     go_ret
     exact ⟨xAb (by rw [HS2.out]; simp), HB⟩
  | true =>
   have t3' : (x.got == 0) = false := by simpa [bne] using t3
   cases b4 with
   | true =>
    have t4' : (k.kind == 1) = false := by simpa [bne] using t4
    go_wp2
    go_ret
    exact ⟨xAb (by rw [HS2.out]; simp), HB⟩
   | false =>
   have t4' : (k.kind == 1) = true := by simpa [bne] using t4
   cases b5 with
   | true =>
    go_wp2
    go_ret
    exact ⟨xAb (by rw [HS2.out]; simp), HB⟩
   | false =>
   cases b6 with
   | true =>
    go_wp2
    go_ret
    exact ⟨xAb (by rw [HS2.out]; simp), HB⟩
   | false =>
   cases b7 with
   | true =>
    exfalso
    have h1 := eq_of_beq t4'
    have h2 := eq_of_beq t7
    omega
   | false =>
    cases b9 with
    | true =>
     go_wp2
     go_ret
     exact ⟨xAb (by rw [HS2.out]; simp), HB⟩
    | false =>
     go_wp2
     go_ret
     exact ⟨xAb (by rw [HS2.out]; simp), HB⟩
 ·go_wp2
  go_ret
  exact ⟨xAb (by rw [HS.out]; simp), HB⟩
theorem eqvM (x y : Mk) (w : World) : (Op.equalIn 10000 61 (.agg #[.int .i64 x.st, .int .i64 x.left, .int .i64 x.got, .int .i64 x.brr, .bool x.pau]) (.agg #[.int .i64 y.st, .int .i64 y.left, .int .i64 y.got, .int .i64 y.brr, .bool y.pau])).run Tryz.prog w = .ok (decide (x = y)) w := by
 have e : (Tryz.prog.fieldsOf 61).toList = [{ name := "Status", type := 3, offset := 0, embedded := false, tag := "", pkgPath := "", byteOffset := 0 }, { name := "Left", type := 3, offset := 1, embedded := false, tag := "", pkgPath := "", byteOffset := 8 }, { name := "Got", type := 3, offset := 2, embedded := false, tag := "", pkgPath := "", byteOffset := 16 }, { name := "Bearer", type := 3, offset := 3, embedded := false, tag := "", pkgPath := "", byteOffset := 24 }, { name := "Paused", type := 4, offset := 4, embedded := false, tag := "", pkgPath := "", byteOffset := 32 }] := by kernel_rfl
 have px0 : (part 3 #[.int .i64 x.st, .int .i64 x.left, .int .i64 x.got, .int .i64 x.brr, .bool x.pau] 0).run Tryz.prog w = .ok (.int .i64 x.st) w := by kernel_rfl
 have px1 : (part 3 #[.int .i64 x.st, .int .i64 x.left, .int .i64 x.got, .int .i64 x.brr, .bool x.pau] 1).run Tryz.prog w = .ok (.int .i64 x.left) w := by kernel_rfl
 have px2 : (part 3 #[.int .i64 x.st, .int .i64 x.left, .int .i64 x.got, .int .i64 x.brr, .bool x.pau] 2).run Tryz.prog w = .ok (.int .i64 x.got) w := by kernel_rfl
 have px3 : (part 3 #[.int .i64 x.st, .int .i64 x.left, .int .i64 x.got, .int .i64 x.brr, .bool x.pau] 3).run Tryz.prog w = .ok (.int .i64 x.brr) w := by kernel_rfl
 have px4 : (part 4 #[.int .i64 x.st, .int .i64 x.left, .int .i64 x.got, .int .i64 x.brr, .bool x.pau] 4).run Tryz.prog w = .ok (.bool x.pau) w := by kernel_rfl
 have py0 : (part 3 #[.int .i64 y.st, .int .i64 y.left, .int .i64 y.got, .int .i64 y.brr, .bool y.pau] 0).run Tryz.prog w = .ok (.int .i64 y.st) w := by kernel_rfl
 have py1 : (part 3 #[.int .i64 y.st, .int .i64 y.left, .int .i64 y.got, .int .i64 y.brr, .bool y.pau] 1).run Tryz.prog w = .ok (.int .i64 y.left) w := by kernel_rfl
 have py2 : (part 3 #[.int .i64 y.st, .int .i64 y.left, .int .i64 y.got, .int .i64 y.brr, .bool y.pau] 2).run Tryz.prog w = .ok (.int .i64 y.got) w := by kernel_rfl
 have py3 : (part 3 #[.int .i64 y.st, .int .i64 y.left, .int .i64 y.got, .int .i64 y.brr, .bool y.pau] 3).run Tryz.prog w = .ok (.int .i64 y.brr) w := by kernel_rfl
 have py4 : (part 4 #[.int .i64 y.st, .int .i64 y.left, .int .i64 y.got, .int .i64 y.brr, .bool y.pau] 4).run Tryz.prog w = .ok (.bool y.pau) w := by kernel_rfl
 have u := Tryz.underlying3
 have v := Tryz.underlying4
 show (Op.equalIn (9998 + 1 + 1) _ _ _).run _ _ = _
 rw [run_equalIn_agg w (9998 + 1) 61 _ _ (by kernel_rfl) (by kernel_rfl), e]
 simp only [Op.eqFields, Sem.run_bind, px0, px1, px2, px3, px4, py0, py1, py2, py3, py4, Result.andThen_ok, run_equalIn_int w 9998 3 .i64 .i64 _ _ u, run_equalIn_bool' w 9998 4 _ _ v, ne_eq, Sem.run_ite, Sem.run_pure]
 have he : (x = y) ↔ (x.st = y.st ∧ x.left = y.left ∧ x.got = y.got ∧ x.brr = y.brr ∧ x.pau = y.pau) := by
  constructor
  ·rintro rfl; simp
  ·intro h
   cases x; cases y; simp_all
 rw [show decide (x = y) = decide (x.st = y.st ∧ x.left = y.left ∧ x.got = y.got ∧ x.brr = y.brr ∧ x.pau = y.pau) from decide_eq_decide.2 he]
 by_cases h0 : x.st = y.st <;> by_cases h1 : x.left = y.left <;> by_cases h2 : x.got = y.got <;> by_cases h3 : x.brr = y.brr <;> by_cases h4 : x.pau = y.pau <;> simp [h0, h1, h2, h3, h4]
theorem vmark_any (c : Con) (m : Cm) (i : Nat) (kx : Km) (x : Mk) (w : World) (hC : Cont w c m) (hk : m.ks[i]? = some kx) (R : Bool) (hR : R = xBs c kx.k x) :
  Calls Tryz.prog 64 #[.agg (coA c m), .int .i64 (i : Nat), .agg (mA x)] w fun e w' => e = .returned (.bool R) ∧ Below w.heap.size w w' := by
 have HR := qzL hR
 obtain ⟨v, hv⟩ : ∃ v, xDb c kx.k x = v := ⟨_, rfl⟩
 have HV := qzL (fun W => vrun_any c m kx.k kx.A kx.cap x W v hv.symm)
 have HVE := qzL hv
 have hik : i < c.cl.length := by rw [← hC.e]; simpa using (qzM hk).1
 have nk := hC.nk
 obtain ⟨b0, o0, eA0, hb0, hc0⟩ := xAv hC.k hk
 have hix0 := fun W => xAp (t := 25) (size := 16) (cap := m.kc) eA0 hik (by kernel_rfl) (fun W => by kernel_rfl) W
 have hrg0 : w.rangeAt b0 (o0 + i * 16) (kL kx) := fun j v hv => hc0 j v hv
 clear hR hv hC hk hc0 eA0
 go_enter Tryz.func64, Tryz.ntmps64
 go_upto_region 1 with (fail)
 refine xAi ?_
 intro X hX
 have ga : Blk X w.heap.size 27 (coA c m) := by rw [hX]; exact (xA0 (by simp)).alloc _
 have gm : Blk X (w.heap.size + 1) 61 (mA x) := by rw [hX]; exact xA0 (by simp)
 have HB : Below w.heap.size w X := by rw [hX]; (repeat (first | exact Below.refl _ _ | refine xAc ?_ _))
 have hrg : X.rangeAt b0 (o0 + i * 16) (kL kx) := fun j v hv => (HB.cell (p := ⟨b0, _, none⟩) hb0).trans (hrg0 j v hv)
 obtain ⟨bm, ebm⟩ : ∃ b, w.heap.size + 1 = b := ⟨_, rfl⟩
 obtain ⟨ba, eba⟩ : ∃ b, w.heap.size = b := ⟨_, rfl⟩
 rw [ebm] at gm ⊢
 rw [eba] at ga ⊢
 clear hX ebm eba hrg0
 have k4 : X.cell? ⟨ba, 4, none⟩ = some (.slice m.k c.cl.length m.kc) := ga.cell 4
 go_upto_region 2 with ((refine xAm 95 el16 _ _ _ rfl rfl rfl rfl rfl rfl rfl rfl rfl b0 _ rfl (kL kx) rfl hrg (by simp [Value.oneCell']) (by decide) (by simp) (by simp) ?_; simp only [Act.put, qzG, qzH, qzI]))
 refine xAi ?_
 intro Y hY
 have gk : Blk Y X.heap.size 95 (kL kx).toArray := by rw [hY]; exact Blk.new _ _ _
 have HXY : Below X.heap.size X Y := by rw [hY]; exact wa1 _ _
 have HY := qzL (xAa HB HXY)
 have gaY := ga.then_ HXY
 have gmY := gm.then_ HXY
 obtain ⟨bk, ebk⟩ : ∃ b, X.heap.size = b := ⟨_, rfl⟩
 rw [ebk] at gk ⊢
 clear hY ebk HB hrg k4 ga gm HXY
 obtain ⟨k0, k1, k2, k3, k4, k5, k6⟩ := coC (c := c) (m := m) gaY rfl
 have m0 : Y.cell? ⟨bm, 0, none⟩ = some (.int .i64 x.st) := gmY.cell 0
 have m1 : Y.cell? ⟨bm, 1, none⟩ = some (.int .i64 x.left) := gmY.cell 1
 have m2 : Y.cell? ⟨bm, 2, none⟩ = some (.int .i64 x.got) := gmY.cell 2
 have m3 : Y.cell? ⟨bm, 3, none⟩ = some (.int .i64 x.brr) := gmY.cell 3
 have m4 : Y.cell? ⟨bm, 4, none⟩ = some (.bool x.pau) := gmY.cell 4
 have c0 : Y.cell? ⟨bk, 0, none⟩ = some (.int .i64 kx.k.kind) := gk.cell 0
 have c1 : Y.cell? ⟨bk, 1, none⟩ = some (.int .i64 kx.k.role) := gk.cell 1
 have c2 : Y.cell? ⟨bk, 2, none⟩ = some (.int .i64 kx.k.act) := gk.cell 2
 have c3 : Y.cell? ⟨bk, 3, none⟩ = some (.int .i64 kx.k.need) := gk.cell 3
 have c4 : Y.cell? ⟨bk, 4, none⟩ = some (.slice kx.A kx.k.start.length kx.cap) := gk.cell 4
 have c5 : Y.cell? ⟨bk, 5, none⟩ = some (.int .i64 kx.k.aft) := gk.cell 5
 have c6 : Y.cell? ⟨bk, 6, none⟩ = some (.int .i64 kx.k.grace) := gk.cell 6
 have c7 : Y.cell? ⟨bk, 7, none⟩ = some (.bool kx.k.bus) := gk.cell 7
 have c8 : Y.cell? ⟨bk, 8, none⟩ = some (.bool kx.k.fin) := gk.cell 8
 have c9 : Y.cell? ⟨bk, 9, none⟩ = some (.int .i64 kx.k.pause) := gk.cell 9
 have c10 : Y.cell? ⟨bk, 10, none⟩ = some (.int .i64 kx.k.resume) := gk.cell 10
 have c11 : Y.cell? ⟨bk, 11, none⟩ = some (.int .i64 kx.k.v.1) := gk.cell 11
 have c12 : Y.cell? ⟨bk, 12, none⟩ = some (.int .i64 kx.k.v.2) := gk.cell 12
 have c13 : Y.cell? ⟨bk, 13, none⟩ = some (.int .i64 kx.k.unit) := gk.cell 13
 have c14 : Y.cell? ⟨bk, 14, none⟩ = some (.int .i64 kx.k.to_) := gk.cell 14
 have c15 : Y.cell? ⟨bk, 15, none⟩ = some (.bool kx.k.waived) := gk.cell 15
 clear gaY gmY gk
 cases s0 : (x.st == 0) with
 | true =>
  have hs : x.st = 0 := eq_of_beq s0
  obtain ⟨wv, hwv⟩ : ∃ z, kx.k.waived = z := ⟨_, rfl⟩
  rw [hwv] at c15
  have HW := qzL hwv
  clear hwv
  obtain ⟨q0, hq0⟩ : ∃ z, decide (x = Mk.idle) = z := ⟨_, rfl⟩
  have hf : Hid (R = (!wv && q0)) := by unfold Hid; rw [HR.out, ← HW.out, ← hq0]; unfold xBs; rw [if_pos hs]
  have heq : ∀ W : World, (Op.equalIn 10000 61 (.agg #[.int .i64 x.st, .int .i64 x.left, .int .i64 x.got, .int .i64 x.brr, .bool x.pau]) (.agg #[.int .i64 0, .int .i64 0, .int .i64 0, .int .i64 (-1), .bool false])).run Tryz.prog W = .ok q0 W := fun W => by rw [← hq0]; exact eqvM x Mk.idle W
  clear hs hq0
  cases wv with
  | true =>
   go_wp2
   go_ret
   exact ⟨xAb (by rw [hf.out]; rfl), HY.out⟩
  | false =>
   go_wp2
   go_ret
   exact ⟨xAb (by rw [hf.out]; rfl), HY.out⟩
 | false =>
 have n0 : x.st ≠ 0 := by intro e; rw [e] at s0; simp at s0
 cases s1 : (x.st == 1) with
 | true =>
  have hs : x.st = 1 := eq_of_beq s1
  obtain ⟨q1, hq1⟩ : ∃ z, decide (x.left ≤ kx.k.aft) = z := ⟨_, rfl⟩
  have hf : Hid (R = (q1 && v)) := by unfold Hid; rw [HR.out, ← hq1, ← HVE.out]; unfold xBs; rw [if_neg n0, if_pos hs]
  clear hs n0
  cases q1 with
  | false =>
   go_wp2
   go_ret
   exact ⟨xAb (by rw [hf.out]; rfl), HY.out⟩
  | true =>
   go_wp2_with (go_at_call 95; (with_reducible refine (HV.out _).mono ?_); rintro e w1 ⟨rfl, hb1⟩)
   go_ret
   exact ⟨xAb (by rw [hf.out]; simp), xAa HY.out hb1⟩
 | false =>
 have n1 : x.st ≠ 1 := by intro e; rw [e] at s1; simp at s1
 cases s2 : (x.st == 2) with
 | true =>
  have hs : x.st = 2 := eq_of_beq s2
  obtain ⟨q1, hq1⟩ : ∃ z, (kx.k.kind == 1) = z := ⟨_, rfl⟩
  obtain ⟨q2, hq2⟩ : ∃ z, decide (x.left ≤ kx.k.grace) = z := ⟨_, rfl⟩
  have hf : Hid (R = (q1 && q2 && v)) := by unfold Hid; rw [HR.out, ← hq1, ← hq2, ← HVE.out]; unfold xBs; rw [if_neg n0, if_neg n1, if_pos hs]
  clear hs n0 n1
  cases q1 with
  | false =>
   go_wp2
   go_ret
   exact ⟨xAb (by rw [hf.out]; rfl), HY.out⟩
  | true =>
  cases q2 with
  | false =>
   go_wp2
   go_ret
   exact ⟨xAb (by rw [hf.out]; rfl), HY.out⟩
  | true =>
   go_wp2_with (go_at_call 95; (with_reducible refine (HV.out _).mono ?_); rintro e w1 ⟨rfl, hb1⟩)
   go_ret
   exact ⟨xAb (by rw [hf.out]; simp), xAa HY.out hb1⟩
 | false =>
 have n2 : x.st ≠ 2 := by intro e; rw [e] at s2; simp at s2
 by_cases h3 : x.st = 3 ∨ x.st = 4 ∨ x.st = 5
 ·obtain ⟨q1, hq1⟩ : ∃ z, (x.left == 0) = z := ⟨_, rfl⟩
  obtain ⟨q2, hq2⟩ : ∃ z, decide (0 ≤ x.got) = z := ⟨_, rfl⟩
  obtain ⟨q3, hq3⟩ : ∃ z, decide (x.got ≤ 9) = z := ⟨_, rfl⟩
  obtain ⟨q4, hq4⟩ : ∃ z, decide (-1 ≤ x.brr) = z := ⟨_, rfl⟩
  obtain ⟨q5, hq5⟩ : ∃ z, decide (x.brr < c.par) = z := ⟨_, rfl⟩
  obtain ⟨q6, hq6⟩ : ∃ z, x.pau = z := ⟨_, rfl⟩
  rw [hq6] at m4
  have hf : Hid (R = (q1 && q2 && q3 && q4 && q5 && !q6)) := by unfold Hid; rw [HR.out, ← hq1, ← hq2, ← hq3, ← hq4, ← hq5, ← hq6]; unfold xBs; rw [if_neg n0, if_neg n1, if_neg n2, if_pos h3]
  clear hq6 n0 n1 n2
  have h345 : (x.st == 3) = true ∨ ((x.st == 3) = false ∧ (x.st == 4) = true) ∨ ((x.st == 3) = false ∧ (x.st == 4) = false ∧ (x.st == 5) = true) := by
   rcases h3 with e | e | e
   ·exact .inl (by rw [e]; rfl)
   ·exact .inr (.inl ⟨by rw [e]; rfl, by rw [e]; rfl⟩)
   ·exact .inr (.inr ⟨by rw [e]; rfl, by rw [e]; rfl, by rw [e]; rfl⟩)
  clear h3
  rcases h345 with s3 | ⟨s3, s4⟩ | ⟨s3, s4, s5⟩
  all_goals (
   cases q1 with
   | false =>
    go_wp2
    go_ret
    exact ⟨xAb (by rw [hf.out]; simp), HY.out⟩
   | true =>
   cases q2 with
   | false =>
    go_wp2
    go_ret
    exact ⟨xAb (by rw [hf.out]; simp), HY.out⟩
   | true =>
   cases q3 with
   | false =>
    go_wp2
    go_ret
    exact ⟨xAb (by rw [hf.out]; simp), HY.out⟩
   | true =>
   cases q4 with
   | false =>
    go_wp2
    go_ret
    exact ⟨xAb (by rw [hf.out]; simp), HY.out⟩
   | true =>
   cases q5 with
   | false =>
    go_wp2
    go_ret
    exact ⟨xAb (by rw [hf.out]; simp), HY.out⟩
   | true =>
    go_wp2
    go_ret
    exact ⟨xAb (by rw [hf.out]; simp), HY.out⟩)
 ·have n3 : x.st ≠ 3 := fun e => h3 (.inl e)
  have n4 : x.st ≠ 4 := fun e => h3 (.inr (.inl e))
  have n5 : x.st ≠ 5 := fun e => h3 (.inr (.inr e))
  have hf : Hid (R = false) := by unfold Hid; rw [HR.out]; unfold xBs; rw [if_neg n0, if_neg n1, if_neg n2, if_neg h3]
  have s3 : (x.st == 3) = false := by simpa using n3
  have s4 : (x.st == 4) = false := by simpa using n4
  have s5 : (x.st == 5) = false := by simpa using n5
  clear n0 n1 n2 n3 n4 n5 h3
  go_wp2
  go_ret
  exact ⟨xAb hf.out.symm, HY.out⟩
end Go.Proofs.YtffceokjeonpcaaGreatDoor
