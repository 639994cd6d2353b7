/- Contracts of functions and plain laws, joined: Sj, Sr, Kbb, Sk. -/
import Derived.Test.YtffceokjeonpcaaGreatDoorMb8
import Derived.Test.YtffceokjeonpcaaGreatDoorMb5
import Derived.Laws.CopyOwn
import Derived.Test.YtffceokjeonpcaaGreatDoorMb4
import Derived.Test.YtffceokjeonpcaaGreatDoorMb1
set_option maxHeartbeats 12800000
set_option maxRecDepth 100000
namespace Go.Proofs.YtffceokjeonpcaaGreatDoor
open Go.RowKit
def hOk (c : Con) (h : Int) : Bool := decide (0 ≤ h) && decide (h < c.par)
def mOk (c : Con) (s : Sta) (i : Nat) : Bool := match c.cl[i]?, s.marks[i]? with | some k, some m => xBs c k m && !rdy c s.marks i | _, _ => false
theorem xEs (c : Con) (m : Cm) (s : Sta) (q : Qm) (w : World) (hC : Cont w c m) (hS : Stm w s q) :
  Calls Tryz.prog 47 #[.agg (coA c m), .agg (stA s q)] w fun e w' => e = .returned (.bool (s.ok c)) ∧ Below w.heap.size w w' := by
 obtain ⟨R, hR⟩ : ∃ r, s.ok c = r := ⟨_, rfl⟩
 rw [hR]
 have HR : Hid (R = (c.ok && decide (0 ≤ s.day) && decide (s.day ≤ c.days) && s.hol.length == c.hold.length && s.used.length == c.ac.length && s.marks.length == c.cl.length
  && s.hol.all (hOk c) && (List.zipWith (fun (a : Atc) u => !(u && a.kind == 1)) c.ac s.used).all id && (List.range s.marks.length).all (mOk c s))) := hR.symm
 have HC := qzL hC
 have HS := qzL hS
 have HV := qzL (fun W (hb : Below w.heap.size w W) => xIh c m W (hC.then_ hb))
 have nh := hS.nh
 have nu := hS.nu
 have nm := hS.nm
 clear hR hC hS
 go_enter Tryz.func47, Tryz.ntmps47
 go_upto_region 1 with (fail)
 refine xAi ?_
 intro X hX
 have ga : Blk X w.heap.size 27 (coA c m) := by rw [hX]; exact (xA0 (by simp)).alloc _
 have gs : Blk X (w.heap.size + 1) 47 (stA s q) := by rw [hX]; exact xA0 (by simp)
 have HB : Below w.heap.size w X := by rw [hX]; (repeat (first | exact Below.refl _ _ | refine xAc ?_ _))
 obtain ⟨bs, ebs⟩ : ∃ b, w.heap.size + 1 = b := ⟨_, rfl⟩
 obtain ⟨ba, eba⟩ : ∃ b, w.heap.size = b := ⟨_, rfl⟩
 rw [ebs] at gs ⊢
 rw [eba] at ga ⊢
 clear hX ebs eba
 obtain ⟨k0, k1, k2, k3, k4, k5, k6⟩ := coC (c := c) (m := m) ga rfl
 obtain ⟨s0, s1, s2, s3⟩ := stC (c := s) (m := q) gs rfl
 cases hok : c.ok with
 | false =>
  have hf : Hid (R = false) := by unfold Hid; rw [HR.out, hok]; rfl
  go_wp2_with (go_at_call 44; (with_reducible refine (HV.out _ HB).mono ?_); rintro e w1 ⟨⟨ea, eb, rfl, he⟩, hb1⟩; have hea : (ea == 0) = false := (by cases hq : (ea == 0) with | false => rfl | true => exact absurd (he.1 (eq_of_beq hq)) (by rw [hok]; decide)); have hea' : (ea != 0) = true := (by simp [bne, hea]); clear he)
  go_ret
  exact ⟨xAb hf.out.symm, xAa HB hb1⟩
 | true =>
 have HOK := qzL hok
 clear hok
 go_upto_region 4 with (go_at_call 44; (with_reducible refine (HV.out _ HB).mono ?_); rintro e w1 ⟨⟨ea, eb, rfl, he⟩, hb1⟩; obtain rfl : ea = 0 := he.2 HOK.out; clear he)
 refine xAi ?_
 intro Y hY
 have gaY : Blk Y ba 27 (coA c m) := by rw [hY]; exact ga.then_ hb1
 have gsY : Blk Y bs 47 (stA s q) := by rw [hY]; exact gs.then_ hb1
 have hYB : Hid (Below w.heap.size w Y) := by rw [hY]; exact xAa HB hb1
 clear hY hb1 HB ga gs HV k0 k1 k2 k3 k4 k5 k6 s0 s1 s2 s3
 obtain ⟨k0, k1, k2, k3, k4, k5, k6⟩ := coC (c := c) (m := m) gaY rfl
 obtain ⟨s0, s1, s2, s3⟩ := stC (c := s) (m := q) gsY rfl
 obtain ⟨b1, t1⟩ : ∃ z, decide (s.day < 0) = z := ⟨_, rfl⟩
 cases b1 with
 | true =>
  have hf : Hid (R = false) := by unfold Hid; rw [HR.out, qzN (show ¬ 0 ≤ s.day by have := of_decide_eq_true t1; omega)]; simp
  go_wp2
  go_ret
  exact ⟨xAb hf.out.symm, hYB.out⟩
 | false =>
 obtain ⟨b2, t2⟩ : ∃ z, decide (c.days < s.day) = z := ⟨_, rfl⟩
 cases b2 with
 | true =>
  have hf : Hid (R = false) := by unfold Hid; rw [HR.out, qzN (show ¬ s.day ≤ c.days by have := of_decide_eq_true t2; omega)]; simp
  go_wp2
  go_ret
  exact ⟨xAb hf.out.symm, hYB.out⟩
 | false =>
 have hd1 : decide (0 ≤ s.day) = true := qzO (by have := of_decide_eq_false t1; omega)
 have hd2 : decide (s.day ≤ c.days) = true := qzO (by have := of_decide_eq_false t2; omega)
 have HR2 : Hid (R = (s.hol.length == c.hold.length && s.used.length == c.ac.length && s.marks.length == c.cl.length
  && s.hol.all (hOk c) && (List.zipWith (fun (a : Atc) u => !(u && a.kind == 1)) c.ac s.used).all id && (List.range s.marks.length).all (mOk c s))) := by unfold Hid; rw [HR.out, HOK.out, hd1, hd2]; rfl
 clear HR hd1 hd2
 cases e1 : (s.hol.length == c.hold.length) with
 | false =>
  have hne : ¬ s.hol.length = c.hold.length := by simpa using e1
  have t3 : (((s.hol.length : Nat) : Int) == ((c.hold.length : Nat) : Int)) = false := beq_eq_false_iff_ne.2 (by omega)
  have t3' : (((s.hol.length : Nat) : Int) != ((c.hold.length : Nat) : Int)) = true := bne_iff_ne.2 (by omega)
  have hf : Hid (R = false) := by unfold Hid; rw [HR2.out, e1]; rfl
  clear hne
  go_wp2
  go_ret
  exact ⟨xAb hf.out.symm, hYB.out⟩
 | true =>
 have he1 : s.hol.length = c.hold.length := by simpa using e1
 have t3 : (((s.hol.length : Nat) : Int) == ((c.hold.length : Nat) : Int)) = true := by simp [he1]
 have t3' : (((s.hol.length : Nat) : Int) != ((c.hold.length : Nat) : Int)) = false := by simp [he1]
 have HE1 := qzL he1
 clear he1
 cases e2 : (s.used.length == c.ac.length) with
 | false =>
  have hne : ¬ s.used.length = c.ac.length := by simpa using e2
  have t4 : (((s.used.length : Nat) : Int) == ((c.ac.length : Nat) : Int)) = false := beq_eq_false_iff_ne.2 (by omega)
  have t4' : (((s.used.length : Nat) : Int) != ((c.ac.length : Nat) : Int)) = true := bne_iff_ne.2 (by omega)
  have hf : Hid (R = false) := by unfold Hid; rw [HR2.out, e2]; simp
  clear hne
  go_wp2
  go_ret
  exact ⟨xAb hf.out.symm, hYB.out⟩
 | true =>
 have he2 : s.used.length = c.ac.length := by simpa using e2
 have t4 : (((s.used.length : Nat) : Int) == ((c.ac.length : Nat) : Int)) = true := by simp [he2]
 have t4' : (((s.used.length : Nat) : Int) != ((c.ac.length : Nat) : Int)) = false := by simp [he2]
 have HE2 := qzL he2
 clear he2
 cases e3 : (s.marks.length == c.cl.length) with
 | false =>
  have hne : ¬ s.marks.length = c.cl.length := by simpa using e3
  have t5 : (((s.marks.length : Nat) : Int) == ((c.cl.length : Nat) : Int)) = false := beq_eq_false_iff_ne.2 (by omega)
  have t5' : (((s.marks.length : Nat) : Int) != ((c.cl.length : Nat) : Int)) = true := bne_iff_ne.2 (by omega)
  have hf : Hid (R = false) := by unfold Hid; rw [HR2.out, e3]; simp
  clear hne
  go_wp2
  go_ret
  exact ⟨xAb hf.out.symm, hYB.out⟩
 | true =>
 have he3 : s.marks.length = c.cl.length := by simpa using e3
 have t5 : (((s.marks.length : Nat) : Int) == ((c.cl.length : Nat) : Int)) = true := by simp [he3]
 have t5' : (((s.marks.length : Nat) : Int) != ((c.cl.length : Nat) : Int)) = false := by simp [he3]
 have HE3 := qzL he3
 have HR3 : Hid (R = (s.hol.all (hOk c) && (List.zipWith (fun (a : Atc) u => !(u && a.kind == 1)) c.ac s.used).all id && (List.range s.marks.length).all (mOk c s))) := by unfold Hid; rw [HR2.out, e1, e2, e3]; rfl
 clear he3 HR2 e1 e2 e3
 go_upto_region 7 with (fail)
 clear t1 t2 t3 t3' t4 t4' t5 t5' k0 k1 k2 k3 k4 k5 k6 s0 s1 s2 s3
 go_loopw [59] (fun y WR => ∃ j : Nat, j ≤ s.hol.length ∧ y = .int .i64 j ∧ Hid (∀ n h, n < j → s.hol[n]? = some h → hOk c h = true) ∧ Y = WR) (fun y _ => 2000000 - (intOf y).toNat)
 case atStart => exact ⟨0, by omega, rfl, fun n u h => absurd h (by omega), rfl⟩
 case round =>
  obtain ⟨j, hj, rfl, hN, rfl⟩ := hrel
  by_cases hlt : j < s.hol.length
  ·have tj : decide ((j : Int) < (s.hol.length : Int)) = true := qzO (by omega)
   obtain ⟨h, hh⟩ : ∃ h, s.hol[j]? = some h := ⟨_, qzJ hlt⟩
   obtain ⟨b0, o0, eA0, hb0, hc0⟩ := xAv (HS.out.then_ hYB.out).h hh
   have hix := fun W => xAp (t := 22) (size := 1) (cap := q.hc) eA0 hlt (by kernel_rfl) (fun W => by kernel_rfl) W
   have d0 : Y.cell? ⟨b0, o0 + j, none⟩ = some (.int .i64 h) := by simpa using hc0 0 _ rfl
   have k0 : Y.cell? ⟨ba, 0, none⟩ = some (.int .i64 c.par) := gaY.cell 0
   simp only [Nat.mul_one] at hix
   have HH := qzL hh
   clear hc0 eA0 hh
   have bad : hOk c h = false → Hid (R = false) := fun e => by
    unfold Hid
    rw [HR3.out, show s.hol.all (hOk c) = false from List.all_eq_false.2 ⟨h, qzK HH.out, by rw [e]; simp⟩]; rfl
   by_cases h1 : h < 0
   ·have t1 := qzO h1
    have hf := bad (by unfold hOk; rw [qzN (show ¬ 0 ≤ h by omega)]; rfl)
    clear h1 bad
    go_wp2
    go_ret
    exact ⟨xAb hf.out.symm, hYB.out⟩
   have t1 := qzN h1
   by_cases h2 : c.par ≤ h
   ·have t2 := qzO h2
    have hf := bad (by unfold hOk; rw [qzN (show ¬ h < c.par by omega)]; simp)
    clear h1 h2 bad
    go_wp2
    go_ret
    exact ⟨xAb hf.out.symm, hYB.out⟩
   have t2 := qzN h2
   have hg : hOk c h = true := by unfold hOk; rw [qzO (show 0 ≤ h by omega), qzO (show h < c.par by omega)]; rfl
   clear h1 h2 bad
   go_wp2
   go_roundw
   case rel => exact ⟨j + 1, by omega, by simp, fun n y hi hy => by
    by_cases e : n = j
    ·subst e
     rw [HH.out] at hy
     cases hy
     exact hg
    ·exact hN.out n y (by omega) hy, by first | trivial | rfl⟩
   case measure => simp [intOf]; omega
  have tj : decide ((j : Int) < (s.hol.length : Int)) = false := qzN (by omega)
  have HR4 : Hid (R = ((List.zipWith (fun (a : Atc) u => !(u && a.kind == 1)) c.ac s.used).all id && (List.range s.marks.length).all (mOk c s))) := by
   unfold Hid
   rw [HR3.out, show s.hol.all (hOk c) = true from List.all_eq_true.2 fun x hx => by
    obtain ⟨n, hn⟩ := List.getElem?_of_mem hx
    exact hN.out n x (by have := (qzM hn).1; omega) hn]
   rfl
  have s2 : Y.cell? ⟨bs, 2, none⟩ = some (.slice q.u s.used.length q.uc) := gsY.cell 2
  clear HR3 hN
  go_upto_region 13 with (fail)
  clear s2 tj hlt
  go_loopw [75] (fun y WR => ∃ j : Nat, j ≤ s.used.length ∧ y = .int .i64 j ∧ Hid (∀ (n : Nat) a u, n < j → c.ac[n]? = some a → s.used[n]? = some u → (!(u && a.kind == 1)) = true) ∧ Y = WR) (fun y _ => 2000000 - (intOf y).toNat)
  case atStart => exact ⟨0, by omega, rfl, fun n a u h => absurd h (by omega), rfl⟩
  case round =>
   obtain ⟨j, hj, rfl, hN, rfl⟩ := hrel
   by_cases hlt : j < s.used.length
   ·have tj : decide ((j : Int) < (s.used.length : Int)) = true := qzO (by omega)
    obtain ⟨u, hu⟩ : ∃ u, s.used[j]? = some u := ⟨_, qzJ hlt⟩
    have hja : j < c.ac.length := by have := HE2.out; omega
    obtain ⟨a, ha⟩ : ∃ a, c.ac[j]? = some a := ⟨_, qzJ hja⟩
    obtain ⟨b0, o0, eA0, hb0, hc0⟩ := xAv (HS.out.then_ hYB.out).u hu
    have hix := fun W => xAp (t := 44) (size := 1) (cap := q.uc) eA0 hlt (by kernel_rfl) (fun W => by kernel_rfl) W
    have d0 : Y.cell? ⟨b0, o0 + j, none⟩ = some (.bool u) := by simpa using hc0 0 _ rfl
    simp only [Nat.mul_one] at hix
    obtain ⟨b1, o1, eA1, hb1, hc1⟩ := xAv (HC.out.then_ hYB.out).a ha
    have hix1 := fun W => xAp (t := 24) (size := 7) (cap := m.ac) eA1 hja (by kernel_rfl) (fun W => by kernel_rfl) W
    have d1 : Y.cell? ⟨b1, o1 + j * 7, none⟩ = some (.int .i64 a.kind) := hc1 0 _ rfl
    have k3 : Y.cell? ⟨ba, 3, none⟩ = some (.slice m.a c.ac.length m.ac) := gaY.cell 3
    have na := HC.out.na
    have HU := qzL hu
    have HA := qzL ha
    clear hc0 eA0 hc1 eA1 hu ha
    have good : (!(u && a.kind == 1)) = true → ∀ (n : Nat) a' u', n < j + 1 → c.ac[n]? = some a' → s.used[n]? = some u' → (!(u' && a'.kind == 1)) = true := fun hg n a' u' hi h1 h2 => by
     by_cases e : n = j
     ·subst e
      rw [HA.out] at h1
      rw [HU.out] at h2
      cases h1
      cases h2
      exact hg
     ·exact hN.out n a' u' (by omega) h1 h2
    cases u with
    | false =>
     have hg := qzL (good rfl)
     clear good
     go_wp2
     go_roundw
     case rel => exact ⟨j + 1, by omega, by simp, hg.out, by first | trivial | rfl⟩
     case measure => simp [intOf]; omega
    | true =>
    cases t1 : (a.kind == 1) with
    | false =>
     have hg := qzL (good (by rw [t1]; rfl))
     clear good
     go_wp2
     go_roundw
     case rel => exact ⟨j + 1, by omega, by simp, hg.out, by first | trivial | rfl⟩
     case measure => simp [intOf]; omega
    | true =>
     have hf : Hid (R = false) := by
      unfold Hid
      rw [HR4.out]
      have : (List.zipWith (fun (a : Atc) u => !(u && a.kind == 1)) c.ac s.used).all id = false := by
       rw [Bool.eq_false_iff]
       intro h
       have := (xF7 (f := fun (a : Atc) u => !(u && a.kind == 1)).1 h) j a true HA.out HU.out
       rw [t1] at this
       cases this
      rw [this]; rfl
     clear good
     go_wp2
     go_ret
     exact ⟨xAb hf.out.symm, hYB.out⟩
   have tj : decide ((j : Int) < (s.used.length : Int)) = false := qzN (by omega)
   have HR5 : Hid (R = (List.range s.marks.length).all (mOk c s)) := by
    unfold Hid
    rw [HR4.out, show (List.zipWith (fun (a : Atc) u => !(u && a.kind == 1)) c.ac s.used).all id = true from (xF7 (f := fun (a : Atc) u => !(u && a.kind == 1))).2 fun i a u h1 h2 => hN.out i a u (by have := (qzM h2).1; omega) h1 h2]
    rfl
   have s3 : Y.cell? ⟨bs, 3, none⟩ = some (.slice q.m s.marks.length q.mc) := gsY.cell 3
   clear HR4 hN
   go_upto_region 19 with (fail)
   clear s3 tj hlt
   go_loopw [94] (fun y WR => ∃ j : Nat, j ≤ s.marks.length ∧ y = .int .i64 j ∧ Hid (∀ n, n < j → mOk c s n = true) ∧ Below Y.heap.size Y WR) (fun y _ => 2000000 - (intOf y).toNat)
   case atStart => exact ⟨0, by omega, rfl, fun n h => absurd h (by omega), Below.refl _ _⟩
   case round =>
    obtain ⟨j, hj, rfl, hN, hbr⟩ := hrel
    by_cases hlt : j < s.marks.length
    ·have tj : decide ((j : Int) < (s.marks.length : Int)) = true := qzO (by omega)
     obtain ⟨x, hx⟩ : ∃ x, s.marks[j]? = some x := ⟨_, qzJ hlt⟩
     have hjc : j < c.cl.length := by have := HE3.out; omega
     obtain ⟨k, hk⟩ : ∃ k, c.cl[j]? = some k := ⟨_, qzJ hjc⟩
     obtain ⟨kx, hkx, hkk⟩ := xC3 HC.out.e hk
     have hwr := qzL (xAa hYB.out hbr)
     obtain ⟨b0, o0, eA0, hb0, hc0⟩ := xAv (HS.out.then_ hwr.out).m hx
     have hix := fun W => xAp (t := 45) (size := 5) (cap := q.mc) eA0 hlt (by kernel_rfl) (fun W => by kernel_rfl) W
     have d0 : wr.cell? ⟨b0, o0 + j * 5, none⟩ = some (.int .i64 x.st) := hc0 0 _ rfl
     have d1 : wr.cell? ⟨b0, o0 + j * 5 + 1, none⟩ = some (.int .i64 x.left) := hc0 1 _ rfl
     have d2 : wr.cell? ⟨b0, o0 + j * 5 + 2, none⟩ = some (.int .i64 x.got) := hc0 2 _ rfl
     have d3 : wr.cell? ⟨b0, o0 + j * 5 + 3, none⟩ = some (.int .i64 x.brr) := hc0 3 _ rfl
     have d4 : wr.cell? ⟨b0, o0 + j * 5 + 4, none⟩ = some (.bool x.pau) := hc0 4 _ rfl
     have gaW := gaY.then_ hbr
     have gsW := gsY.then_ hbr
     obtain ⟨k0, k1, k2, k3, k4, k5, k6⟩ := coC (c := c) (m := m) gaW rfl
     obtain ⟨s0, s1, s2, s3⟩ := stC (c := s) (m := q) gsW rfl
     have HX := qzL hx
     have HK := qzL hk
     have HBR := qzL hbr
     have hmo : Hid (mOk c s j = (xBs c k x && !rdy c s.marks j)) := by unfold Hid mOk; rw [hk, hx]
     obtain ⟨vm, hvm⟩ : ∃ z, xBs c k x = z := ⟨_, rfl⟩
     obtain ⟨rd, hrd⟩ : ∃ z, rdy c s.marks j = z := ⟨_, rfl⟩
     have HVM : Hid (∀ W, Below wr.heap.size wr W → Calls Tryz.prog 64 #[.agg #[.int .i64 c.par, .slice m.h c.hold.length m.hc, .slice m.u c.un.length m.uc, .slice m.a c.ac.length m.ac, .slice m.k c.cl.length m.kc, .int .i64 c.days, .slice m.o c.off.length m.oc], .int .i64 (j : Nat), .agg #[.int .i64 x.st, .int .i64 x.left, .int .i64 x.got, .int .i64 x.brr, .bool x.pau]] W fun e w' => e = .returned (.bool vm) ∧ Below W.heap.size W w') := fun W hb =>
      vmark_any c m j kx x W (HC.out.then_ (xAa hwr.out hb)) hkx vm (by rw [hkk]; exact hvm.symm)
     have HRD : Hid (∀ W, Below wr.heap.size wr W → Calls Tryz.prog 63 #[.agg #[.int .i64 c.par, .slice m.h c.hold.length m.hc, .slice m.u c.un.length m.uc, .slice m.a c.ac.length m.ac, .slice m.k c.cl.length m.kc, .int .i64 c.days, .slice m.o c.off.length m.oc],
       .agg #[.int .i64 s.day, .slice q.h s.hol.length q.hc, .slice q.u s.used.length q.uc, .slice q.m s.marks.length q.mc], .int .i64 (j : Nat)] W fun e w' => e = .returned (.bool rd) ∧ Below W.heap.size W w') := fun W hb =>
      xHe c m s q j x kx W (HC.out.then_ (xAa hwr.out hb)) (HS.out.then_ (xAa hwr.out hb)) HX.out hkx (by rw [hkk, HE3.out]; exact ok_cond HOK.out (qzK HK.out)) rd (by rw [← hrd, rdy_at HK.out HX.out, hkk])
     rw [hvm, hrd] at hmo
     clear hx hk hkx hkk hc0 eA0 gaW gsW hbr hvm hrd
     go_upto_region 21 with (fail)
     cases vm with
     | false =>
      have hf : Hid (R = false) := by unfold Hid; rw [HR5.out]; exact List.all_eq_false.2 ⟨j, List.mem_range.2 hlt, by rw [hmo.out]; simp⟩
      have rg0 := cR d0
      have rg1 := cR d1
      have rg2 := cR d2
      have rg3 := cR d3
      have rg4 := cR d4
      have rg5 := cR k0
      have rg6 := cR k1
      have rg7 := cR k2
      have rg8 := cR k3
      have rg9 := cR k4
      have rg10 := cR k5
      have rg11 := cR k6
      have rg12 := cR s0
      have rg13 := cR s1
      have rg14 := cR s2
      have rg15 := cR s3
      refine xAg [0, 1, 2, 3, 4, 5, 6, 7, 8, 9, 10, 11, 12, 13, 14] [] (by kernel_rfl) (by kernel_rfl) pO ?_
      simp only [xAn, qzA, qzB, qzC, qzD, qzE, qzF]
      repeat (go_big_quiet_step ((first | (go_at_call 64; with_reducible exact xAq (fun W' hW' => HVM.out W' hW') _ _) | (go_at_call 63; with_reducible exact xAq (fun W' hW' => HRD.out W' hW') _ _))))
      refine wpQuiet_nil ?_
      intro Z hw2
      have hbZ := xAj hw2
      clear hw2 rg0 rg1 rg2 rg3 rg4 rg5 rg6 rg7 rg8 rg9 rg10 rg11 rg12 rg13 rg14 rg15
      refine xAw ?_
      go_wp2
      go_ret
      exact ⟨xAb hf.out.symm, xAa hwr.out hbZ⟩
     | true =>
     cases rd with
     | true =>
      have hf : Hid (R = false) := by unfold Hid; rw [HR5.out]; exact List.all_eq_false.2 ⟨j, List.mem_range.2 hlt, by rw [hmo.out]; simp⟩
      have rg0 := cR d0
      have rg1 := cR d1
      have rg2 := cR d2
      have rg3 := cR d3
      have rg4 := cR d4
      have rg5 := cR k0
      have rg6 := cR k1
      have rg7 := cR k2
      have rg8 := cR k3
      have rg9 := cR k4
      have rg10 := cR k5
      have rg11 := cR k6
      have rg12 := cR s0
      have rg13 := cR s1
      have rg14 := cR s2
      have rg15 := cR s3
      refine xAg [0, 1, 2, 3, 4, 5, 6, 7, 8, 9, 10, 11, 12, 13, 14] [] (by kernel_rfl) (by kernel_rfl) pO ?_
      simp only [xAn, qzA, qzB, qzC, qzD, qzE, qzF]
      repeat (go_big_quiet_step ((first | (go_at_call 64; with_reducible exact xAq (fun W' hW' => HVM.out W' hW') _ _) | (go_at_call 63; with_reducible exact xAq (fun W' hW' => HRD.out W' hW') _ _))))
      refine wpQuiet_nil ?_
      intro Z hw2
      have hbZ := xAj hw2
      clear hw2 rg0 rg1 rg2 rg3 rg4 rg5 rg6 rg7 rg8 rg9 rg10 rg11 rg12 rg13 rg14 rg15
      refine xAw ?_
      go_wp2
      go_ret
      exact ⟨xAb hf.out.symm, xAa hwr.out hbZ⟩
     | false =>
      have rg0 := cR d0
      have rg1 := cR d1
      have rg2 := cR d2
      have rg3 := cR d3
      have rg4 := cR d4
      have rg5 := cR k0
      have rg6 := cR k1
      have rg7 := cR k2
      have rg8 := cR k3
      have rg9 := cR k4
      have rg10 := cR k5
      have rg11 := cR k6
      have rg12 := cR s0
      have rg13 := cR s1
      have rg14 := cR s2
      have rg15 := cR s3
      refine xAg [0, 1, 2, 3, 4, 5, 6, 7, 8, 9, 10, 11, 12, 13, 14] [] (by kernel_rfl) (by kernel_rfl) pO ?_
      simp only [xAn, qzA, qzB, qzC, qzD, qzE, qzF]
      repeat (go_big_quiet_step ((first | (go_at_call 64; with_reducible exact xAq (fun W' hW' => HVM.out W' hW') _ _) | (go_at_call 63; with_reducible exact xAq (fun W' hW' => HRD.out W' hW') _ _))))
      refine wpQuiet_nil ?_
      intro Z hw2
      have hbZ := xAj hw2
      clear hw2 rg0 rg1 rg2 rg3 rg4 rg5 rg6 rg7 rg8 rg9 rg10 rg11 rg12 rg13 rg14 rg15
      refine xAw ?_
      go_wp2
      go_roundw
      case rel => exact ⟨j + 1, by omega, by simp, fun n hn => by
       by_cases e : n = j
       ·subst e; rw [hmo.out]; rfl
       ·exact hN.out n (by omega), xAa HBR.out hbZ⟩
      case measure => simp [intOf]; omega
    have tj : decide ((j : Int) < (s.marks.length : Int)) = false := qzN (by omega)
    have hf : Hid (R = true) := by
     unfold Hid
     rw [HR5.out, List.all_eq_true]
     intro n hn
     exact hN.out n (by have := List.mem_range.1 hn; omega)
    go_wp2
    go_ret
    exact ⟨xAb hf.out.symm, xAa hYB.out hbr⟩
open Go.Sort
theorem xBp {P : Program} {fn : Func} {a : Act} {w : World} {r s g : Nat} {t : TypeId} {cs : Array Value} (hres : fn.results = #[.cell r t, .tmp s]) (hp : a.tmps.getD r undef = .pointer (some ⟨g, 0, none⟩)) (hk : Blk w g t cs) (hu : ∃ fs, P.underlying t = some (.struct fs)) (hi : (P.info? t).map (·.size) = some cs.size) :
  (results fn a.tmps).run P w = .ok (.tuple #[.agg cs, a.tmps.getD s undef]) w := by
 obtain ⟨fs, hu⟩ := hu
 have h1 := run_loadVar_row w g t t cs (0, 0) _ hk hu rfl hi
 rw [Array.getD_eq_getD_getElem?] at hp
 have ha : (isAgg t).run P w = .ok true w := by simp [isAgg, run_underlying hu, Result.andThen]
 simp only [go_sem] at h1
 simp [results, hres, hp, go_sem, ha]
 simp [ha] at h1
 rw [h1]
 rfl
theorem Own.segz {α : Type} {w : World} {B : Nat} {T : TypeId} {size : Nat} {enc : α → List Value} {v : Value} {xs : List α} (h : Own w B T size enc v xs) (he : ∀ x, (enc x).length = size) :
  ∃ A c, v = .slice A xs.length c ∧ xs.length ≤ c ∧ c ≤ 9223372036854775807 ∧ Seg w w.heap.size size enc A xs ∧ (A = none → xs = [] ∧ c = 0) ∧ (∀ a, A = some a → B ≤ a.block) ∧ (∀ a, A = some a → ∃ cs, Blk w a.block T cs) := by
 obtain ⟨A, c, hv, hc, hs⟩ := h.seg he
 refine ⟨A, c, hv, hc, ?_, hs, ?_, ?_, ?_⟩
 ·rcases h.2 with ⟨e, _⟩ | ⟨g, cap, cur, e, _, _, _, hm, _⟩
  ·rw [e] at hv; injection hv with _ _ h3; omega
  ·rw [e] at hv; injection hv with _ _ h3; unfold maxLen at hm; omega
 ·intro hA
  rcases h.2 with ⟨e, h0⟩ | ⟨g, cap, cur, e, _⟩
  ·rw [e] at hv; injection hv with _ _ h3; exact ⟨List.eq_nil_of_length_eq_zero h0, h3.symm⟩
  ·rw [e, hA] at hv; injection hv with h1; cases h1
 ·intro a hA
  rcases h.2 with ⟨e, h0⟩ | ⟨g, cap, cur, e, hg, _⟩
  ·rw [e, hA] at hv; injection hv with h1; cases h1
  ·rw [e, hA] at hv; injection hv with h1; cases h1; exact hg
 ·intro a hA
  rcases h.2 with ⟨e, h0⟩ | ⟨g, cap, cur, e, hg, hh, _⟩
  ·rw [e, hA] at hv; injection hv with h1; cases h1
  ·rw [e, hA] at hv; injection hv with h1; cases h1; exact ⟨_, hh⟩
theorem Own.updT {α : Type} {w w' : World} {B g : Nat} {T t : TypeId} {size : Nat} {enc : α → List Value} {v : Value} {xs : List α} {cs : Array Value} (h : Own w B T size enc v xs) (u : Upd w w' g) (hb : Blk w g t cs) (ht : T ≠ t) : Own w' B T size enc v xs := by
 refine h.upd u fun k hk e => ?_
 subst e
 rcases h.2 with ⟨e, _⟩ | ⟨g', cap, cur, e, _, hh, _⟩
 ·rw [e] at hk; cases hk
 ·rw [e] at hk
  obtain rfl : g' = k := Option.some.inj hk
  have h2 := hb.symm.trans hh
  injection h2 with h2
  injection h2 with _ h3 _
  exact ht h3.symm
theorem xBi {K : Act → World → Prop} {a : Act} {w : World} (h : ∀ V, V = w → K a V) : K a w := h _ rfl
theorem xHy {W V : World} {t : TypeId} {cs : Array Value} (h : V = W.alloc (.cells cs t)) : ∃ b, W.heap.size = b ∧ Blk V b t cs ∧ Below W.heap.size W V := by
 rw [h]
 exact ⟨_, rfl, Blk.new _ _ _, wa1 _ _⟩
theorem Own.segS {α : Type} {w : World} {B : Nat} {T : TypeId} {size : Nat} {enc : α → List Value} {A : Option Addr} {n c : Nat} {xs : List α} (h : Own w B T size enc (.slice A n c) xs) (he : ∀ x, (enc x).length = size) :
  xs.length ≤ c ∧ c ≤ 9223372036854775807 ∧ Seg w w.heap.size size enc A xs ∧ (A = none → xs = [] ∧ c = 0) ∧ (∀ a, A = some a → B ≤ a.block) := by
 obtain ⟨A', c', hv, h1, h2, h3, h4, h5, _⟩ := h.segz he
 injection hv with e1 e2 e3
 subst e1
 subst e3
 exact ⟨h1, h2, h3, h4, h5⟩
theorem xGf {P : Program} (w : World) (dT sT ty elem : TypeId) (g n dCap size : Nat) (a : Addr) (sCap : Nat) (cur : Array Value) (t : TypeId) (cs : List Value)
  (hu : P.underlying dT = some (.slice elem)) (hs : (P.info? elem).map (·.size) = some size)
  (hg : w.heap[g]? = some (.cells cur t (0, 0))) (hn : cs.length = n * size)
  (hsrc : ∀ j v, cs[j]? = some v → w.cell? (a.add j) = some v) (hfit : cs.length ≤ cur.size) (h1 : ∀ v ∈ cs, v.oneCell' = true) :
  (Builtin.copy_ #[dT, sT] ty #[.slice (some ⟨g, 0, none⟩) n dCap, .slice (some a) n sCap]).run P w = .ok (goInt n) (w.setRow g (cs ++ cur.toList.drop cs.length).toArray) := by
 have hl := run_loadCells_list (P := P) w a cs hsrc
 have hst := run_storeCells_at P g 0 t cs 0 cur w hg (by simpa using hfit) h1
 cases hq : P.info? elem with
 | none => simp [hq] at hs
 | some i =>
  have hi : i.size = size := by simpa [hq] using hs
  simp only [Nat.zero_add, List.take_zero, qzF] at hst
  simp [Builtin.copy_, run_underlying hu, Builtin.lenOf, Builtin.firstCells, sizeOf, typeInfo, hq, hi, ← hn, hl, hst]
theorem xGe {P : Program} (w : World) (dT sT ty elem : TypeId) (d a : Option Addr) (dCap sCap size : Nat) (hu : P.underlying dT = some (.slice elem)) (hs : (P.info? elem).map (·.size) = some size) :
  (Builtin.copy_ #[dT, sT] ty #[.slice d 0 dCap, .slice a 0 sCap]).run P w = .ok (goInt 0) w := by
 cases hq : P.info? elem with
 | none => simp [hq] at hs
 | some i =>
  have hl : ∀ (x : Addr), (loadCells x 0).run P w = .ok #[] w := fun x => by simpa using run_loadCells_list (P := P) w x [] (by simp)
  cases d <;> cases a <;> simp [Builtin.copy_, run_underlying hu, Builtin.lenOf, Builtin.firstCells, sizeOf, typeInfo, hq, storeCells, hl]
theorem upd_setRow (w : World) (g : Nat) (cs : Array Value) : Upd w (w.setRow g cs) g :=
 ⟨fun B hB => below_setRow (Below.refl B w) hB cs, fun x hx => setRow_other w g x cs hx, by simp [World.setRow]⟩
theorem xCb {P : Program} {α : Type} {w : World} {ops : Array Oper} {rest : List Oper} {o : Oper} {a : Act} {Q : Exit → Act → World → Prop} (hgd : o.guard = none) (d s : Operand) (dT sT : TypeId)
  (ho : o.op = .call { callee := .builtin .copy, args := #[d, s], argTypes := #[dT, sT] }) (elem : TypeId) (hu : P.underlying dT = some (.slice elem)) (size : Nat) (hsz : (P.info? elem).map (·.size) = some size) (h0 : 0 < size)
  (enc : α → List Value) (he : ∀ y, (enc y).length = size) (h1 : ∀ y, ∀ u ∈ enc y, u.oneCell' = true) (g n cap sCap : Nat) (A : Option Addr) (xs ys : List α) (hxn : xs.length = n) (hyn : ys.length = n)
  (hd : a.eval d = .slice (some ⟨g, 0, none⟩) n cap) (hs : a.eval s = .slice A n sCap) (B : Nat) (T : TypeId) (hO : Own w B T size enc (.slice (some ⟨g, 0, none⟩) n cap) ys) (C : Nat) (hsrc : Seg w C size enc A xs)
  (h : ∀ w', Own w' B T size enc (.slice (some ⟨g, 0, none⟩) n cap) xs → Upd w w' g → wpList P ops Q rest (a.put o.dst (goInt n)) w') : wpList P ops Q (o :: rest) a w := by
 refine wpList_plain hgd fun K hK => ?_
 rcases Nat.eq_zero_or_pos n with hz | hpos
 ·subst hz
  obtain rfl : xs = [] := List.eq_nil_of_length_eq_zero hxn
  obtain rfl : ys = [] := List.eq_nil_of_length_eq_zero hyn
  have hrun := xGe (P := P) w dT sT o.type elem (some ⟨g, 0, none⟩) A cap sCap size hu hsz
  unfold Oper.wp
  simp [execOp, ho, resolve, invoke, builtin, hd, hs, hrun, Result.andThen]
  exact hK _ _ (h w hO (Upd.refl _ _))
 ·obtain ⟨b, off, eA, _⟩ := hsrc.some_ (by omega)
  subst eA
  have hfl := xDr he xs
  rcases hO.2 with ⟨e, _⟩ | ⟨g', cap', cur, hv, hg', hh, hc, hm, hsize, ht⟩
  ·cases e
  ·have eg : g' = g ∧ cap' = cap := by injection hv with a b c; injection a with a; injection a with a; exact ⟨a.symm, c.symm⟩
   obtain ⟨rfl, rfl⟩ := eg
   have hcs : (xs.flatMap enc).length = n * size := by rw [hfl, hxn]
   have hsum : (List.map (fun a => (enc a).length) xs).sum = n * size := by rw [← List.length_flatMap, hcs]
   have hle : n * size ≤ cap' * size := Nat.mul_le_mul_right _ (by omega)
   have hrun := xGf (P := P) w dT sT o.type elem g' n cap' size ⟨b, off, none⟩ sCap cur T (xs.flatMap enc) hu hsz hh hcs (xG8 he h0 hsrc) (by omega) (by
    intro u hu
    obtain ⟨y, _, hy⟩ := List.mem_flatMap.1 hu
    exact h1 y u hy)
   unfold Oper.wp
   simp [execOp, ho, resolve, invoke, builtin, hd, hs, hrun, Result.andThen]
   refine hK _ _ (h _ ?_ (upd_setRow _ _ _))
   refine ⟨by rw [hcs, hxn], .inr ⟨g', cap', _, by rw [hxn], hg', setRow_heap w g' cur _ T _ hh, by omega, hm, ?_, ?_⟩⟩
   ·rw [List.size_toArray, List.length_append, List.length_drop, hcs, Array.length_toList, hsize]; omega
   ·rw [hxn, List.toList_toArray, ← hcs]; exact List.take_left
theorem xEh {P : Program} {α : Type} {t e : TypeId} {i : TypeInfo} {z : Value} {size bytes : Nat} {enc : α → List Value} {y : α} (h1 : P.underlying t = some (.slice e)) (h2 : P.info? e = some i) (h3 : i.zero = some z) (h4 : i.size = size) (h5 : i.bytes = bytes) (hby : bytes ≤ 100000) (hy : z.cells = (enc y).toArray) {n : Nat} (hn : n ≤ 2000000) (W : World) :
  (Instr.makeSlice t (.int .i64 (n : Nat)) (.int .i64 (n : Nat))).run P W = .ok (.slice (some ⟨W.heap.size, 0, none⟩) n n) (W.alloc (.cells (madeCells (enc y).toArray (n * size)) e)) := by
 have hb : (bytes : Int) * (n : Int) ≤ 281474976710656 := by
  have h1 : bytes * n ≤ 100000 * 2000000 := Nat.mul_le_mul hby hn
  have h2 : ((bytes * n : Nat) : Int) ≤ ((100000 * 2000000 : Nat) : Int) := by exact_mod_cast h1
  have h3 : (bytes : Int) * (n : Int) = ((bytes * n : Nat) : Int) := by simp
  rw [h3]
  exact Int.le_trans h2 (by decide)
 have hrun := run_make (P := P) W t e i z h1 h2 h3 .i64 .i64 n n (by omega) (by omega) (by rw [h5]; exact hb) (by omega)
 rw [h4, hy] at hrun
 simpa using hrun
theorem xAo {α : Type} {W V : World} {B size : Nat} {e : TypeId} {enc : α → List Value} {y : α} {n N : Nat} (he : ∀ y, (enc y).length = size) (h0 : 0 < size) (hn : n ≤ 2000000) (hB : B ≤ W.heap.size) (h : V = W.alloc (.cells (madeCells (enc y).toArray N) e)) (hN : N = n * size) :
  ∃ g, W.heap.size = g ∧ Own V B e size enc (.slice (some ⟨g, 0, none⟩) n n) (List.replicate n y) ∧ Below W.heap.size W V ∧ g < V.heap.size := by
 subst h hN
 refine ⟨_, rfl, ?_, wa1 _ _, by simp⟩
 unfold Own
 rw [List.length_replicate]
 refine ⟨by rw [xDr he]; simp, .inr ⟨W.heap.size, n, _, rfl, hB, heap_alloc_new W _, Nat.le_refl _, by unfold maxLen; omega, size_madeCells _ _, ?_⟩⟩
 rw [made_flat he h0, List.take_of_length_le (by rw [xDr he]; simp)]
abbrev Sta.zero : Sta := ⟨0, [], [], []⟩
abbrev Qm.zero : Qm := ⟨none, 0, none, 0, none, 0⟩
abbrev zS : Array Value := #[.int .i64 0, .slice none 0 0, .slice none 0 0, .slice none 0 0]
structure SOff (p : Nat → Prop) (q : Qm) : Prop where
 h : ∀ a, q.h = some a → p a.block
 u : ∀ a, q.u = some a → p a.block
 m : ∀ a, q.m = some a → p a.block
structure STy (w : World) (q : Qm) : Prop where
 h : ∀ a, q.h = some a → ∃ cs, Blk w a.block 3 cs
 u : ∀ a, q.u = some a → ∃ cs, Blk w a.block 4 cs
 m : ∀ a, q.m = some a → ∃ cs, Blk w a.block 61 cs
def RetS (w : World) (S : Sta) (E : Int) (e : Ending) (w' : World) : Prop := (∃ q, e = .returned (.tuple #[.agg (stA S q), .int .i64 E]) ∧ Stm w' S q ∧ SOff (w.heap.size ≤ ·) q ∧ STy w' q) ∧ Below w.heap.size w w'
theorem Own.tyB {α : Type} {w : World} {B g n cap : Nat} {T : TypeId} {size : Nat} {enc : α → List Value} {xs : List α} (h : Own w B T size enc (.slice (some ⟨g, 0, none⟩) n cap) xs) : ∃ cs, Blk w g T cs := by
 rcases h.2 with ⟨e, _⟩ | ⟨g', cap', cur, e, _, hh, _⟩
 ·cases e
 ·cases e; exact ⟨_, hh⟩
theorem stm_zero (w : World) : Stm w Sta.zero Qm.zero := ⟨Seg.nil _ _ _ _ _, Seg.nil _ _ _ _ _, Seg.nil _ _ _ _ _, by simp, by simp, by simp, by simp, by simp, by simp⟩
theorem RetS.zero {w w' : World} {E : Int} (h : Below w.heap.size w w') : RetS w Sta.zero E (.returned (.tuple #[.agg zS, .int .i64 E])) w' :=
 ⟨⟨Qm.zero, rfl, stm_zero _, ⟨(fun _ e => by cases e), (fun _ e => by cases e), (fun _ e => by cases e)⟩, ⟨(fun _ e => by cases e), (fun _ e => by cases e), (fun _ e => by cases e)⟩⟩, h⟩
theorem Wk.ret {w0 w : World} {b : Nat} {c : Con} {m : Cm} {s : Sta} {q : Qn} {E : Int} (h : Wk w0 w b c m s q) : RetS w0 s E (.returned (.tuple #[.agg (stA s q.q), .int .i64 E])) w :=
 ⟨⟨q.q, rfl, h.stm, ⟨(fun a e => by cases e; exact h.oh.lt_.1), (fun a e => by cases e; exact h.ou.lt_.1), (fun a e => by cases e; exact h.om.lt_.1)⟩, ⟨(fun a e => by cases e; exact h.oh.tyB), (fun a e => by cases e; exact h.ou.tyB), (fun a e => by cases e; exact h.om.tyB)⟩⟩, h.hb⟩
end Go.Proofs.YtffceokjeonpcaaGreatDoor
namespace Go.Proofs.YtffceokjeonpcaaGreatDoor
open Go.RowKit
theorem xCx (y : Int) : ∀ u ∈ eI y, u.oneCell' = true := by
 intro u hu
 simp [eI] at hu
 rcases hu with rfl <;> rfl
theorem xH8 (A : Option Addr) (c : Nat) (l : List Int) (w : World) (hl : l.length ≤ 1000000) (hs : Seg w w.heap.size 1 eI A l) (hc : l.length ≤ c) :
  Calls Tryz.prog 45 #[.slice A l.length c] w fun e w' => (∃ v, e = .returned v ∧ Own w' w.heap.size 3 1 eI v l) ∧ Below w.heap.size w w' := by
 cases A with
 | none =>
  have h0 : l = [] := by
   rcases Nat.eq_zero_or_pos l.length with h | h
   ·exact List.eq_nil_of_length_eq_zero h
   ·obtain ⟨b, off, e, _⟩ := hs.some_ h
    cases e
  subst h0
  have heq : ∀ W : World, (binOp .eql 22 (.slice none 0 c) (.slice none 0 0)).run Tryz.prog W = .ok (.bool true) W := fun W => by kernel_rfl
  clear hs
  go_enter Tryz.func45, Tryz.ntmps45
  go_wp2
  go_ret
  exact ⟨⟨_, rfl, Own.nil _ _ _ _ _⟩, Below.refl _ _⟩
 | some A =>
  have HS := qzL hs
  clear hs
  obtain ⟨ri, hi, hz0, hz1, hz2⟩ := info_parts (show (Tryz.prog.info? 3).map (fun i => (i.zero, i.size, i.bytes)) = some (some (.int .i64 0), 1, 8) by kernel_rfl)
  have heq : ∀ W : World, (binOp .eql 22 (.slice (some A) l.length c) (.slice none 0 0)).run Tryz.prog W = .ok (.bool false) W := fun W => by kernel_rfl
  go_enter Tryz.func45, Tryz.ntmps45
  go_upto_region 3 with (fail)
  go_wp2_with (at_builtin; go_loud (refine xIc rfl (.tmp 5) (.tmp 6) _ rfl w.heap.size 3 ri _ 1 8 Tryz.underlying22 hi hz0 hz1 hz2 rfl (by omega) (by omega) eI xAz xCx w.heap.size rfl (Blk.new _ _ _) (Nat.le_refl _) (some A) l c l.length rfl rfl hl w.heap.size (HS.out.below (wa1 _ _)) (fun h => by cases h) ?_); intro g' c' w1 hown hgrow hg)
  go_ret
  exact ⟨⟨_, rfl, hown⟩, (wa1 w (.cells #[] 3)).trans hgrow⟩
open Go.Sort
abbrev Mk0 : Mk := ⟨0, 0, 0, 0, false⟩
abbrev Sta.sz (s : Sta) : Sta := ⟨s.day, List.replicate s.hol.length 0, List.replicate s.used.length false, List.replicate s.marks.length Mk0⟩
def Sta.stepS (c : Con) (s : Sta) (x : Int) : Sta := if s.stepE c x = 0 then s.step c x else Sta.zero
theorem xFu {w V : World} {c : Con} {m : Cm} {s : Sta} {g6 g10 g14 : Nat} (hC : Cont w c m) (hB : Below w.heap.size w V) (nh : s.hol.length ≤ 1000000) (nu : s.used.length ≤ 1000000)
  (o6 : Own V w.heap.size 3 1 eI (.slice (some ⟨g6, 0, none⟩) s.hol.length s.hol.length) (List.replicate s.hol.length 0)) (o10 : Own V w.heap.size 4 1 eB (.slice (some ⟨g10, 0, none⟩) s.used.length s.used.length) (List.replicate s.used.length false)) (o14 : Own V w.heap.size 61 5 eM (.slice (some ⟨g14, 0, none⟩) s.marks.length s.marks.length) (List.replicate s.marks.length Mk0)) (hlm : s.marks.length = c.cl.length) :
  Wk w (V.alloc (.cells #[.int .i64 c.par, .slice m.h c.hold.length m.hc, .slice m.u c.un.length m.uc, .slice m.a c.ac.length m.ac, .slice m.k c.cl.length m.kc, .int .i64 c.days, .slice m.o c.off.length m.oc, .int .i64 s.day, .slice (some ⟨g6, 0, none⟩) s.hol.length s.hol.length, .slice (some ⟨g10, 0, none⟩) s.used.length s.used.length, .slice (some ⟨g14, 0, none⟩) s.marks.length s.marks.length] 101)) V.heap.size c m s.sz ⟨g6, s.hol.length, g10, s.used.length, g14, s.marks.length⟩ := by
 have e1 : s.sz.hol.length = s.hol.length := List.length_replicate
 have e2 : s.sz.used.length = s.used.length := List.length_replicate
 have e3 : s.sz.marks.length = s.marks.length := List.length_replicate
 refine ⟨?_, ?_, ?_, ?_, xAc hB _, hB.size, hC, e3.trans hlm, by rw [e1]; exact nh, by rw [e2]; exact nu⟩
 ·unfold wkA
  rw [e1, e2, e3]
  exact Blk.new _ _ _
 ·rw [e1]; exact o6.alloc _
 ·rw [e2]; exact o10.alloc _
 ·rw [e3]; exact o14.alloc _
section
variable {w0 w w' : World} {b : Nat} {c : Con} {m : Cm} {s : Sta} {q : Qn}
theorem Wk.newH (h : Wk w0 w b c m s q) {l : List Int} (hl : l.length = s.hol.length) (u : Upd w w' q.h) (hO : Own w' w0.heap.size 3 1 eI (.slice (some ⟨q.h, 0, none⟩) s.hol.length q.hc) l) : Wk w0 w' b c m { s with hol := l } q :=
 ⟨by have := h.g.upd u h.bh; unfold wkA at this ⊢; rw [show ({ s with hol := l } : Sta).hol.length = s.hol.length from hl]; exact this, by rw [show ({ s with hol := l } : Sta).hol.length = s.hol.length from hl]; exact hO, h.ou.upd u (by intro k hk; cases hk; exact h.hu.symm), h.om.upd u (by intro k hk; cases hk; exact h.hm.symm), h.hb.trans (u.b _ h.oh.lt_.1), h.lb, h.cn, h.lm, by show l.length ≤ _; rw [hl]; exact h.nh, h.nu⟩
theorem Wk.newU (h : Wk w0 w b c m s q) {l : List Bool} (hl : l.length = s.used.length) (u : Upd w w' q.u) (hO : Own w' w0.heap.size 4 1 eB (.slice (some ⟨q.u, 0, none⟩) s.used.length q.uc) l) : Wk w0 w' b c m { s with used := l } q :=
 ⟨by have := h.g.upd u h.bu; unfold wkA at this ⊢; rw [show ({ s with used := l } : Sta).used.length = s.used.length from hl]; exact this, h.oh.upd u (by intro k hk; cases hk; exact h.hu), by rw [show ({ s with used := l } : Sta).used.length = s.used.length from hl]; exact hO, h.om.upd u (by intro k hk; cases hk; exact h.um.symm), h.hb.trans (u.b _ h.ou.lt_.1), h.lb, h.cn, h.lm, h.nh, by show l.length ≤ _; rw [hl]; exact h.nu⟩
theorem Wk.newM (h : Wk w0 w b c m s q) {l : List Mk} (hl : l.length = s.marks.length) (u : Upd w w' q.m) (hO : Own w' w0.heap.size 61 5 eM (.slice (some ⟨q.m, 0, none⟩) s.marks.length q.mc) l) : Wk w0 w' b c m { s with marks := l } q :=
 ⟨by have := h.g.upd u h.bm; unfold wkA at this ⊢; rw [show ({ s with marks := l } : Sta).marks.length = s.marks.length from hl]; exact this, h.oh.upd u (by intro k hk; cases hk; exact h.hm), h.ou.upd u (by intro k hk; cases hk; exact h.um), by rw [show ({ s with marks := l } : Sta).marks.length = s.marks.length from hl]; exact hO, h.hb.trans (u.b _ h.om.lt_.1), h.lb, h.cn, hl.trans h.lm, h.nh, h.nu⟩
theorem Wk.updG {g : Nat} (h : Wk w0 w b c m s q) (u : Upd w w' g) (hg : b ≠ g ∧ q.h ≠ g ∧ q.u ≠ g ∧ q.m ≠ g) (h0 : w0.heap.size ≤ g) : Wk w0 w' b c m s q :=
 ⟨h.g.upd u hg.1, h.oh.upd u (by intro k hk; cases hk; exact hg.2.1), h.ou.upd u (by intro k hk; cases hk; exact hg.2.2.1), h.om.upd u (by intro k hk; cases hk; exact hg.2.2.2), h.hb.trans (u.b _ h0), h.lb, h.cn, h.lm, h.nh, h.nu⟩
end
theorem xH1 {c : Con} (h : c.ok = true) {k : Cla} (hk : k ∈ c.cl) : k.aft ≤ 400 ∧ k.grace ≤ 400 := by
 have hv := xDa h hk
 unfold Con.ok at h
 simp only [Bool.and_eq_true] at h
 obtain ⟨i, hi⟩ := List.getElem?_of_mem hk
 have h2 := (c.clsOk_iff c.cl 0).1 h.2 i k hi
 unfold Con.claOk at h2
 simp only [Bool.and_eq_true, decide_eq_true_eq] at h2
 refine ⟨h2.1.1.1.1.1.2, ?_⟩
 by_cases k1 : k.kind = 1
 ·have h3 := h2.1.1.1.1.2
  unfold Con.kindOk at h3
  rw [if_neg (by simp [k1])] at h3
  simp only [Bool.and_eq_true] at h3
  have h4 := h3.2
  rw [if_pos (by simp [k1])] at h4
  simp only [Bool.and_eq_true, decide_eq_true_eq] at h4
  exact h4.2
 ·have := hv.g1 k1; omega
theorem SOk.marks_bd {c : Con} {s : Sta} (h : SOk c s) : (∀ x ∈ s.marks, x.runs = true → 0 ≤ x.left ∧ x.left ≤ 1000000) ∧ (∀ x ∈ s.marks, x.runs = true → 0 ≤ x.got ∧ x.got ≤ 9) := by
 have key : ∀ x ∈ s.marks, x.runs = true → (0 ≤ x.left ∧ x.left ≤ 1000000) ∧ (0 ≤ x.got ∧ x.got ≤ 9) := fun x hx hr => by
  obtain ⟨i, hi⟩ := List.getElem?_of_mem hx
  obtain ⟨k, hk⟩ : ∃ k, c.cl[i]? = some k := ⟨_, qzJ (by rw [← h.m]; exact (qzM hi).1)⟩
  have hm := h.mr i k x hk hi
  have hb := xH1 h.vc (qzK hk)
  have hv := (xDa h.vc (qzK hk)).n1
  rw [xA8] at hm
  simp only [Mk.runs, Bool.or_eq_true, beq_iff_eq] at hr
  rcases hm with ⟨h0, _⟩ | ⟨ha, _, hl, _, hg, _⟩ | ⟨h0, _⟩
  ·omega
  ·omega
  ·omega
 exact ⟨fun x hx hr => (key x hx hr).1, fun x hx hr => (key x hx hr).2⟩
theorem SOk.day_bd {c : Con} {s : Sta} (h : SOk c s) : 0 ≤ s.day ∧ s.day ≤ 1000000 := by
 have h1 := h.d0
 have h2 := h.d1
 have hc := h.vc
 unfold Con.ok Con.lim at hc
 simp only [Bool.and_eq_true, decide_eq_true_eq] at hc
 have := hc.1.1.1.1.1.1.2
 omega
theorem xD9 (c : Con) (m : Cm) (s : Sta) (q : Qm) (x : Int) (w : World) (hC : Cont w c m) (hS : Stm w s q) :
  Calls Tryz.prog 22 #[.agg (coA c m), .agg (stA s q), .int .i64 x] w fun e w' => RetS w (s.stepS c x) (s.stepE c x) e w' := by
 obtain ⟨E, hE⟩ : ∃ E, s.stepE c x = E := ⟨_, rfl⟩
 obtain ⟨F, hF⟩ : ∃ F, s.stepS c x = F := ⟨_, rfl⟩
 rw [hE, hF]
 have HE : Hid (E = if s.ok c = false ∨ x < -1 ∨ (c.ac.length : Int) ≤ x then 1 else if s.day = c.days then 13 else 0) := hE.symm
 have HF : Hid (F = if E = 0 then s.step c x else Sta.zero) := by unfold Hid; rw [← hF, ← hE]; rfl
 have HC := qzL hC
 have HS := qzL hS
 obtain ⟨V, hV⟩ : ∃ v, s.ok c = v := ⟨_, rfl⟩
 have HV : Hid (∀ W, Below w.heap.size w W → Calls Tryz.prog 47 #[.agg #[.int .i64 c.par, .slice m.h c.hold.length m.hc, .slice m.u c.un.length m.uc, .slice m.a c.ac.length m.ac, .slice m.k c.cl.length m.kc, .int .i64 c.days, .slice m.o c.off.length m.oc], .agg #[.int .i64 s.day, .slice q.h s.hol.length q.hc, .slice q.u s.used.length q.uc, .slice q.m s.marks.length q.mc]] W fun e w' => e = .returned (.bool V) ∧ Below W.heap.size W w') := fun W hb => by
  have h := xEs c m s q W (hC.then_ hb) (hS.then_ hb)
  rw [hV] at h
  exact h
 have HVE := qzL hV
 have nh := hS.nh
 have nu := hS.nu
 have nm := hS.nm
 have na := hC.na
 clear hE hF hC hS hV
 go_enter Tryz.func22, Tryz.ntmps22
 go_upto_region 1 with (fail)
 refine xAi ?_
 intro X hX
 have ga : Blk X w.heap.size 27 (coA c m) := by rw [hX]; exact ((xA0 (by simp)).alloc _).alloc _
 have gs : Blk X (w.heap.size + 1) 47 (stA s q) := by rw [hX]; exact (xA0 (by simp)).alloc _
 have gr : Blk X (w.heap.size + 2) 47 zS := by rw [hX]; exact xA0 (by simp)
 have HB : Below w.heap.size w X := by rw [hX]; (repeat (first | exact Below.refl _ _ | refine xAc ?_ _))
 obtain ⟨br, ebr⟩ : ∃ b, w.heap.size + 2 = b := ⟨_, rfl⟩
 obtain ⟨bs, ebs⟩ : ∃ b, w.heap.size + 1 = b := ⟨_, rfl⟩
 obtain ⟨ba, eba⟩ : ∃ b, w.heap.size = b := ⟨_, rfl⟩
 have lbr : Hid (w.heap.size ≤ br) := by unfold Hid; omega
 rw [ebr] at gr ⊢
 rw [ebs] at gs ⊢
 rw [eba] at ga ⊢
 clear hX ebr ebs eba
 obtain ⟨k0, k1, k2, k3, k4, k5, k6⟩ := coC (c := c) (m := m) ga rfl
 obtain ⟨s0, s1, s2, s3⟩ := stC (c := s) (m := q) gs rfl
 cases V with
 | false =>
  have hz1 : E = 1 := by rw [HE.out, if_pos (.inl HVE.out)]
  have hz : Hid (E = 1 ∧ F = Sta.zero) := ⟨hz1, by rw [HF.out, hz1]; rfl⟩
  clear hz1
  go_wp2_with (first | (go_at_call 47; (with_reducible refine (HV.out _ HB).mono ?_); rintro e w1 ⟨rfl, hb1⟩; have gr1 := gr.then_ hb1; have s0' : w1.cell? ⟨bs, 0, none⟩ = some (.int .i64 s.day) := ((gs.then_ hb1).cell 0); have k5' : w1.cell? ⟨ba, 5, none⟩ = some (.int .i64 c.days) := ((ga.then_ hb1).cell 5); have k3' : w1.cell? ⟨ba, 3, none⟩ = some (.slice m.a c.ac.length m.ac) := ((ga.then_ hb1).cell 3)) | (refine xAh rfl 47 _ _ rfl br 47 [] zS.toList [] zS.toList rfl rfl gr1 rfl (by kernel_rfl) (by simp [Value.oneCell']) ?_; intro we ge ue))
  refine bodyPost_ret (xBp rfl rfl ge ⟨_, Tryz.underlying47⟩ (by kernel_rfl)) rfl ?_
  rw [hz.out.1, hz.out.2]
  exact RetS.zero ((xAa HB hb1).trans (ue.b _ lbr.out))
 | true =>
 by_cases hx1 : x < -1
 ·have t1 := qzO hx1
  have HX1 := qzL hx1
  clear hx1
  have hz1 : E = 1 := by rw [HE.out, if_pos (.inr (.inl HX1.out))]
  have hz : Hid (E = 1 ∧ F = Sta.zero) := ⟨hz1, by rw [HF.out, hz1]; rfl⟩
  clear hz1
  go_wp2_with (first | (go_at_call 47; (with_reducible refine (HV.out _ HB).mono ?_); rintro e w1 ⟨rfl, hb1⟩; have gr1 := gr.then_ hb1; have s0' : w1.cell? ⟨bs, 0, none⟩ = some (.int .i64 s.day) := ((gs.then_ hb1).cell 0); have k5' : w1.cell? ⟨ba, 5, none⟩ = some (.int .i64 c.days) := ((ga.then_ hb1).cell 5); have k3' : w1.cell? ⟨ba, 3, none⟩ = some (.slice m.a c.ac.length m.ac) := ((ga.then_ hb1).cell 3)) | (refine xAh rfl 47 _ _ rfl br 47 [] zS.toList [] zS.toList rfl rfl gr1 rfl (by kernel_rfl) (by simp [Value.oneCell']) ?_; intro we ge ue))
  refine bodyPost_ret (xBp rfl rfl ge ⟨_, Tryz.underlying47⟩ (by kernel_rfl)) rfl ?_
  rw [hz.out.1, hz.out.2]
  exact RetS.zero ((xAa HB hb1).trans (ue.b _ lbr.out))
 have t1 := qzN hx1
 by_cases hx2 : (c.ac.length : Int) ≤ x
 ·have t2 := qzO hx2
  have HX2 := qzL hx2
  clear hx1 hx2
  have hz1 : E = 1 := by rw [HE.out, if_pos (.inr (.inr HX2.out))]
  have hz : Hid (E = 1 ∧ F = Sta.zero) := ⟨hz1, by rw [HF.out, hz1]; rfl⟩
  clear hz1
  go_wp2_with (first | (go_at_call 47; (with_reducible refine (HV.out _ HB).mono ?_); rintro e w1 ⟨rfl, hb1⟩; have gr1 := gr.then_ hb1; have s0' : w1.cell? ⟨bs, 0, none⟩ = some (.int .i64 s.day) := ((gs.then_ hb1).cell 0); have k5' : w1.cell? ⟨ba, 5, none⟩ = some (.int .i64 c.days) := ((ga.then_ hb1).cell 5); have k3' : w1.cell? ⟨ba, 3, none⟩ = some (.slice m.a c.ac.length m.ac) := ((ga.then_ hb1).cell 3)) | (refine xAh rfl 47 _ _ rfl br 47 [] zS.toList [] zS.toList rfl rfl gr1 rfl (by kernel_rfl) (by simp [Value.oneCell']) ?_; intro we ge ue))
  refine bodyPost_ret (xBp rfl rfl ge ⟨_, Tryz.underlying47⟩ (by kernel_rfl)) rfl ?_
  rw [hz.out.1, hz.out.2]
  exact RetS.zero ((xAa HB hb1).trans (ue.b _ lbr.out))
 have t2 := qzN hx2
 have HXR : Hid (-1 ≤ x ∧ x < (c.ac.length : Int)) := by unfold Hid; omega
 have HE2 : Hid (E = if s.day = c.days then 13 else 0) := by
  unfold Hid; rw [HE.out, if_neg]
  rintro (h | h | h)
  ·rw [HVE.out] at h; cases h
  ·exact hx1 h
  ·exact hx2 h
 clear hx1 hx2
 cases t3 : (s.day == c.days) with
 | true =>
  have HD := qzL (eq_of_beq t3)
  have hz1 : E = 13 := by rw [HE2.out, if_pos HD.out]
  have hz : Hid (E = 13 ∧ F = Sta.zero) := ⟨hz1, by rw [HF.out, hz1]; rfl⟩
  clear hz1
  go_wp2_with (first | (go_at_call 47; (with_reducible refine (HV.out _ HB).mono ?_); rintro e w1 ⟨rfl, hb1⟩; have gr1 := gr.then_ hb1; have s0' : w1.cell? ⟨bs, 0, none⟩ = some (.int .i64 s.day) := ((gs.then_ hb1).cell 0); have k5' : w1.cell? ⟨ba, 5, none⟩ = some (.int .i64 c.days) := ((ga.then_ hb1).cell 5); have k3' : w1.cell? ⟨ba, 3, none⟩ = some (.slice m.a c.ac.length m.ac) := ((ga.then_ hb1).cell 3)) | (refine xAh rfl 47 _ _ rfl br 47 [] zS.toList [] zS.toList rfl rfl gr1 rfl (by kernel_rfl) (by simp [Value.oneCell']) ?_; intro we ge ue))
  refine bodyPost_ret (xBp rfl rfl ge ⟨_, Tryz.underlying47⟩ (by kernel_rfl)) rfl ?_
  rw [hz.out.1, hz.out.2]
  exact RetS.zero ((xAa HB hb1).trans (ue.b _ lbr.out))
 | false =>
 have hE0 : Hid (E = 0) := by unfold Hid; rw [HE2.out, if_neg (fun h => by rw [h] at t3; simp at t3)]
 have hF0 : Hid (F = s.step c x) := by unfold Hid; rw [HF.out, if_pos hE0.out]
 clear HE HE2 HF
 have HSO := qzL (xDu.1 HVE.out)
 have HLM := qzL HSO.out.m
 go_upto_region 5 with ((go_at_call 47; (with_reducible refine (HV.out _ HB).mono ?_); rintro e w1 ⟨rfl, hb1⟩; have s0' : w1.cell? ⟨bs, 0, none⟩ = some (.int .i64 s.day) := ((gs.then_ hb1).cell 0); have k5' : w1.cell? ⟨ba, 5, none⟩ = some (.int .i64 c.days) := ((ga.then_ hb1).cell 5); have k3' : w1.cell? ⟨ba, 3, none⟩ = some (.slice m.a c.ac.length m.ac) := ((ga.then_ hb1).cell 3)))
 refine xAi ?_
 intro Y hY
 have gaY : Blk Y ba 27 (coA c m) := by rw [hY]; exact ga.then_ hb1
 have gsY : Blk Y bs 47 (stA s q) := by rw [hY]; exact gs.then_ hb1
 have grY : Blk Y br 47 zS := by rw [hY]; exact gr.then_ hb1
 have hYB : Hid (Below w.heap.size w Y) := by rw [hY]; exact xAa HB hb1
 have lwY := hYB.out.size
 have hls : Hid (bs < Y.heap.size) := gsY.lt
 clear hY hb1 HB ga gs gr HV s0' k5' k3' t1 t2 t3 k0 k1 k2 k3 k4 k5 k6 s0 s1 s2 s3
 obtain ⟨i1, hi1, hz10, hz11, hz12⟩ := info_parts (show (Tryz.prog.info? 3).map (fun i => (i.zero, i.size, i.bytes)) = some (some (.int .i64 0), 1, 8) by kernel_rfl)
 obtain ⟨i2, hi2, hz20, hz21, hz22⟩ := info_parts (show (Tryz.prog.info? 4).map (fun i => (i.zero, i.size, i.bytes)) = some (some (.bool false), 1, 1) by kernel_rfl)
 obtain ⟨i3, hi3, hz30, hz31, hz32⟩ := info_parts (show (Tryz.prog.info? 61).map (fun i => (i.zero, i.size, i.bytes)) = some (some (.agg #[.int .i64 0, .int .i64 0, .int .i64 0, .int .i64 0, .bool false]), 5, 40) by kernel_rfl)
 have hm1 : ∀ W : World, (Instr.makeSlice 22 (.int .i64 (s.hol.length : Nat)) (.int .i64 (s.hol.length : Nat))).run Tryz.prog W = _ := fun W => xEh (enc := eI) (y := 0) Tryz.underlying22 hi1 hz10 hz11 hz12 (by omega) rfl (by omega) W
 have hm2 : ∀ W : World, (Instr.makeSlice 44 (.int .i64 (s.used.length : Nat)) (.int .i64 (s.used.length : Nat))).run Tryz.prog W = _ := fun W => xEh (enc := eB) (y := false) Tryz.underlying44 hi2 hz20 hz21 hz22 (by omega) rfl (by omega) W
 have hm3 : ∀ W : World, (Instr.makeSlice 45 (.int .i64 (s.marks.length : Nat)) (.int .i64 (s.marks.length : Nat))).run Tryz.prog W = _ := fun W => xEh (enc := eM) (y := Mk0) Tryz.underlying45 hi3 hz30 hz31 hz32 (by omega) rfl (by omega) W
 go_cut [8] from 31 to 49 (fun v W => ∃ (b' : Nat) (n : Qn), v = .pointer (some ⟨b', 0, none⟩) ∧ Hid (Wk w W b' c m s.sz n) ∧ Hid (Below Y.heap.size Y W) ∧ Hid (br < Y.heap.size ∧ Y.heap.size ≤ b' ∧ Y.heap.size ≤ n.h ∧ Y.heap.size ≤ n.u ∧ Y.heap.size ≤ n.m))
 case first =>
  refine xBf (fun w' => Hid (Below Y.heap.size Y w')) [0, 1, 2, 3, 4, 5, 6, 7, 8, 9, 10, 11, 12, 13, 14, 15, 16] [17, 18] (by kernel_rfl) (by kernel_rfl) pO (qzL (Below.drew (Below.refl _ _))) (fun hdir hsel hpan hHeld => ?_)
  refine xAd (i := 0) (oi := ⟨some 31, _, _, _, _, _⟩) hdir hsel hpan rfl (by kernel_rfl) (by kernel_rfl) (by kernel_rfl) (yieldsIf_row (by rfl) 27 _ rfl ba rfl 27 _ (fun w hw => (gaY.then_ hw.out)) ⟨_, Tryz.underlying27⟩ (by kernel_rfl)) (by assumption) ?_
  try simp only [Act.put, qzG, qzI, qzH]
  refine xAd (i := 1) (oi := ⟨some 32, _, _, _, _, _⟩) (v := .pointer (some ⟨bs, 0, none⟩)) hdir hsel hpan rfl (by kernel_rfl) (by kernel_rfl) (by kernel_rfl) (Or.inl ⟨by rfl, fun w hw => by go_simp⟩) (by assumption) ?_
  try simp only [Act.put, qzG, qzI, qzH]
  refine xAd (i := 2) (oi := ⟨some 33, _, _, _, _, _⟩) (v := .int .i64 s.day) hdir hsel hpan rfl (by kernel_rfl) (by kernel_rfl) (by kernel_rfl) (Or.inl ⟨by rfl, fun w hw => by have hc := (gsY.then_ hw.out).cell 0; go_simp⟩) (by assumption) ?_
  try simp only [Act.put, qzG, qzI, qzH]
  refine xAd (i := 3) (oi := ⟨some 34, _, _, _, _, _⟩) (v := .pointer (some ⟨bs, 1, none⟩)) hdir hsel hpan rfl (by kernel_rfl) (by kernel_rfl) (by kernel_rfl) (Or.inl ⟨by rfl, fun w hw => by go_simp⟩) (by assumption) ?_
  try simp only [Act.put, qzG, qzI, qzH]
  refine xAd (i := 4) (oi := ⟨some 35, _, _, _, _, _⟩) (v := .slice q.h s.hol.length q.hc) hdir hsel hpan rfl (by kernel_rfl) (by kernel_rfl) (by kernel_rfl) (Or.inl ⟨by rfl, fun w hw => by have hc := (gsY.then_ hw.out).cell 1; go_simp⟩) (by assumption) ?_
  try simp only [Act.put, qzG, qzI, qzH]
  refine xAd (i := 5) (oi := ⟨some 36, _, _, _, _, _⟩) (v := .int .i64 (s.hol.length : Nat)) hdir hsel hpan rfl (by kernel_rfl) (by kernel_rfl) (by kernel_rfl) (Or.inl ⟨by rfl, fun w hw => by go_simp⟩) (by assumption) ?_
  try simp only [Act.put, qzG, qzI, qzH]
  refine xAd (i := 7) (oi := ⟨some 38, _, _, _, _, _⟩) (v := .pointer (some ⟨bs, 2, none⟩)) hdir hsel hpan rfl (by kernel_rfl) (by kernel_rfl) (by kernel_rfl) (Or.inl ⟨by rfl, fun w hw => by go_simp⟩) (by assumption) ?_
  try simp only [Act.put, qzG, qzI, qzH]
  refine xAd (i := 8) (oi := ⟨some 39, _, _, _, _, _⟩) (v := .slice q.u s.used.length q.uc) hdir hsel hpan rfl (by kernel_rfl) (by kernel_rfl) (by kernel_rfl) (Or.inl ⟨by rfl, fun w hw => by have hc := (gsY.then_ hw.out).cell 2; go_simp⟩) (by assumption) ?_
  try simp only [Act.put, qzG, qzI, qzH]
  refine xAd (i := 9) (oi := ⟨some 40, _, _, _, _, _⟩) (v := .int .i64 (s.used.length : Nat)) hdir hsel hpan rfl (by kernel_rfl) (by kernel_rfl) (by kernel_rfl) (Or.inl ⟨by rfl, fun w hw => by go_simp⟩) (by assumption) ?_
  try simp only [Act.put, qzG, qzI, qzH]
  refine xAd (i := 11) (oi := ⟨some 42, _, _, _, _, _⟩) (v := .pointer (some ⟨bs, 3, none⟩)) hdir hsel hpan rfl (by kernel_rfl) (by kernel_rfl) (by kernel_rfl) (Or.inl ⟨by rfl, fun w hw => by go_simp⟩) (by assumption) ?_
  try simp only [Act.put, qzG, qzI, qzH]
  refine xAd (i := 12) (oi := ⟨some 43, _, _, _, _, _⟩) (v := .slice q.m s.marks.length q.mc) hdir hsel hpan rfl (by kernel_rfl) (by kernel_rfl) (by kernel_rfl) (Or.inl ⟨by rfl, fun w hw => by have hc := (gsY.then_ hw.out).cell 3; go_simp⟩) (by assumption) ?_
  try simp only [Act.put, qzG, qzI, qzH]
  refine xAd (i := 13) (oi := ⟨some 44, _, _, _, _, _⟩) (v := .int .i64 (s.marks.length : Nat)) hdir hsel hpan rfl (by kernel_rfl) (by kernel_rfl) (by kernel_rfl) (Or.inl ⟨by rfl, fun w hw => by go_simp⟩) (by assumption) ?_
  try simp only [Act.put, qzG, qzI, qzH]
  refine xAt (rs := [6, 10, 14]) (by kernel_rfl) (by simp) ?_
  refine AllHB.cons (by kernel_rfl) (o := ⟨some 37, _, _, _, _, _⟩) rfl (fun K hK => ?_) ?_
  ·go_simp
   have lla := hHeld.out.size
   refine xBi ?_
   intro V6 hV6
   obtain ⟨g6, e6, o6, hb6, l6⟩ := (by first | exact xAo (B := w.heap.size) (enc := eI) (y := 0) (n := s.hol.length) xAz (by decide) (by omega) (by omega) hV6 (by simp) | exact xAo (W := Y.drew) (B := w.heap.size) (enc := eI) (y := 0) (n := s.hol.length) xAz (by decide) (by omega) (by show w.heap.size ≤ Y.heap.size; omega) hV6 (by simp) : ∃ g, _)
   try rw [e6]
   try (have e62 : Y.heap.size = g6 := e6; rw [e62])
   try (replace o10 := o10.below hb6)
   try (replace o14 := o14.below hb6)
   clear hV6
   refine hK.out _ _ (qzL (xAa hHeld.out hb6)) (fun hHeld2 => ?_)
   clear hK K hHeld
   have hHeld := hHeld2
   clear hHeld2
   try simp only [Act.put, qzG, qzI, qzH]
   refine xAt (rs := [10, 14]) (by kernel_rfl) (by simp) ?_
   refine AllHB.cons (by kernel_rfl) (o := ⟨some 41, _, _, _, _, _⟩) rfl (fun K hK => ?_) ?_
   ·go_simp
    have lla := hHeld.out.size
    refine xBi ?_
    intro V10 hV10
    obtain ⟨g10, e10, o10, hb10, l10⟩ := (by first | exact xAo (B := w.heap.size) (enc := eB) (y := false) (n := s.used.length) xBj (by decide) (by omega) (by omega) hV10 (by simp) | exact xAo (W := Y.drew) (B := w.heap.size) (enc := eB) (y := false) (n := s.used.length) xBj (by decide) (by omega) (by show w.heap.size ≤ Y.heap.size; omega) hV10 (by simp) : ∃ g, _)
    try rw [e10]
    try (have e102 : Y.heap.size = g10 := e10; rw [e102])
    try (replace o6 := o6.below hb10)
    try (replace o14 := o14.below hb10)
    clear hV10
    refine hK.out _ _ (qzL (xAa hHeld.out hb10)) (fun hHeld2 => ?_)
    clear hK K hHeld
    have hHeld := hHeld2
    clear hHeld2
    try simp only [Act.put, qzG, qzI, qzH]
    refine xAt (rs := [14]) (by kernel_rfl) (by simp) ?_
    refine AllHB.cons (by kernel_rfl) (o := ⟨some 45, _, _, _, _, _⟩) rfl (fun K hK => ?_) AllHB.nil
    go_simp
    have lla := hHeld.out.size
    refine xBi ?_
    intro V14 hV14
    obtain ⟨g14, e14, o14, hb14, l14⟩ := (by first | exact xAo (B := w.heap.size) (enc := eM) (y := Mk0) (n := s.marks.length) xBg (by decide) (by omega) (by omega) hV14 (by simp) | exact xAo (W := Y.drew) (B := w.heap.size) (enc := eM) (y := Mk0) (n := s.marks.length) xBg (by decide) (by omega) (by show w.heap.size ≤ Y.heap.size; omega) hV14 (by simp) : ∃ g, _)
    try rw [e14]
    try (have e142 : Y.heap.size = g14 := e14; rw [e142])
    try (replace o6 := o6.below hb14)
    try (replace o10 := o10.below hb14)
    clear hV14
    refine hK.out _ _ (qzL (xAa hHeld.out hb14)) (fun hHeld2 => ?_)
    clear hK K hHeld
    have hHeld := hHeld2
    clear hHeld2
    try simp only [Act.put, qzG, qzI, qzH]
    refine xAd (i := 15) (oi := ⟨some 46, _, _, _, _, _⟩) (v := .agg #[.int .i64 s.day, .slice (some ⟨g6, 0, none⟩) s.hol.length s.hol.length, .slice (some ⟨g10, 0, none⟩) s.used.length s.used.length, .slice (some ⟨g14, 0, none⟩) s.marks.length s.marks.length]) hdir hsel hpan rfl (by kernel_rfl) (by kernel_rfl) (by kernel_rfl) (Or.inl ⟨by rfl, fun w hw => by go_simp⟩) (by assumption) ?_
    try simp only [Act.put, qzG, qzI, qzH]
    refine xAd (i := 16) (oi := ⟨some 47, _, _, _, _, _⟩) (v := .agg #[.int .i64 c.par, .slice m.h c.hold.length m.hc, .slice m.u c.un.length m.uc, .slice m.a c.ac.length m.ac, .slice m.k c.cl.length m.kc, .int .i64 c.days, .slice m.o c.off.length m.oc, .int .i64 s.day, .slice (some ⟨g6, 0, none⟩) s.hol.length s.hol.length, .slice (some ⟨g10, 0, none⟩) s.used.length s.used.length, .slice (some ⟨g14, 0, none⟩) s.marks.length s.marks.length]) hdir hsel hpan rfl (by kernel_rfl) (by kernel_rfl) (by kernel_rfl) (Or.inl ⟨by rfl, fun w hw => by go_simp⟩) (by assumption) ?_
    try simp only [Act.put, qzG, qzI, qzH]
    refine xA6 (by kernel_rfl) (by kernel_rfl) ?_
    clear hdir hsel hpan
    simp only [xAn, qzA, qzB, qzC, qzD, qzE, qzF]
    go_wp2
    go_meet
    case rel => exact ⟨_, ⟨g6, _, g10, _, g14, _⟩, rfl, qzL (xFu HC.out (xAa hYB.out hHeld.out) nh nu o6 o10 o14 HLM.out), qzL (hHeld.out.alloc hHeld.out.size _), qzL ⟨grY.lt, hHeld.out.size, by show Y.heap.size ≤ g6; first | omega | (have ey : Y.drew.heap.size = Y.heap.size := rfl; omega), by show Y.heap.size ≤ g10; first | omega | (have ey : Y.drew.heap.size = Y.heap.size := rfl; omega), by show Y.heap.size ≤ g14; first | omega | (have ey : Y.drew.heap.size = Y.heap.size := rfl; omega)⟩⟩
   refine AllHB.cons (by kernel_rfl) (o := ⟨some 45, _, _, _, _, _⟩) rfl (fun K hK => ?_) ?_
   ·go_simp
    have lla := hHeld.out.size
    refine xBi ?_
    intro V14 hV14
    obtain ⟨g14, e14, o14, hb14, l14⟩ := (by first | exact xAo (B := w.heap.size) (enc := eM) (y := Mk0) (n := s.marks.length) xBg (by decide) (by omega) (by omega) hV14 (by simp) | exact xAo (W := Y.drew) (B := w.heap.size) (enc := eM) (y := Mk0) (n := s.marks.length) xBg (by decide) (by omega) (by show w.heap.size ≤ Y.heap.size; omega) hV14 (by simp) : ∃ g, _)
    try rw [e14]
    try (have e142 : Y.heap.size = g14 := e14; rw [e142])
    try (replace o6 := o6.below hb14)
    try (replace o10 := o10.below hb14)
    clear hV14
    refine hK.out _ _ (qzL (xAa hHeld.out hb14)) (fun hHeld2 => ?_)
    clear hK K hHeld
    have hHeld := hHeld2
    clear hHeld2
    try simp only [Act.put, qzG, qzI, qzH]
    refine xAt (rs := [10]) (by kernel_rfl) (by simp) ?_
    refine AllHB.cons (by kernel_rfl) (o := ⟨some 41, _, _, _, _, _⟩) rfl (fun K hK => ?_) AllHB.nil
    go_simp
    have lla := hHeld.out.size
    refine xBi ?_
    intro V10 hV10
    obtain ⟨g10, e10, o10, hb10, l10⟩ := (by first | exact xAo (B := w.heap.size) (enc := eB) (y := false) (n := s.used.length) xBj (by decide) (by omega) (by omega) hV10 (by simp) | exact xAo (W := Y.drew) (B := w.heap.size) (enc := eB) (y := false) (n := s.used.length) xBj (by decide) (by omega) (by show w.heap.size ≤ Y.heap.size; omega) hV10 (by simp) : ∃ g, _)
    try rw [e10]
    try (have e102 : Y.heap.size = g10 := e10; rw [e102])
    try (replace o6 := o6.below hb10)
    try (replace o14 := o14.below hb10)
    clear hV10
    refine hK.out _ _ (qzL (xAa hHeld.out hb10)) (fun hHeld2 => ?_)
    clear hK K hHeld
    have hHeld := hHeld2
    clear hHeld2
    try simp only [Act.put, qzG, qzI, qzH]
    refine xAd (i := 15) (oi := ⟨some 46, _, _, _, _, _⟩) (v := .agg #[.int .i64 s.day, .slice (some ⟨g6, 0, none⟩) s.hol.length s.hol.length, .slice (some ⟨g10, 0, none⟩) s.used.length s.used.length, .slice (some ⟨g14, 0, none⟩) s.marks.length s.marks.length]) hdir hsel hpan rfl (by kernel_rfl) (by kernel_rfl) (by kernel_rfl) (Or.inl ⟨by rfl, fun w hw => by go_simp⟩) (by assumption) ?_
    try simp only [Act.put, qzG, qzI, qzH]
    refine xAd (i := 16) (oi := ⟨some 47, _, _, _, _, _⟩) (v := .agg #[.int .i64 c.par, .slice m.h c.hold.length m.hc, .slice m.u c.un.length m.uc, .slice m.a c.ac.length m.ac, .slice m.k c.cl.length m.kc, .int .i64 c.days, .slice m.o c.off.length m.oc, .int .i64 s.day, .slice (some ⟨g6, 0, none⟩) s.hol.length s.hol.length, .slice (some ⟨g10, 0, none⟩) s.used.length s.used.length, .slice (some ⟨g14, 0, none⟩) s.marks.length s.marks.length]) hdir hsel hpan rfl (by kernel_rfl) (by kernel_rfl) (by kernel_rfl) (Or.inl ⟨by rfl, fun w hw => by go_simp⟩) (by assumption) ?_
    try simp only [Act.put, qzG, qzI, qzH]
    refine xA6 (by kernel_rfl) (by kernel_rfl) ?_
    clear hdir hsel hpan
    simp only [xAn, qzA, qzB, qzC, qzD, qzE, qzF]
    go_wp2
    go_meet
    case rel => exact ⟨_, ⟨g6, _, g10, _, g14, _⟩, rfl, qzL (xFu HC.out (xAa hYB.out hHeld.out) nh nu o6 o10 o14 HLM.out), qzL (hHeld.out.alloc hHeld.out.size _), qzL ⟨grY.lt, hHeld.out.size, by show Y.heap.size ≤ g6; first | omega | (have ey : Y.drew.heap.size = Y.heap.size := rfl; omega), by show Y.heap.size ≤ g10; first | omega | (have ey : Y.drew.heap.size = Y.heap.size := rfl; omega), by show Y.heap.size ≤ g14; first | omega | (have ey : Y.drew.heap.size = Y.heap.size := rfl; omega)⟩⟩
   exact AllHB.nil
  refine AllHB.cons (by kernel_rfl) (o := ⟨some 41, _, _, _, _, _⟩) rfl (fun K hK => ?_) ?_
  ·go_simp
   have lla := hHeld.out.size
   refine xBi ?_
   intro V10 hV10
   obtain ⟨g10, e10, o10, hb10, l10⟩ := (by first | exact xAo (B := w.heap.size) (enc := eB) (y := false) (n := s.used.length) xBj (by decide) (by omega) (by omega) hV10 (by simp) | exact xAo (W := Y.drew) (B := w.heap.size) (enc := eB) (y := false) (n := s.used.length) xBj (by decide) (by omega) (by show w.heap.size ≤ Y.heap.size; omega) hV10 (by simp) : ∃ g, _)
   try rw [e10]
   try (have e102 : Y.heap.size = g10 := e10; rw [e102])
   try (replace o6 := o6.below hb10)
   try (replace o14 := o14.below hb10)
   clear hV10
   refine hK.out _ _ (qzL (xAa hHeld.out hb10)) (fun hHeld2 => ?_)
   clear hK K hHeld
   have hHeld := hHeld2
   clear hHeld2
   try simp only [Act.put, qzG, qzI, qzH]
   refine xAt (rs := [6, 14]) (by kernel_rfl) (by simp) ?_
   refine AllHB.cons (by kernel_rfl) (o := ⟨some 37, _, _, _, _, _⟩) rfl (fun K hK => ?_) ?_
   ·go_simp
    have lla := hHeld.out.size
    refine xBi ?_
    intro V6 hV6
    obtain ⟨g6, e6, o6, hb6, l6⟩ := (by first | exact xAo (B := w.heap.size) (enc := eI) (y := 0) (n := s.hol.length) xAz (by decide) (by omega) (by omega) hV6 (by simp) | exact xAo (W := Y.drew) (B := w.heap.size) (enc := eI) (y := 0) (n := s.hol.length) xAz (by decide) (by omega) (by show w.heap.size ≤ Y.heap.size; omega) hV6 (by simp) : ∃ g, _)
    try rw [e6]
    try (have e62 : Y.heap.size = g6 := e6; rw [e62])
    try (replace o10 := o10.below hb6)
    try (replace o14 := o14.below hb6)
    clear hV6
    refine hK.out _ _ (qzL (xAa hHeld.out hb6)) (fun hHeld2 => ?_)
    clear hK K hHeld
    have hHeld := hHeld2
    clear hHeld2
    try simp only [Act.put, qzG, qzI, qzH]
    refine xAt (rs := [14]) (by kernel_rfl) (by simp) ?_
    refine AllHB.cons (by kernel_rfl) (o := ⟨some 45, _, _, _, _, _⟩) rfl (fun K hK => ?_) AllHB.nil
    go_simp
    have lla := hHeld.out.size
    refine xBi ?_
    intro V14 hV14
    obtain ⟨g14, e14, o14, hb14, l14⟩ := (by first | exact xAo (B := w.heap.size) (enc := eM) (y := Mk0) (n := s.marks.length) xBg (by decide) (by omega) (by omega) hV14 (by simp) | exact xAo (W := Y.drew) (B := w.heap.size) (enc := eM) (y := Mk0) (n := s.marks.length) xBg (by decide) (by omega) (by show w.heap.size ≤ Y.heap.size; omega) hV14 (by simp) : ∃ g, _)
    try rw [e14]
    try (have e142 : Y.heap.size = g14 := e14; rw [e142])
    try (replace o6 := o6.below hb14)
    try (replace o10 := o10.below hb14)
    clear hV14
    refine hK.out _ _ (qzL (xAa hHeld.out hb14)) (fun hHeld2 => ?_)
    clear hK K hHeld
    have hHeld := hHeld2
    clear hHeld2
    try simp only [Act.put, qzG, qzI, qzH]
    refine xAd (i := 15) (oi := ⟨some 46, _, _, _, _, _⟩) (v := .agg #[.int .i64 s.day, .slice (some ⟨g6, 0, none⟩) s.hol.length s.hol.length, .slice (some ⟨g10, 0, none⟩) s.used.length s.used.length, .slice (some ⟨g14, 0, none⟩) s.marks.length s.marks.length]) hdir hsel hpan rfl (by kernel_rfl) (by kernel_rfl) (by kernel_rfl) (Or.inl ⟨by rfl, fun w hw => by go_simp⟩) (by assumption) ?_
    try simp only [Act.put, qzG, qzI, qzH]
    refine xAd (i := 16) (oi := ⟨some 47, _, _, _, _, _⟩) (v := .agg #[.int .i64 c.par, .slice m.h c.hold.length m.hc, .slice m.u c.un.length m.uc, .slice m.a c.ac.length m.ac, .slice m.k c.cl.length m.kc, .int .i64 c.days, .slice m.o c.off.length m.oc, .int .i64 s.day, .slice (some ⟨g6, 0, none⟩) s.hol.length s.hol.length, .slice (some ⟨g10, 0, none⟩) s.used.length s.used.length, .slice (some ⟨g14, 0, none⟩) s.marks.length s.marks.length]) hdir hsel hpan rfl (by kernel_rfl) (by kernel_rfl) (by kernel_rfl) (Or.inl ⟨by rfl, fun w hw => by go_simp⟩) (by assumption) ?_
    try simp only [Act.put, qzG, qzI, qzH]
    refine xA6 (by kernel_rfl) (by kernel_rfl) ?_
    clear hdir hsel hpan
    simp only [xAn, qzA, qzB, qzC, qzD, qzE, qzF]
    go_wp2
    go_meet
    case rel => exact ⟨_, ⟨g6, _, g10, _, g14, _⟩, rfl, qzL (xFu HC.out (xAa hYB.out hHeld.out) nh nu o6 o10 o14 HLM.out), qzL (hHeld.out.alloc hHeld.out.size _), qzL ⟨grY.lt, hHeld.out.size, by show Y.heap.size ≤ g6; first | omega | (have ey : Y.drew.heap.size = Y.heap.size := rfl; omega), by show Y.heap.size ≤ g10; first | omega | (have ey : Y.drew.heap.size = Y.heap.size := rfl; omega), by show Y.heap.size ≤ g14; first | omega | (have ey : Y.drew.heap.size = Y.heap.size := rfl; omega)⟩⟩
   refine AllHB.cons (by kernel_rfl) (o := ⟨some 45, _, _, _, _, _⟩) rfl (fun K hK => ?_) ?_
   ·go_simp
    have lla := hHeld.out.size
    refine xBi ?_
    intro V14 hV14
    obtain ⟨g14, e14, o14, hb14, l14⟩ := (by first | exact xAo (B := w.heap.size) (enc := eM) (y := Mk0) (n := s.marks.length) xBg (by decide) (by omega) (by omega) hV14 (by simp) | exact xAo (W := Y.drew) (B := w.heap.size) (enc := eM) (y := Mk0) (n := s.marks.length) xBg (by decide) (by omega) (by show w.heap.size ≤ Y.heap.size; omega) hV14 (by simp) : ∃ g, _)
    try rw [e14]
    try (have e142 : Y.heap.size = g14 := e14; rw [e142])
    try (replace o6 := o6.below hb14)
    try (replace o10 := o10.below hb14)
    clear hV14
    refine hK.out _ _ (qzL (xAa hHeld.out hb14)) (fun hHeld2 => ?_)
    clear hK K hHeld
    have hHeld := hHeld2
    clear hHeld2
    try simp only [Act.put, qzG, qzI, qzH]
    refine xAt (rs := [6]) (by kernel_rfl) (by simp) ?_
    refine AllHB.cons (by kernel_rfl) (o := ⟨some 37, _, _, _, _, _⟩) rfl (fun K hK => ?_) AllHB.nil
    go_simp
    have lla := hHeld.out.size
    refine xBi ?_
    intro V6 hV6
    obtain ⟨g6, e6, o6, hb6, l6⟩ := (by first | exact xAo (B := w.heap.size) (enc := eI) (y := 0) (n := s.hol.length) xAz (by decide) (by omega) (by omega) hV6 (by simp) | exact xAo (W := Y.drew) (B := w.heap.size) (enc := eI) (y := 0) (n := s.hol.length) xAz (by decide) (by omega) (by show w.heap.size ≤ Y.heap.size; omega) hV6 (by simp) : ∃ g, _)
    try rw [e6]
    try (have e62 : Y.heap.size = g6 := e6; rw [e62])
    try (replace o10 := o10.below hb6)
    try (replace o14 := o14.below hb6)
    clear hV6
    refine hK.out _ _ (qzL (xAa hHeld.out hb6)) (fun hHeld2 => ?_)
    clear hK K hHeld
    have hHeld := hHeld2
    clear hHeld2
    try simp only [Act.put, qzG, qzI, qzH]
    refine xAd (i := 15) (oi := ⟨some 46, _, _, _, _, _⟩) (v := .agg #[.int .i64 s.day, .slice (some ⟨g6, 0, none⟩) s.hol.length s.hol.length, .slice (some ⟨g10, 0, none⟩) s.used.length s.used.length, .slice (some ⟨g14, 0, none⟩) s.marks.length s.marks.length]) hdir hsel hpan rfl (by kernel_rfl) (by kernel_rfl) (by kernel_rfl) (Or.inl ⟨by rfl, fun w hw => by go_simp⟩) (by assumption) ?_
    try simp only [Act.put, qzG, qzI, qzH]
    refine xAd (i := 16) (oi := ⟨some 47, _, _, _, _, _⟩) (v := .agg #[.int .i64 c.par, .slice m.h c.hold.length m.hc, .slice m.u c.un.length m.uc, .slice m.a c.ac.length m.ac, .slice m.k c.cl.length m.kc, .int .i64 c.days, .slice m.o c.off.length m.oc, .int .i64 s.day, .slice (some ⟨g6, 0, none⟩) s.hol.length s.hol.length, .slice (some ⟨g10, 0, none⟩) s.used.length s.used.length, .slice (some ⟨g14, 0, none⟩) s.marks.length s.marks.length]) hdir hsel hpan rfl (by kernel_rfl) (by kernel_rfl) (by kernel_rfl) (Or.inl ⟨by rfl, fun w hw => by go_simp⟩) (by assumption) ?_
    try simp only [Act.put, qzG, qzI, qzH]
    refine xA6 (by kernel_rfl) (by kernel_rfl) ?_
    clear hdir hsel hpan
    simp only [xAn, qzA, qzB, qzC, qzD, qzE, qzF]
    go_wp2
    go_meet
    case rel => exact ⟨_, ⟨g6, _, g10, _, g14, _⟩, rfl, qzL (xFu HC.out (xAa hYB.out hHeld.out) nh nu o6 o10 o14 HLM.out), qzL (hHeld.out.alloc hHeld.out.size _), qzL ⟨grY.lt, hHeld.out.size, by show Y.heap.size ≤ g6; first | omega | (have ey : Y.drew.heap.size = Y.heap.size := rfl; omega), by show Y.heap.size ≤ g10; first | omega | (have ey : Y.drew.heap.size = Y.heap.size := rfl; omega), by show Y.heap.size ≤ g14; first | omega | (have ey : Y.drew.heap.size = Y.heap.size := rfl; omega)⟩⟩
   exact AllHB.nil
  refine AllHB.cons (by kernel_rfl) (o := ⟨some 45, _, _, _, _, _⟩) rfl (fun K hK => ?_) ?_
  ·go_simp
   have lla := hHeld.out.size
   refine xBi ?_
   intro V14 hV14
   obtain ⟨g14, e14, o14, hb14, l14⟩ := (by first | exact xAo (B := w.heap.size) (enc := eM) (y := Mk0) (n := s.marks.length) xBg (by decide) (by omega) (by omega) hV14 (by simp) | exact xAo (W := Y.drew) (B := w.heap.size) (enc := eM) (y := Mk0) (n := s.marks.length) xBg (by decide) (by omega) (by show w.heap.size ≤ Y.heap.size; omega) hV14 (by simp) : ∃ g, _)
   try rw [e14]
   try (have e142 : Y.heap.size = g14 := e14; rw [e142])
   try (replace o6 := o6.below hb14)
   try (replace o10 := o10.below hb14)
   clear hV14
   refine hK.out _ _ (qzL (xAa hHeld.out hb14)) (fun hHeld2 => ?_)
   clear hK K hHeld
   have hHeld := hHeld2
   clear hHeld2
   try simp only [Act.put, qzG, qzI, qzH]
   refine xAt (rs := [6, 10]) (by kernel_rfl) (by simp) ?_
   refine AllHB.cons (by kernel_rfl) (o := ⟨some 37, _, _, _, _, _⟩) rfl (fun K hK => ?_) ?_
   ·go_simp
    have lla := hHeld.out.size
    refine xBi ?_
    intro V6 hV6
    obtain ⟨g6, e6, o6, hb6, l6⟩ := (by first | exact xAo (B := w.heap.size) (enc := eI) (y := 0) (n := s.hol.length) xAz (by decide) (by omega) (by omega) hV6 (by simp) | exact xAo (W := Y.drew) (B := w.heap.size) (enc := eI) (y := 0) (n := s.hol.length) xAz (by decide) (by omega) (by show w.heap.size ≤ Y.heap.size; omega) hV6 (by simp) : ∃ g, _)
    try rw [e6]
    try (have e62 : Y.heap.size = g6 := e6; rw [e62])
    try (replace o10 := o10.below hb6)
    try (replace o14 := o14.below hb6)
    clear hV6
    refine hK.out _ _ (qzL (xAa hHeld.out hb6)) (fun hHeld2 => ?_)
    clear hK K hHeld
    have hHeld := hHeld2
    clear hHeld2
    try simp only [Act.put, qzG, qzI, qzH]
    refine xAt (rs := [10]) (by kernel_rfl) (by simp) ?_
    refine AllHB.cons (by kernel_rfl) (o := ⟨some 41, _, _, _, _, _⟩) rfl (fun K hK => ?_) AllHB.nil
    go_simp
    have lla := hHeld.out.size
    refine xBi ?_
    intro V10 hV10
    obtain ⟨g10, e10, o10, hb10, l10⟩ := (by first | exact xAo (B := w.heap.size) (enc := eB) (y := false) (n := s.used.length) xBj (by decide) (by omega) (by omega) hV10 (by simp) | exact xAo (W := Y.drew) (B := w.heap.size) (enc := eB) (y := false) (n := s.used.length) xBj (by decide) (by omega) (by show w.heap.size ≤ Y.heap.size; omega) hV10 (by simp) : ∃ g, _)
    try rw [e10]
    try (have e102 : Y.heap.size = g10 := e10; rw [e102])
    try (replace o6 := o6.below hb10)
    try (replace o14 := o14.below hb10)
    clear hV10
    refine hK.out _ _ (qzL (xAa hHeld.out hb10)) (fun hHeld2 => ?_)
    clear hK K hHeld
    have hHeld := hHeld2
    clear hHeld2
    try simp only [Act.put, qzG, qzI, qzH]
    refine xAd (i := 15) (oi := ⟨some 46, _, _, _, _, _⟩) (v := .agg #[.int .i64 s.day, .slice (some ⟨g6, 0, none⟩) s.hol.length s.hol.length, .slice (some ⟨g10, 0, none⟩) s.used.length s.used.length, .slice (some ⟨g14, 0, none⟩) s.marks.length s.marks.length]) hdir hsel hpan rfl (by kernel_rfl) (by kernel_rfl) (by kernel_rfl) (Or.inl ⟨by rfl, fun w hw => by go_simp⟩) (by assumption) ?_
    try simp only [Act.put, qzG, qzI, qzH]
    refine xAd (i := 16) (oi := ⟨some 47, _, _, _, _, _⟩) (v := .agg #[.int .i64 c.par, .slice m.h c.hold.length m.hc, .slice m.u c.un.length m.uc, .slice m.a c.ac.length m.ac, .slice m.k c.cl.length m.kc, .int .i64 c.days, .slice m.o c.off.length m.oc, .int .i64 s.day, .slice (some ⟨g6, 0, none⟩) s.hol.length s.hol.length, .slice (some ⟨g10, 0, none⟩) s.used.length s.used.length, .slice (some ⟨g14, 0, none⟩) s.marks.length s.marks.length]) hdir hsel hpan rfl (by kernel_rfl) (by kernel_rfl) (by kernel_rfl) (Or.inl ⟨by rfl, fun w hw => by go_simp⟩) (by assumption) ?_
    try simp only [Act.put, qzG, qzI, qzH]
    refine xA6 (by kernel_rfl) (by kernel_rfl) ?_
    clear hdir hsel hpan
    simp only [xAn, qzA, qzB, qzC, qzD, qzE, qzF]
    go_wp2
    go_meet
    case rel => exact ⟨_, ⟨g6, _, g10, _, g14, _⟩, rfl, qzL (xFu HC.out (xAa hYB.out hHeld.out) nh nu o6 o10 o14 HLM.out), qzL (hHeld.out.alloc hHeld.out.size _), qzL ⟨grY.lt, hHeld.out.size, by show Y.heap.size ≤ g6; first | omega | (have ey : Y.drew.heap.size = Y.heap.size := rfl; omega), by show Y.heap.size ≤ g10; first | omega | (have ey : Y.drew.heap.size = Y.heap.size := rfl; omega), by show Y.heap.size ≤ g14; first | omega | (have ey : Y.drew.heap.size = Y.heap.size := rfl; omega)⟩⟩
   refine AllHB.cons (by kernel_rfl) (o := ⟨some 41, _, _, _, _, _⟩) rfl (fun K hK => ?_) ?_
   ·go_simp
    have lla := hHeld.out.size
    refine xBi ?_
    intro V10 hV10
    obtain ⟨g10, e10, o10, hb10, l10⟩ := (by first | exact xAo (B := w.heap.size) (enc := eB) (y := false) (n := s.used.length) xBj (by decide) (by omega) (by omega) hV10 (by simp) | exact xAo (W := Y.drew) (B := w.heap.size) (enc := eB) (y := false) (n := s.used.length) xBj (by decide) (by omega) (by show w.heap.size ≤ Y.heap.size; omega) hV10 (by simp) : ∃ g, _)
    try rw [e10]
    try (have e102 : Y.heap.size = g10 := e10; rw [e102])
    try (replace o6 := o6.below hb10)
    try (replace o14 := o14.below hb10)
    clear hV10
    refine hK.out _ _ (qzL (xAa hHeld.out hb10)) (fun hHeld2 => ?_)
    clear hK K hHeld
    have hHeld := hHeld2
    clear hHeld2
    try simp only [Act.put, qzG, qzI, qzH]
    refine xAt (rs := [6]) (by kernel_rfl) (by simp) ?_
    refine AllHB.cons (by kernel_rfl) (o := ⟨some 37, _, _, _, _, _⟩) rfl (fun K hK => ?_) AllHB.nil
    go_simp
    have lla := hHeld.out.size
    refine xBi ?_
    intro V6 hV6
    obtain ⟨g6, e6, o6, hb6, l6⟩ := (by first | exact xAo (B := w.heap.size) (enc := eI) (y := 0) (n := s.hol.length) xAz (by decide) (by omega) (by omega) hV6 (by simp) | exact xAo (W := Y.drew) (B := w.heap.size) (enc := eI) (y := 0) (n := s.hol.length) xAz (by decide) (by omega) (by show w.heap.size ≤ Y.heap.size; omega) hV6 (by simp) : ∃ g, _)
    try rw [e6]
    try (have e62 : Y.heap.size = g6 := e6; rw [e62])
    try (replace o10 := o10.below hb6)
    try (replace o14 := o14.below hb6)
    clear hV6
    refine hK.out _ _ (qzL (xAa hHeld.out hb6)) (fun hHeld2 => ?_)
    clear hK K hHeld
    have hHeld := hHeld2
    clear hHeld2
    try simp only [Act.put, qzG, qzI, qzH]
    refine xAd (i := 15) (oi := ⟨some 46, _, _, _, _, _⟩) (v := .agg #[.int .i64 s.day, .slice (some ⟨g6, 0, none⟩) s.hol.length s.hol.length, .slice (some ⟨g10, 0, none⟩) s.used.length s.used.length, .slice (some ⟨g14, 0, none⟩) s.marks.length s.marks.length]) hdir hsel hpan rfl (by kernel_rfl) (by kernel_rfl) (by kernel_rfl) (Or.inl ⟨by rfl, fun w hw => by go_simp⟩) (by assumption) ?_
    try simp only [Act.put, qzG, qzI, qzH]
    refine xAd (i := 16) (oi := ⟨some 47, _, _, _, _, _⟩) (v := .agg #[.int .i64 c.par, .slice m.h c.hold.length m.hc, .slice m.u c.un.length m.uc, .slice m.a c.ac.length m.ac, .slice m.k c.cl.length m.kc, .int .i64 c.days, .slice m.o c.off.length m.oc, .int .i64 s.day, .slice (some ⟨g6, 0, none⟩) s.hol.length s.hol.length, .slice (some ⟨g10, 0, none⟩) s.used.length s.used.length, .slice (some ⟨g14, 0, none⟩) s.marks.length s.marks.length]) hdir hsel hpan rfl (by kernel_rfl) (by kernel_rfl) (by kernel_rfl) (Or.inl ⟨by rfl, fun w hw => by go_simp⟩) (by assumption) ?_
    try simp only [Act.put, qzG, qzI, qzH]
    refine xA6 (by kernel_rfl) (by kernel_rfl) ?_
    clear hdir hsel hpan
    simp only [xAn, qzA, qzB, qzC, qzD, qzE, qzF]
    go_wp2
    go_meet
    case rel => exact ⟨_, ⟨g6, _, g10, _, g14, _⟩, rfl, qzL (xFu HC.out (xAa hYB.out hHeld.out) nh nu o6 o10 o14 HLM.out), qzL (hHeld.out.alloc hHeld.out.size _), qzL ⟨grY.lt, hHeld.out.size, by show Y.heap.size ≤ g6; first | omega | (have ey : Y.drew.heap.size = Y.heap.size := rfl; omega), by show Y.heap.size ≤ g10; first | omega | (have ey : Y.drew.heap.size = Y.heap.size := rfl; omega), by show Y.heap.size ≤ g14; first | omega | (have ey : Y.drew.heap.size = Y.heap.size := rfl; omega)⟩⟩
   exact AllHB.nil
  exact AllHB.nil
 obtain ⟨b', n, rfl, hW, hYU, hYN⟩ := hcut
 obtain ⟨U, rfl⟩ : ∃ U, U = wc := ⟨_, rfl⟩
 have e1 : s.sz.hol.length = s.hol.length := List.length_replicate
 have e2 : s.sz.used.length = s.used.length := List.length_replicate
 have e3 : s.sz.marks.length = s.marks.length := List.length_replicate
 have H1 := qzL e1
 have H2 := qzL e2
 have H3 := qzL e3
 have hne : Hid (br < Y.heap.size ∧ Y.heap.size ≤ b' ∧ Y.heap.size ≤ n.h ∧ Y.heap.size ≤ n.u ∧ Y.heap.size ≤ n.m) := hYN
 have gsU := gsY.then_ hYU.out
 have grU := grY.then_ hYU.out
 clear e1 e2 e3 gsY grY gaY hYN hm1 hm2 hm3 hi1 hi2 hi3 hz10 hz11 hz12 hz20 hz21 hz22 hz30 hz31 hz32
 have k8 : U.cell? ⟨b', 8, none⟩ = some (.slice (some ⟨n.h, 0, none⟩) s.hol.length n.hc) := by rw [← H1.out]; exact hW.out.g.cell 8
 have s1 : U.cell? ⟨bs, 1, none⟩ = some (.slice q.h s.hol.length q.hc) := gsU.cell 1
 go_upto_region 6 with (fail)
 have rg0 := cR k8
 have rg1 := cR s1
 refine xAg [0, 1, 2, 3, 4, 5, 6] [7] (by kernel_rfl) (by kernel_rfl) pO ?_
 simp only [xAn, qzA, qzB, qzC, qzD, qzE, qzF]
 repeat (go_big_quiet_step (skip))
 refine wpQuiet_nil ?_
 intro U1 hw2
 have hbU1 := xAj hw2
 clear hw2 rg0 rg1
 have hW1 := qzL (hW.out.then_ hbU1)
 have hS1 := qzL ((HS.out.then_ (xAa (xAa hYB.out hYU.out) hbU1)).h)
 have gsU1 := gsU.then_ hbU1
 have grU1 := grU.then_ hbU1
 clear k8 s1 gsU grU hbU1 hW
 go_upto_region 7 with ((refine xCb rfl (.tmp 53) (.tmp 55) _ _ rfl 3 Tryz.underlying22 1 (by kernel_rfl) (by decide) eI xAz xCx n.h s.hol.length n.hc q.hc q.h s.hol s.sz.hol rfl H1.out rfl rfl w.heap.size 3 (by rw [← H1.out]; exact hW1.out.oh) _ hS1.out ?_; intro U2 hO2 u2; simp only [Act.put, qzG, qzH, qzI]))
 have hW2 : Hid (Wk w U2 b' c m { s.sz with hol := s.hol } n) := hW1.out.newH H1.out.symm u2 (by rw [H1.out]; exact hO2)
 have gsU2 := gsU1.upd u2 (by have := hne.out; have := hls.out; omega)
 have grU2 := grU1.upd u2 (by have := hne.out; omega)
 have hS2 : Hid (Stm U2 s q) := HS.out.then_ (hW2.out.hb)
 clear hO2 u2 hW1 hS1 gsU1 grU1
 have k9 : U2.cell? ⟨b', 9, none⟩ = some (.slice (some ⟨n.u, 0, none⟩) s.used.length n.uc) := by rw [← H2.out]; exact hW2.out.g.cell 9
 have s2 : U2.cell? ⟨bs, 2, none⟩ = some (.slice q.u s.used.length q.uc) := gsU2.cell 2
 have rg0 := cR k9
 have rg1 := cR s2
 refine xAg [0, 1, 2, 3, 4, 5, 6] [7] (by kernel_rfl) (by kernel_rfl) pO ?_
 simp only [xAn, qzA, qzB, qzC, qzD, qzE, qzF]
 repeat (go_big_quiet_step (skip))
 refine wpQuiet_nil ?_
 intro U3 hw2
 have hbU3 := xAj hw2
 clear hw2 rg0 rg1
 have hW3 := qzL (hW2.out.then_ hbU3)
 have hS3 := qzL ((hS2.out.then_ hbU3).u)
 have gsU3 := gsU2.then_ hbU3
 have grU3 := grU2.then_ hbU3
 clear k9 s2 gsU2 grU2 hbU3 hW2 hS2
 go_upto_region 8 with ((refine xCb rfl (.tmp 61) (.tmp 63) _ _ rfl 4 Tryz.underlying44 1 (by kernel_rfl) (by decide) eB xBj one_bool n.u s.used.length n.uc q.uc q.u s.used s.sz.used rfl H2.out rfl rfl w.heap.size 4 (by rw [← H2.out]; exact hW3.out.ou) _ hS3.out ?_; intro U4 hO4 u4; simp only [Act.put, qzG, qzH, qzI]))
 have hW4 : Hid (Wk w U4 b' c m { s.sz with hol := s.hol, used := s.used } n) := hW3.out.newU H2.out.symm u4 (by show Own U4 w.heap.size 4 1 eB (.slice (some ⟨n.u, 0, none⟩) s.sz.used.length n.uc) s.used; rw [H2.out]; exact hO4)
 have gsU4 := gsU3.upd u4 (by have := hne.out; have := hls.out; omega)
 have grU4 := grU3.upd u4 (by have := hne.out; omega)
 have hS4 : Hid (Stm U4 s q) := HS.out.then_ (hW4.out.hb)
 clear hO4 u4 hW3 hS3 gsU3 grU3
 have k10 : U4.cell? ⟨b', 10, none⟩ = some (.slice (some ⟨n.m, 0, none⟩) s.marks.length n.mc) := by rw [← H3.out]; exact hW4.out.g.cell 10
 have s3 : U4.cell? ⟨bs, 3, none⟩ = some (.slice q.m s.marks.length q.mc) := gsU4.cell 3
 have rg0 := cR k10
 have rg1 := cR s3
 refine xAg [0, 1, 2, 3, 4, 5, 6] [7] (by kernel_rfl) (by kernel_rfl) pO ?_
 simp only [xAn, qzA, qzB, qzC, qzD, qzE, qzF]
 repeat (go_big_quiet_step (skip))
 refine wpQuiet_nil ?_
 intro U5 hw2
 have hbU5 := xAj hw2
 clear hw2 rg0 rg1
 have hW5 := qzL (hW4.out.then_ hbU5)
 have hS5 := qzL ((hS4.out.then_ hbU5).m)
 have grU5 := grU4.then_ hbU5
 clear k10 s3 gsU4 grU4 hbU5 hW4 hS4
 go_upto_region 9 with ((refine xCb rfl (.tmp 69) (.tmp 71) _ _ rfl 61 Tryz.underlying45 5 (by kernel_rfl) (by decide) eM xBg one_mark n.m s.marks.length n.mc q.mc q.m s.marks s.sz.marks rfl H3.out rfl rfl w.heap.size 61 (by rw [← H3.out]; exact hW5.out.om) _ hS5.out ?_; intro U6 hO6 u6; simp only [Act.put, qzG, qzH, qzI]))
 have hW6 : Hid (Wk w U6 b' c m s n) := hW5.out.newM (l := s.marks) H3.out.symm u6 (by show Own U6 w.heap.size 61 5 eM (.slice (some ⟨n.m, 0, none⟩) s.sz.marks.length n.mc) s.marks; rw [H3.out]; exact hO6)
 have grU6 := grU5.upd u6 (by have := hne.out; omega)
 clear hO6 u6 hW5 hS5 grU5
 have fin : ∀ (V : World) (p : Nat → Prop), (∀ x, p x → x = b' ∨ pS n x) → Wk w V b' c m (s.step c x) n → Kept U6 V p → Blk V br 47 zS := fun V p hp hV hk => grU6.kept hk (fun h => by have := hne.out; rcases hp _ h with e | e | e | e <;> omega)
 have FIN := qzL fin
 clear fin
 cases hx : (x == -1) with
 | true =>
  have hxe : x = -1 := eq_of_beq hx
  have hst : Hid (s.step c x = s.tick c) := by unfold Hid Sta.step; rw [if_pos hxe]
  have HT := qzL (tick_any w b' c m s n U6 hW6.out HSO.out.vc HSO.out.h HSO.out.day_bd HSO.out.marks_bd.1)
  clear hxe
  go_upto_region 12 with (go_at_call 48; (with_reducible refine HT.out.mono ?_); rintro e w7 ⟨rfl, h1, h2⟩)
  have hW7 : Hid (Wk w w7 b' c m (s.step c x) n) := by unfold Hid; rw [hst.out]; exact h1
  have gr7 := FIN.out w7 _ (fun x h => by rcases h with h | h; exact .inl h; exact .inr (.inr (.inr h))) hW7.out h2
  clear h1 h2 HT FIN hW6 grU6
  obtain ⟨T, hT⟩ : ∃ T, s.step c x = T := ⟨_, rfl⟩
  rw [hT] at hW7
  have HTT := qzL hT
  clear hT
  have k7 : w7.cell? ⟨b', 7, none⟩ = some (.int .i64 T.day) := hW7.out.g.cell 7
  have k8 : w7.cell? ⟨b', 8, none⟩ = some (.slice (some ⟨n.h, 0, none⟩) T.hol.length n.hc) := hW7.out.g.cell 8
  have k9 : w7.cell? ⟨b', 9, none⟩ = some (.slice (some ⟨n.u, 0, none⟩) T.used.length n.uc) := hW7.out.g.cell 9
  have k10 : w7.cell? ⟨b', 10, none⟩ = some (.slice (some ⟨n.m, 0, none⟩) T.marks.length n.mc) := hW7.out.g.cell 10
  go_wp2_with ((refine xAh rfl 47 _ _ rfl br 47 [] zS.toList [] [.int .i64 T.day, .slice (some ⟨n.h, 0, none⟩) T.hol.length n.hc, .slice (some ⟨n.u, 0, none⟩) T.used.length n.uc, .slice (some ⟨n.m, 0, none⟩) T.marks.length n.mc] rfl rfl gr7 rfl (by kernel_rfl) (by simp [Value.oneCell']) ?_; intro we ge ue))
  refine bodyPost_ret (xBp rfl rfl ge ⟨_, Tryz.underlying47⟩ (by kernel_rfl)) rfl ?_
  rw [hE0.out, hF0.out, HTT.out]
  exact (hW7.out.updG ue (by have := hne.out; omega) lbr.out).ret
 | false =>
  have hxe : x ≠ -1 := by intro e; rw [e] at hx; simp at hx
  obtain ⟨k, hk⟩ : ∃ k : Nat, x = (k : Int) := ⟨x.toNat, by have := HXR.out; omega⟩
  have hst : Hid (s.step c x = s.act c k) := by unfold Hid Sta.step; rw [if_neg hxe, hk, Int.toNat_natCast]
  obtain ⟨a, ha⟩ : ∃ a, c.ac[k]? = some a := ⟨_, qzJ (by have := HXR.out; omega)⟩
  have HT := qzL (wact_any w b' c m s n k a U6 hW6.out HSO.out.vc HSO.out.h HSO.out.u ha HSO.out.marks_bd.2)
  rw [← hk] at HT
  clear hxe hk ha
  go_upto_region 12 with (go_at_call 49; (with_reducible refine HT.out.mono ?_); rintro e w7 ⟨rfl, h1, h2⟩)
  have hW7 : Hid (Wk w w7 b' c m (s.step c x) n) := by unfold Hid; rw [hst.out]; exact h1
  have gr7 := FIN.out w7 _ (fun x h => .inr h) hW7.out h2
  clear h1 h2 HT FIN hW6 grU6
  obtain ⟨T, hT⟩ : ∃ T, s.step c x = T := ⟨_, rfl⟩
  rw [hT] at hW7
  have HTT := qzL hT
  clear hT
  have k7 : w7.cell? ⟨b', 7, none⟩ = some (.int .i64 T.day) := hW7.out.g.cell 7
  have k8 : w7.cell? ⟨b', 8, none⟩ = some (.slice (some ⟨n.h, 0, none⟩) T.hol.length n.hc) := hW7.out.g.cell 8
  have k9 : w7.cell? ⟨b', 9, none⟩ = some (.slice (some ⟨n.u, 0, none⟩) T.used.length n.uc) := hW7.out.g.cell 9
  have k10 : w7.cell? ⟨b', 10, none⟩ = some (.slice (some ⟨n.m, 0, none⟩) T.marks.length n.mc) := hW7.out.g.cell 10
  go_wp2_with ((refine xAh rfl 47 _ _ rfl br 47 [] zS.toList [] [.int .i64 T.day, .slice (some ⟨n.h, 0, none⟩) T.hol.length n.hc, .slice (some ⟨n.u, 0, none⟩) T.used.length n.uc, .slice (some ⟨n.m, 0, none⟩) T.marks.length n.mc] rfl rfl gr7 rfl (by kernel_rfl) (by simp [Value.oneCell']) ?_; intro we ge ue))
  refine bodyPost_ret (xBp rfl rfl ge ⟨_, Tryz.underlying47⟩ (by kernel_rfl)) rfl ?_
  rw [hE0.out, hF0.out, HTT.out]
  exact (hW7.out.updG ue (by have := hne.out; omega) lbr.out).ret
end Go.Proofs.YtffceokjeonpcaaGreatDoor
