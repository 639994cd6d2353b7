/- Contracts of functions and plain laws, joined: Krj, Tr1, Tr2, Apn, Tr4, Ty2, Ty3, Tq2, Tq3, Tq4. -/
import Derived.Test.YtffceokjeonpcaaGreatDoorMb10
import Derived.Test.YtffceokjeonpcaaGreatDoorMb12
import Derived.Test.YtffceokjeonpcaaGreatDoorMb5
import Derived.Test.YtffceokjeonpcaaGreatDoorMb2
import Derived.Test.YtffceokjeonpcaaGreatDoorMb9
import Derived.Test.YtffceokjeonpcaaGreatDoorMb11
import Derived.Test.YtffceokjeonpcaaGreatDoorMb13
import Derived.Test.YtffceokjeonpcaaGreatDoorMb6
import Derived.Maps.AppendAt
import Derived.Test.YtffceokjeonpcaaGreatDoorMb1
set_option maxHeartbeats 25600000
set_option maxRecDepth 100000
namespace Go.Proofs.YtffceokjeonpcaaGreatDoor
open Go.RowKit
def Con.small (c : Con) (n : Int) : Bool := !(decide ((20 : Int) < (c.hold.length : Int)) || decide ((30 : Int) < (c.un.length : Int)) || decide ((70 : Int) < (c.ac.length : Int)) || decide ((n : Int) < (c.cl.length : Int)) || decide ((100 : Int) < (c.off.length : Int))) && c.cl.all fun k => !decide ((20 : Int) < (k.start.length : Int))
theorem xIr (c : Con) (m : Cm) (n : Int) (w : World) (hk : Seg w w.heap.size 16 eK m.k m.ks) (he : m.ks.map (·.k) = c.cl) (hn : n ≤ 1000000) : Calls Tryz.prog 20 #[.agg (coA c m), .int .i64 n] w fun e w' => e = .returned (.bool (c.small n)) ∧ Below w.heap.size w w' := by
 have HK := qzL hk
 have HE := qzL he
 obtain ⟨e0, E0⟩ : ∃ x, decide ((20 : Int) < (c.hold.length : Int)) = x := ⟨_, rfl⟩
 obtain ⟨e1, E1⟩ : ∃ x, decide ((30 : Int) < (c.un.length : Int)) = x := ⟨_, rfl⟩
 obtain ⟨e2, E2⟩ : ∃ x, decide ((70 : Int) < (c.ac.length : Int)) = x := ⟨_, rfl⟩
 obtain ⟨e3, E3⟩ : ∃ x, decide ((n : Int) < (c.cl.length : Int)) = x := ⟨_, rfl⟩
 obtain ⟨e4, E4⟩ : ∃ x, decide ((100 : Int) < (c.off.length : Int)) = x := ⟨_, rfl⟩
 have hf : Hid (c.small n = (!(e0 || e1 || e2 || e3 || e4) && c.cl.all fun k => !decide ((20 : Int) < (k.start.length : Int)))) := by unfold Hid Con.small; rw [E0, E1, E2, E3, E4]
 have h3 : Hid ((e0 || e1 || e2 || e3 || e4) = false → c.cl.length ≤ 1000000) := by
  intro h
  simp only [Bool.or_eq_false_iff] at h
  have h2 := h.1.2
  rw [← E3] at h2
  simp at h2
  omega
 have hkl : m.ks.length = c.cl.length := by have := congrArg List.length he; simpa using this
 have HKL := qzL hkl
 clear hk he hkl
 go_enter Tryz.func20, Tryz.ntmps20
 go_upto_region 1 with (fail)
 refine xAi ?_
 intro X hX
 have gbc : Blk X w.heap.size 27 (coA c m) := by rw [hX]; exact xA0 (by simp)
 have HB : Below w.heap.size w X := by rw [hX]; (repeat (first | exact Below.refl _ _ | refine xAc ?_ _))
 clear hX
 obtain ⟨bc, ebc⟩ : ∃ b, w.heap.size = b := ⟨_, rfl⟩
 have lbc : w.heap.size ≤ bc := by omega
 rw [ebc] at gbc ⊢
 clear ebc
 have GB := qzL gbc
 have HBX := qzL HB
 clear HB
 go_upto_region 1 with (fail)
 go_cut [34] from 6 to 34 (fun v W => v = .bool (e0 || e1 || e2 || e3 || e4) ∧ X = W)
 case first =>
  have p1 : X.cell? ⟨bc, 1, none⟩ = some (.slice m.h c.hold.length m.hc) := gbc.cell 1
  have p2 : X.cell? ⟨bc, 2, none⟩ = some (.slice m.u c.un.length m.uc) := gbc.cell 2
  have p3 : X.cell? ⟨bc, 3, none⟩ = some (.slice m.a c.ac.length m.ac) := gbc.cell 3
  have p4 : X.cell? ⟨bc, 4, none⟩ = some (.slice m.k c.cl.length m.kc) := gbc.cell 4
  have p6 : X.cell? ⟨bc, 6, none⟩ = some (.slice m.o c.off.length m.oc) := gbc.cell 6
  clear gbc hn
  cases e0
  case true => (go_wp2; go_meet; (case rel => exact ⟨by simp, rfl⟩))
  cases e1
  case true => (go_wp2; go_meet; (case rel => exact ⟨by simp, rfl⟩))
  cases e2
  case true => (go_wp2; go_meet; (case rel => exact ⟨by simp, rfl⟩))
  cases e3
  case true => (go_wp2; go_meet; (case rel => exact ⟨by simp, rfl⟩))
  cases e4
  case true => (go_wp2; go_meet; (case rel => exact ⟨by simp, rfl⟩))
  case false => (go_wp2; go_meet; (case rel => exact ⟨by simp, rfl⟩))
 obtain ⟨rfl, rfl⟩ := hcut
 cases hb0 : (e0 || e1 || e2 || e3 || e4) with
 | true =>
  have hr : Hid (c.small n = false) := by unfold Hid; rw [hf.out, hb0]; rfl
  clear hb0 hf h3 gbc E0 E1 E2 E3 E4
  go_wp2
  go_ret
  exact ⟨xAb hr.out.symm, HBX.out⟩
 | false =>
 have hl := h3.out hb0
 have hr : Hid (c.small n = c.cl.all fun k => !decide ((20 : Int) < (k.start.length : Int))) := by unfold Hid; rw [hf.out, hb0]; rfl
 clear hb0 hf h3 gbc E0 E1 E2 E3 E4
 go_upto_region 4 with (fail)
 go_loopw [5] (fun y WR => ∃ (i : Nat), i ≤ c.cl.length ∧ y = .int .i64 i ∧ Hid (∀ j k, j < i → c.cl[j]? = some k → decide ((20 : Int) < (k.start.length : Int)) = false) ∧ Hid (Below X.heap.size X WR)) (fun y _ => 2000000 - (intOf y).toNat)
 case atStart => exact ⟨0, by omega, rfl, (fun j k hj => by omega), Below.refl _ _⟩
 case round =>
  obtain ⟨i, hi', rfl, hpre, hB⟩ := hrel
  have p4 : wr.cell? ⟨bc, 4, none⟩ = some (.slice m.k c.cl.length m.kc) := (GB.out.then_ hB.out).cell 4
  by_cases hlt : i < c.cl.length
  ·have tn : decide ((i : Int) < (c.cl.length : Int)) = true := qzO (by omega)
   obtain ⟨k0, hk0⟩ : ∃ k, c.cl[i]? = some k := ⟨_, qzJ hlt⟩
   obtain ⟨x, hx, hxk⟩ := xC3 HE.out hk0
   obtain ⟨b0, o0, eA0, hb0, hc0⟩ := xAv (HK.out.below (xAa HBX.out hB.out)) hx
   have x4 : wr.cell? ⟨b0, o0 + i * 16 + 4, none⟩ = some (.slice x.A x.k.start.length x.cap) := hc0 4 _ rfl
   have hix := fun W => xAp (t := 25) (size := 16) (cap := m.kc) (len := c.cl.length) eA0 hlt (by kernel_rfl) (fun W => by kernel_rfl) W
   have HX0 := qzL hk0
   have HXK := qzL hxk
   clear hc0 hx hk0 hxk eA0
   have hwr := wrap_small (n := i) (by omega)
   cases ht : decide ((20 : Int) < (x.k.start.length : Int)) with
   | true =>
    have hq : Hid (c.small n = false) := by
     unfold Hid
     rw [hr.out]
     refine Bool.eq_false_iff.2 fun h => ?_
     have := List.all_eq_true.1 h k0 (qzK HX0.out)
     rw [← HXK.out, ht] at this
     cases this
    clear hpre
    go_wp2
    go_ret
    exact ⟨xAb hq.out.symm, xAa HBX.out hB.out⟩
   | false =>
    have hp2 : Hid (∀ j k, j < i + 1 → c.cl[j]? = some k → decide ((20 : Int) < (k.start.length : Int)) = false) := by
     intro j k hj hk
     by_cases q : j = i
     ·rw [q, HX0.out] at hk
      cases hk
      rw [← HXK.out]
      exact ht
     ·exact hpre.out j k (by omega) hk
    clear hpre
    go_wp2
    go_roundw
    case rel => exact ⟨i + 1, by omega, by simp, hp2, hB.out⟩
    case measure => simp [intOf]; omega
  ·have tn : decide ((i : Int) < (c.cl.length : Int)) = false := qzN (by omega)
   have hq : Hid (c.small n = true) := by
    unfold Hid
    rw [hr.out]
    refine List.all_eq_true.2 fun k hk => ?_
    obtain ⟨j, hj, e⟩ := List.getElem_of_mem hk
    rw [hpre.out j k (by omega) (by rw [← e]; exact qzJ hj)]
    rfl
   clear hpre
   go_wp2
   go_ret
   exact ⟨xAb hq.out.symm, xAa HBX.out hB.out⟩
def xC2 (st : Int) : Int := if st = 3 ∨ st = 5 then 1 else if st = 4 then 3 else 2
theorem means_any (st : Int) (w : World) : Calls Tryz.prog 18 #[.int .i64 st] w fun e w' => e = .returned (.int .i64 (xC2 st)) ∧ w' = w := by
 obtain ⟨R, hR⟩ : ∃ r, xC2 st = r := ⟨_, rfl⟩
 rw [hR]
 have HR := qzL hR.symm
 clear hR
 go_enter Tryz.func18, Tryz.ntmps18
 cases t1 : (st == 3) with
 | true =>
  have hf : Hid (R = 1) := by unfold Hid; rw [HR.out]; unfold xC2; rw [if_pos (.inl (by simpa using t1))]
  clear HR
  go_wp2
  go_ret
  exact ⟨xCc hf.out.symm, rfl⟩
 | false =>
 cases t2 : (st == 5) with
 | true =>
  have hf : Hid (R = 1) := by unfold Hid; rw [HR.out]; unfold xC2; rw [if_pos (.inr (by simpa using t2))]
  clear HR
  go_wp2
  go_ret
  exact ⟨xCc hf.out.symm, rfl⟩
 | false =>
 have h12 : ¬ (st = 3 ∨ st = 5) := by simp at t1 t2; omega
 cases t3 : (st == 4) with
 | true =>
  have hf : Hid (R = 3) := by unfold Hid; rw [HR.out]; unfold xC2; rw [if_neg h12, if_pos (by simpa using t3)]
  clear HR h12
  go_wp2
  go_ret
  exact ⟨xCc hf.out.symm, rfl⟩
 | false =>
  have hf : Hid (R = 2) := by unfold Hid; rw [HR.out]; unfold xC2; rw [if_neg h12, if_neg (by simpa using t3)]
  clear HR h12
  go_wp2
  go_ret
  exact ⟨xCc hf.out.symm, rfl⟩
theorem xI0 (st : Int) (w : World) : Calls Tryz.prog 41 #[.int .i64 st] w fun e w' => e = .returned (.int .i64 (xEm st)) ∧ w' = w := by
 obtain ⟨R, hR⟩ : ∃ r, xEm st = r := ⟨_, rfl⟩
 rw [hR]
 have HR := qzL hR.symm
 clear hR
 go_enter Tryz.func41, Tryz.ntmps41
 by_cases h : st = 0 ∨ st = 1 ∨ st = 2 ∨ st = 3 ∨ st = 4 ∨ st = 5
 ·rcases h with rfl | rfl | rfl | rfl | rfl | rfl <;> (have hf : Hid (R = xEm _) := HR.out) <;> (go_wp2; go_ret; exact ⟨xCc (by rw [hf.out]; rfl), rfl⟩)
 ·have hf : Hid (R = 0) := by unfold Hid; rw [HR.out]; unfold xEm; rw [if_neg (by omega), if_neg (by omega), if_neg (by omega)]
  have t0 : (st == 0) = false := beq_eq_false_iff_ne.2 (by omega)
  have t1 : (st == 1) = false := beq_eq_false_iff_ne.2 (by omega)
  have t2 : (st == 2) = false := beq_eq_false_iff_ne.2 (by omega)
  have t3 : (st == 3) = false := beq_eq_false_iff_ne.2 (by omega)
  have t4 : (st == 4) = false := beq_eq_false_iff_ne.2 (by omega)
  have t5 : (st == 5) = false := beq_eq_false_iff_ne.2 (by omega)
  clear HR h
  go_wp2
  go_ret
  exact ⟨xCc hf.out.symm, rfl⟩
def Con.tame (c : Con) : Bool := c.small 6 && decide ((c.ac.length : Int) ≤ 8) && decide (c.days ≤ 20)
theorem tame_any (c : Con) (m : Cm) (w : World) (hk : Seg w w.heap.size 16 eK m.k m.ks) (he : m.ks.map (·.k) = c.cl) : Calls Tryz.prog 6 #[.agg (coA c m)] w fun e w' => e = .returned (.bool c.tame) ∧ Below w.heap.size w w' := by
 obtain ⟨R, hR⟩ : ∃ r, c.tame = r := ⟨_, rfl⟩
 rw [hR]
 obtain ⟨sm, hsm⟩ : ∃ r, c.small 6 = r := ⟨_, rfl⟩
 have HR : Hid (R = (sm && decide ((c.ac.length : Int) ≤ 8) && decide (c.days ≤ 20))) := by unfold Hid; rw [← hR, ← hsm]; rfl
 have HS : Hid (∀ W, Below w.heap.size w W → Calls Tryz.prog 20 #[.agg (coA c m), .int .i64 6] W fun e w' => e = .returned (.bool sm) ∧ Below W.heap.size W w') := fun W hb => by
  rw [← hsm]; exact xIr c m 6 W ((hk.below hb).more hb.size) he (by decide)
 clear hR hsm hk he
 go_enter Tryz.func6, Tryz.ntmps6
 go_upto_region 1 with (fail)
 refine xAi ?_
 intro X hX
 have ga : Blk X w.heap.size 27 (coA c m) := by rw [hX]; exact Blk.new _ _ _
 have HB : Hid (Below w.heap.size w X) := by unfold Hid; rw [hX]; (repeat first | exact Below.refl _ _ | refine xAc ?_ _)
 obtain ⟨ba, eba⟩ : ∃ b, w.heap.size = b := ⟨_, rfl⟩
 rw [eba] at ga ⊢
 clear hX eba
 cases sm with
 | false =>
  have hf : Hid (R = false) := by unfold Hid; rw [HR.out]; rfl
  clear HR
  go_wp2_with (first | (refine xAf (by rfl) 27 _ rfl ba rfl 27 _ ga ⟨_, Tryz.underlying27⟩ (by kernel_rfl) ?_; simp only [Act.put, qzG, qzH, qzI]) | (go_at_call 20; (with_reducible refine (HS.out X HB.out).mono ?_); rintro e w1 ⟨rfl, hb1⟩; have k3 : w1.cell? ⟨ba, 3, none⟩ = some (.slice m.a c.ac.length m.ac) := (ga.then_ hb1).cell 3; have k5 : w1.cell? ⟨ba, 5, none⟩ = some (.int .i64 c.days) := (ga.then_ hb1).cell 5))
  go_ret
  exact ⟨xAb hf.out.symm, xAa HB.out hb1⟩
 | true =>
 cases t1 : decide ((c.ac.length : Int) ≤ 8) with
 | false =>
  have hf : Hid (R = false) := by unfold Hid; rw [HR.out, t1]; rfl
  clear HR
  go_wp2_with (first | (refine xAf (by rfl) 27 _ rfl ba rfl 27 _ ga ⟨_, Tryz.underlying27⟩ (by kernel_rfl) ?_; simp only [Act.put, qzG, qzH, qzI]) | (go_at_call 20; (with_reducible refine (HS.out X HB.out).mono ?_); rintro e w1 ⟨rfl, hb1⟩; have k3 : w1.cell? ⟨ba, 3, none⟩ = some (.slice m.a c.ac.length m.ac) := (ga.then_ hb1).cell 3; have k5 : w1.cell? ⟨ba, 5, none⟩ = some (.int .i64 c.days) := (ga.then_ hb1).cell 5))
  go_ret
  exact ⟨xAb hf.out.symm, xAa HB.out hb1⟩
 | true =>
  have hf : Hid (R = decide (c.days ≤ 20)) := by unfold Hid; rw [HR.out, t1]; rfl
  clear HR
  go_wp2_with (first | (refine xAf (by rfl) 27 _ rfl ba rfl 27 _ ga ⟨_, Tryz.underlying27⟩ (by kernel_rfl) ?_; simp only [Act.put, qzG, qzH, qzI]) | (go_at_call 20; (with_reducible refine (HS.out X HB.out).mono ?_); rintro e w1 ⟨rfl, hb1⟩; have k3 : w1.cell? ⟨ba, 3, none⟩ = some (.slice m.a c.ac.length m.ac) := (ga.then_ hb1).cell 3; have k5 : w1.cell? ⟨ba, 5, none⟩ = some (.int .i64 c.days) := (ga.then_ hb1).cell 5))
  go_ret
  exact ⟨xAb hf.out.symm, xAa HB.out hb1⟩
theorem verd1_any (s : Sta) (q : Qm) (bk k : Nat) (x : Mk) (w : World) (hS : Stm w s q) (gk : Blk w bk 3 #[.int .i64 (k : Nat)]) (hx : s.marks[k]? = some x) :
  Calls Tryz.prog 40 #[.agg (stA s q), .pointer (some ⟨bk, 0, none⟩)] w fun e w' => e = .returned (.int .i64 (xEm x.st)) ∧ Below w.heap.size w w' := by
 obtain ⟨R, hR⟩ : ∃ r, xEm x.st = r := ⟨_, rfl⟩
 have HM := qzL (fun W => xI0 x.st W)
 rw [hR] at HM ⊢
 have hkl : k < s.marks.length := (qzM hx).1
 have nm := hS.nm
 obtain ⟨b0, o0, eA0, hb0, hc0⟩ := xAv hS.m hx
 have hix := fun W => xAp (t := 45) (size := 5) (cap := q.mc) eA0 hkl (by kernel_rfl) (fun W => by kernel_rfl) W
 have d0 : w.cell? ⟨b0, o0 + k * 5, none⟩ = some (.int .i64 x.st) := hc0 0 _ rfl
 have k0 : w.cell? ⟨bk, 0, none⟩ = some (.int .i64 (k : Nat)) := gk.cell 0
 have GK := qzL gk
 clear hS gk hx hR hc0 eA0
 go_enter Tryz.func40, Tryz.ntmps40
 go_upto_region 1 with (fail)
 refine xAi ?_
 intro X hX
 have gs : Blk X w.heap.size 47 (stA s q) := by rw [hX]; exact Blk.new _ _ _
 have HB : Hid (Below w.heap.size w X) := by unfold Hid; rw [hX]; (repeat first | exact Below.refl _ _ | refine xAc ?_ _)
 have s3 : X.cell? ⟨w.heap.size, 3, none⟩ = some (.slice q.m s.marks.length q.mc) := gs.cell 3
 have x0 : X.cell? ⟨b0, o0 + k * 5, none⟩ = some (.int .i64 x.st) := (HB.out.cell (p := ⟨b0, o0 + k * 5, none⟩) hb0).trans d0
 have kx : X.cell? ⟨bk, 0, none⟩ = some (.int .i64 (k : Nat)) := (GK.out.then_ HB.out).cell 0
 clear hX d0 k0 gs
 go_wp2_with (go_at_call 41; (with_reducible refine (HM.out _).mono ?_); rintro e w1 ⟨rfl, rfl⟩)
 go_ret
 exact ⟨rfl, HB.out⟩
def subA (A : Option Addr) (cap l size : Nat) : Option Addr := if cap = l then A else A.map (·.add (l * size))
theorem sub_seg {α : Type} {w : World} {C size : Nat} {enc : α → List Value} {A : Option Addr} {xs : List α} {cap l h : Nat} (hs : Seg w C size enc A xs) (hx : xs.length ≤ cap) : Seg w C size enc (subA A cap l size) ((xs.drop l).take h) := by
 intro k x hk
 have hk2 : xs[l + k]? = some x := by
  rw [List.getElem?_take] at hk
  split at hk
  ·rwa [List.getElem?_drop] at hk
  ·cases hk
 have hlt := (qzM hk2).1
 obtain ⟨b, off, e, hb, hc⟩ := hs (l + k) x hk2
 refine ⟨b, off + l * size, ?_, hb, fun j v hv => ?_⟩
 ·unfold subA
  rw [if_neg (by omega), e]
  simp [Addr.add]
 ·have h2 := hc j v hv
  rw [Nat.add_mul] at h2
  rw [show off + l * size + k * size + j = off + (l * size + k * size) + j by omega]
  exact h2
theorem tail_at {t : TypeId} {size : Nat} {A : Option Addr} {len cap l : Nat} (h1 : l ≤ len) (ht : Tryz.prog.underlying t = some (.slice (Tryz.prog.elem t))) (hs : ∀ W : World, (sizeOf (Tryz.prog.elem t)).run Tryz.prog W = .ok size W) (W : World) :
  (Instr.slice t (.slice A len cap) (some (.int .i64 (l : Nat))) none none).run Tryz.prog W = .ok (.slice (subA A cap l size) (len - l) (cap - l)) W := by
 rw [run_slice_l W t A len cap ht .i64 l (by omega) (by omega), hs]
 rfl
abbrev blA (p : Int) (A : Option Addr) (n cap : Nat) : Array Value := #[.int .i64 p, .slice A n cap]
theorem mvalid_any (c : Con) (m : Cm) (p : Int) (rows : List SQ) (A : Option Addr) (cap : Nat) (w : World) (hC : Cont w c m) (hp : 0 ≤ p ∧ p < c.par) (hA : Seg w w.heap.size 4 eQ A rows) (hrow : ∀ x ∈ rows, Stm w x.1 x.2) (hok : ∀ x ∈ rows, SOk c x.1) (hn : 0 < rows.length ∧ rows.length ≤ 300) :
  Calls Tryz.prog 38 #[.agg (coA c m), .agg (blA p A rows.length cap)] w fun e w' => e = .returned (.bool true) ∧ Below w.heap.size w w' := by
 have HA := qzL hA
 have HV : Hid (∀ x ∈ rows, ∀ W, Below w.heap.size w W → Calls Tryz.prog 47 #[.agg (coA c m), .agg (eQ x).toArray] W fun e w' => e = .returned (.bool true) ∧ Below W.heap.size W w') := fun x hx W hb => by
  have h := xEs c m x.1 x.2 W (hC.then_ hb) ((hrow x hx).then_ hb)
  rw [xDu.2 (hok x hx)] at h
  exact h
 have t1 : decide (p < 0) = false := qzN (by omega)
 have t2 : decide (c.par ≤ p) = false := qzN (by omega)
 have t3 : (((rows.length : Nat) : Int) == 0) = false := beq_eq_false_iff_ne.2 (by omega)
 have t4 : decide ((300 : Int) < ((rows.length : Nat) : Int)) = false := qzN (by omega)
 clear hA hrow hok hC
 go_enter Tryz.func38, Tryz.ntmps38
 go_upto_region 1 with (fail)
 refine xAi ?_
 intro X hX
 have ga : Blk X w.heap.size 27 (coA c m) := by rw [hX]; exact (Blk.new _ _ _).alloc _
 have gb : Blk X (w.heap.size + 1) 39 (blA p A rows.length cap) := by rw [hX]; exact xA0 (by simp)
 have HB : Hid (Below w.heap.size w X) := by unfold Hid; rw [hX]; (repeat first | exact Below.refl _ _ | refine xAc ?_ _)
 obtain ⟨bb, ebb⟩ : ∃ b, w.heap.size + 1 = b := ⟨_, rfl⟩
 obtain ⟨ba, eba⟩ : ∃ b, w.heap.size = b := ⟨_, rfl⟩
 rw [ebb] at gb ⊢
 rw [eba] at ga ⊢
 clear hX ebb eba
 have k0 : X.cell? ⟨bb, 0, none⟩ = some (.int .i64 p) := gb.cell 0
 have k1 : X.cell? ⟨bb, 1, none⟩ = some (.slice A rows.length cap) := gb.cell 1
 have a0 : X.cell? ⟨ba, 0, none⟩ = some (.int .i64 c.par) := ga.cell 0
 have GA := qzL ga
 clear ga gb
 go_upto_region 4 with (fail)
 go_loopw [32] (fun y WR => ∃ (i : Nat), i ≤ rows.length ∧ y = .int .i64 i ∧ Hid (Below X.heap.size X WR)) (fun y _ => 2000000 - (intOf y).toNat)
 case atStart => exact ⟨0, by omega, rfl, Below.refl _ _⟩
 case round =>
  obtain ⟨i, hi', rfl, hB0⟩ := hrel
  have hB := qzL (xAa HB.out hB0.out)
  by_cases hlt : i < rows.length
  case neg =>
   have tn : decide ((i : Int) < (rows.length : Int)) = false := qzN (by omega)
   go_wp2
   go_ret
   exact ⟨rfl, hB.out⟩
  have tn : decide ((i : Int) < (rows.length : Int)) = true := qzO (by omega)
  obtain ⟨x, hx⟩ : ∃ k, rows[i]? = some k := ⟨_, qzJ hlt⟩
  obtain ⟨b0, o0, eA0, hb0', hc0⟩ := xAv HA.out hx
  have hrg : wr.rangeAt b0 (o0 + i * 4) (eQ x) := fun j v hv => (hB.out.cell (p := ⟨b0, o0 + i * 4 + j, none⟩) hb0').trans (hc0 j v hv)
  have hix := fun W => xAp (t := 31) (size := 4) (cap := cap) (len := rows.length) eA0 hlt (by kernel_rfl) (fun W => by kernel_rfl) W
  have HVX := qzL (HV.out x (qzK hx))
  clear hx hc0 eA0 hb0'
  go_upto_region 6 with (refine xAm 47 elQ _ _ _ rfl rfl rfl rfl rfl rfl rfl rfl rfl b0 _ rfl (eQ x) rfl hrg (xD5 x) (by decide) (by simp) (by simp) ?_; simp only [Act.put, qzG, qzH, qzI])
  refine xAi ?_
  intro Y hY
  have gs : Blk Y wr.heap.size 47 (eQ x).toArray := by rw [hY]; exact Blk.new _ _ _
  have hbY : Below wr.heap.size wr Y := by rw [hY]; exact wa1 _ _
  have HBY := qzL (xAa hB.out hbY)
  have HXY := qzL (xAa hB0.out hbY)
  have ga2 := GA.out.then_ HXY.out
  obtain ⟨bs, ebs⟩ : ∃ b, wr.heap.size = b := ⟨_, rfl⟩
  rw [ebs] at gs ⊢
  clear hY hbY ebs hrg hix
  have HSV := qzL (HVX.out Y HBY.out)
  have hii : i + 1 ≤ rows.length := hlt
  go_wp2_with (first | (refine xAf (by rfl) 47 _ rfl bs rfl 47 _ gs ⟨_, Tryz.underlying47⟩ (by kernel_rfl) ?_; simp only [Act.put, qzG, qzH, qzI]) | (refine xAf (by rfl) 27 _ rfl ba rfl 27 _ ga2 ⟨_, Tryz.underlying27⟩ (by kernel_rfl) ?_; simp only [Act.put, qzG, qzH, qzI]) | (go_at_call 47; (with_reducible refine HSV.out.mono ?_); rintro e w1 ⟨rfl, hb1⟩; have HB1 := qzL hb1; clear hb1))
  go_roundw
  case rel => exact ⟨i + 1, hii, by simp, xAa HXY.out HB1.out⟩
  case measure => simp [intOf]; omega
def vd (k : Nat) (s : Sta) : Int := xEm (s.marks.getD k Mk.idle).st
theorem verdF_cons (s : Sta) (R : List Sta) (k : Nat) : xD3 (s :: R) k = if R.all fun t => vd k t == vd k s then vd k s else 0 := rfl
theorem agreed_any (x0 : SQ) (rows : List SQ) (k bk : Nat) (A : Option Addr) (cap : Nat) (w : World) (hA : Seg w w.heap.size 4 eQ A (x0 :: rows)) (hrow : ∀ x ∈ x0 :: rows, Stm w x.1 x.2) (hm : ∀ x ∈ x0 :: rows, k < x.1.marks.length) (gk : Blk w bk 3 #[.int .i64 (k : Nat)]) (hn : rows.length ≤ 300) (hcap : rows.length + 1 ≤ cap) :
  Calls Tryz.prog 39 #[.slice A (rows.length + 1) cap, .func (.func 40) #[] #[.pointer (some ⟨bk, 0, none⟩)]] w fun e w' => e = .returned (.int .i64 (xD3 ((x0 :: rows).map (·.1)) k)) ∧ Below w.heap.size w w' := by
 obtain ⟨R, hR⟩ : ∃ r, xD3 ((x0 :: rows).map (·.1)) k = r := ⟨_, rfl⟩
 rw [hR]
 obtain ⟨v0, hv0⟩ : ∃ v, vd k x0.1 = v := ⟨_, rfl⟩
 have HR : Hid (R = if (rows.map (·.1)).all fun t => vd k t == v0 then v0 else 0) := by unfold Hid; rw [← hR, List.map_cons, verdF_cons, hv0]
 have HC : Hid (∀ x ∈ x0 :: rows, ∀ W, Below w.heap.size w W → Calls Tryz.prog 40 #[.agg (eQ x).toArray, .pointer (some ⟨bk, 0, none⟩)] W fun e w' => e = .returned (.int .i64 (vd k x.1)) ∧ Below W.heap.size W w') := fun x hx W hb => by
  have hl := hm x hx
  have h := verd1_any x.1 x.2 bk k (x.1.marks.getD k Mk.idle) W ((hrow x hx).then_ hb) (gk.then_ hb) (by rw [List.getD_eq_getElem?_getD, qzJ hl]; rfl)
  exact h
 have HC00 := HC.out x0 (by simp)
 rw [hv0] at HC00
 have HC0 := qzL HC00
 have HT : Hid (Seg w w.heap.size 4 eQ (subA A cap 1 4) rows) := by
  have h := sub_seg (l := 1) (h := rows.length) hA hcap
  rw [List.drop_succ_cons, List.drop_zero, List.take_length] at h
  exact h
 obtain ⟨b0, o0, eA0, hb0, hc0⟩ := xAv (k := 0) hA rfl
 have hix0 : ∀ W : World, (Instr.indexAt 31 (.slice A (rows.length + 1) cap) (.int .i64 0)).run Tryz.prog W = .ok (.pointer (some ⟨b0, o0, none⟩)) W := fun W => by
  have h := xAp (t := 31) (size := 4) (cap := cap) (len := rows.length + 1) (k := 0) eA0 (by omega) (by kernel_rfl) (fun W => by kernel_rfl) W
  rw [Nat.zero_mul, Nat.add_zero] at h
  exact h
 have hsl : ∀ W : World, (Instr.slice 31 (.slice A (rows.length + 1) cap) (some (.int .i64 1)) none none).run Tryz.prog W = .ok (.slice (subA A cap 1 4) rows.length (cap - 1)) W := fun W => tail_at (t := 31) (size := 4) (A := A) (len := rows.length + 1) (cap := cap) (l := 1) (by omega) (by kernel_rfl) (fun W => by kernel_rfl) W
 have hrg0 : w.rangeAt b0 o0 (eQ x0) := by rw [Nat.zero_mul, Nat.add_zero] at hc0; exact hc0
 obtain ⟨A2, hA2⟩ : ∃ a, subA A cap 1 4 = a := ⟨_, rfl⟩
 rw [hA2] at HT hsl
 clear hA hrow hm gk hR HC00 hc0 eA0 hA2 hv0
 go_enter Tryz.func39, Tryz.ntmps39
 go_upto_region 2 with (first | (refine wpList_load_mid (by rfl) 47 _ rfl b0 _ rfl (eQ x0) _ hrg0 Tryz.underlying47 rfl (by kernel_rfl) ?_; simp only [Act.put, qzG, qzH, qzI]) | (go_at_call 40; (with_reducible refine (HC0.out w (Below.refl _ _)).mono ?_); rintro e w1 ⟨rfl, hb1⟩))
 have HB := qzL hb1
 clear hb1
 go_upto_region 3 with (fail)
 go_loopw [16] (fun y WR => ∃ (i : Nat), i ≤ rows.length ∧ y = .int .i64 i ∧ Hid (∀ j x, j < i → rows[j]? = some x → (vd k x.1 == v0) = true) ∧ Hid (Below w.heap.size w WR)) (fun y _ => 2000000 - (intOf y).toNat)
 case atStart => exact ⟨0, by omega, rfl, (fun j k hj => by omega), HB.out⟩
 case round =>
  obtain ⟨i, hi', rfl, hpre, hB⟩ := hrel
  by_cases hlt : i < rows.length
  case neg =>
   have tn : decide ((i : Int) < (rows.length : Int)) = false := qzN (by omega)
   have hf : Hid (R = v0) := by
    unfold Hid
    rw [HR.out, if_pos]
    refine List.all_eq_true.2 fun s hs => ?_
    obtain ⟨x, hx, rfl⟩ := List.mem_map.1 hs
    obtain ⟨j, hj, e⟩ := List.getElem_of_mem hx
    exact hpre.out j x (by omega) (by rw [← e]; exact qzJ hj)
   clear hpre
   go_wp2
   go_ret
   exact ⟨xCc hf.out.symm, hB.out⟩
  have tn : decide ((i : Int) < (rows.length : Int)) = true := qzO (by omega)
  obtain ⟨x, hx⟩ : ∃ k, rows[i]? = some k := ⟨_, qzJ hlt⟩
  obtain ⟨b1, o1, eA1, hb1', hc1⟩ := xAv HT.out hx
  have hrg : wr.rangeAt b1 (o1 + i * 4) (eQ x) := fun j v hv => (hB.out.cell (p := ⟨b1, o1 + i * 4 + j, none⟩) hb1').trans (hc1 j v hv)
  have hix := fun W => xAp (t := 31) (size := 4) (cap := cap - 1) (len := rows.length) eA1 hlt (by kernel_rfl) (fun W => by kernel_rfl) W
  have HCX := qzL (HC.out x (List.mem_cons_of_mem _ (qzK hx)))
  have HX := qzL hx
  clear hx hc1 eA1 hb1'
  go_upto_region 5 with (refine xAm 47 elQ _ _ _ rfl rfl rfl rfl rfl rfl rfl rfl rfl b1 _ rfl (eQ x) rfl hrg (xD5 x) (by decide) (by simp) (by simp) ?_; simp only [Act.put, qzG, qzH, qzI])
  refine xAi ?_
  intro Y hY
  have gs : Blk Y wr.heap.size 47 (eQ x).toArray := by rw [hY]; exact Blk.new _ _ _
  have hbY : Below wr.heap.size wr Y := by rw [hY]; exact wa1 _ _
  have HBY := qzL (xAa hB.out hbY)
  obtain ⟨bs, ebs⟩ : ∃ b, wr.heap.size = b := ⟨_, rfl⟩
  rw [ebs] at gs ⊢
  clear hY hbY ebs hrg hix
  obtain ⟨vx, hvx⟩ : ∃ v, vd k x.1 = v := ⟨_, rfl⟩
  have HSX := HCX.out Y HBY.out
  rw [hvx] at HSX
  have HSV := qzL HSX
  have HVX := qzL hvx
  clear HSX hvx HCX
  have hii : i + 1 ≤ rows.length := hlt
  cases tv : (vx != v0) with
  | true =>
   have hf : Hid (R = 0) := by
    unfold Hid
    rw [HR.out, if_neg]
    intro hall
    have := List.all_eq_true.1 hall x.1 (List.mem_map_of_mem (qzK HX.out))
    rw [HVX.out] at this
    simp only [bne, Bool.not_eq_true'] at tv
    rw [tv] at this
    cases this
   clear hpre
   go_wp2_with (first | (refine xAf (by rfl) 47 _ rfl bs rfl 47 _ gs ⟨_, Tryz.underlying47⟩ (by kernel_rfl) ?_; simp only [Act.put, qzG, qzH, qzI]) | (go_at_call 40; (with_reducible refine HSV.out.mono ?_); rintro e w1 ⟨rfl, hb1⟩; have HB1 := qzL hb1; clear hb1))
   go_ret
   exact ⟨xCc hf.out.symm, xAa HBY.out HB1.out⟩
  | false =>
   have hp : Hid (∀ j y, j < i + 1 → rows[j]? = some y → (vd k y.1 == v0) = true) := fun j y hj hy => by
    by_cases e : j = i
    ·rw [e, HX.out] at hy
     cases hy
     rw [HVX.out]
     simpa [bne] using tv
    ·exact hpre.out j y (by omega) hy
   clear hpre
   go_wp2_with (first | (refine xAf (by rfl) 47 _ rfl bs rfl 47 _ gs ⟨_, Tryz.underlying47⟩ (by kernel_rfl) ?_; simp only [Act.put, qzG, qzH, qzI]) | (go_at_call 40; (with_reducible refine HSV.out.mono ?_); rintro e w1 ⟨rfl, hb1⟩; have HB1 := qzL hb1; clear hb1))
   go_roundw
   case rel => exact ⟨i + 1, hii, by simp, hp, xAa HBY.out HB1.out⟩
   case measure => simp [intOf]; omega
theorem xD2 (c : Con) (m : Cm) (p : Int) (rows : List SQ) (k : Nat) (A : Option Addr) (cap : Nat) (w : World) (hC : Cont w c m) (hp : 0 ≤ p ∧ p < c.par) (hA : Seg w w.heap.size 4 eQ A rows) (hrow : ∀ x ∈ rows, Stm w x.1 x.2) (hok : ∀ x ∈ rows, SOk c x.1) (hn : 0 < rows.length ∧ rows.length ≤ 300) (hk : k < c.cl.length) (hcap : rows.length ≤ cap) :
  Calls Tryz.prog 15 #[.agg (coA c m), .agg (blA p A rows.length cap), .int .i64 (k : Nat)] w fun e w' => e = .returned (.int .i64 (xD3 (rows.map (·.1)) k)) ∧ Below w.heap.size w w' := by
 obtain ⟨R, hR⟩ : ∃ r, xD3 (rows.map (·.1)) k = r := ⟨_, rfl⟩
 rw [hR]
 have HV : Hid (∀ W, Below w.heap.size w W → Calls Tryz.prog 38 #[.agg (coA c m), .agg (blA p A rows.length cap)] W fun e w' => e = .returned (.bool true) ∧ Below W.heap.size W w') := fun W hb => mvalid_any c m p rows A cap W (hC.then_ hb) hp ((hA.below hb).more hb.size) (fun x hx => (hrow x hx).then_ hb) hok hn
 have HG : Hid (∀ bk W, Below w.heap.size w W → Blk W bk 3 #[.int .i64 (k : Nat)] → Calls Tryz.prog 39 #[.slice A rows.length cap, .func (.func 40) #[] #[.pointer (some ⟨bk, 0, none⟩)]] W fun e w' => e = .returned (.int .i64 R) ∧ Below W.heap.size W w') := fun bk W hb gk => by
  rw [← hR]
  cases rows with
  | nil => exact absurd hn.1 (by simp)
  | cons x0 r =>
   exact agreed_any x0 r k bk A cap W ((hA.below hb).more hb.size) (fun x hx => (hrow x hx).then_ hb) (fun x hx => by rw [(hok x hx).m]; exact hk) gk (by simpa using (show (x0 :: r).length ≤ 300 + 1 by omega)) hcap
 have t1 : decide (((k : Nat) : Int) < 0) = false := qzN (by omega)
 have t2 : decide (((c.cl.length : Nat) : Int) ≤ ((k : Nat) : Int)) = false := qzN (by omega)
 clear hC hA hrow hok hR
 go_enter Tryz.func15, Tryz.ntmps15
 go_upto_region 1 with (fail)
 refine xAi ?_
 intro X hX
 have ga : Blk X w.heap.size 27 (coA c m) := by rw [hX]; exact ((Blk.new _ _ _).alloc _).alloc _
 have gb : Blk X (w.heap.size + 1) 39 (blA p A rows.length cap) := by rw [hX]; exact (xA0 (by simp)).alloc _
 have gk : Blk X (w.heap.size + 1 + 1) 3 #[.int .i64 (k : Nat)] := by rw [hX]; exact xA0 (by simp)
 have HB : Hid (Below w.heap.size w X) := by unfold Hid; rw [hX]; (repeat first | exact Below.refl _ _ | refine xAc ?_ _)
 obtain ⟨bk, ebk⟩ : ∃ b, w.heap.size + 1 + 1 = b := ⟨_, rfl⟩
 obtain ⟨bb, ebb⟩ : ∃ b, w.heap.size + 1 = b := ⟨_, rfl⟩
 obtain ⟨ba, eba⟩ : ∃ b, w.heap.size = b := ⟨_, rfl⟩
 rw [ebk] at gk ⊢
 rw [ebb] at gb ⊢
 rw [eba] at ga ⊢
 clear hX ebk ebb eba
 have HVX := qzL (HV.out X HB.out)
 go_upto_region 3 with (first | (refine xAf (by rfl) 27 _ rfl ba rfl 27 _ ga ⟨_, Tryz.underlying27⟩ (by kernel_rfl) ?_; simp only [Act.put, qzG, qzH, qzI]) | (refine xAf (by rfl) 39 _ rfl bb rfl 39 _ gb ⟨_, Tryz.underlying39⟩ (by kernel_rfl) ?_; simp only [Act.put, qzG, qzH, qzI]) | (go_at_call 38; (with_reducible refine HVX.out.mono ?_); rintro e w1 ⟨rfl, hb1⟩; have k0 : w1.cell? ⟨bk, 0, none⟩ = some (.int .i64 (k : Nat)) := (gk.then_ hb1).cell 0; have a4 : w1.cell? ⟨ba, 4, none⟩ = some (.slice m.k c.cl.length m.kc) := (ga.then_ hb1).cell 4))
 have b1 : w1.cell? ⟨bb, 1, none⟩ = some (.slice A rows.length cap) := (gb.then_ hb1).cell 1
 have HB1 := qzL (xAa HB.out hb1)
 have HGX := qzL (HG.out bk w1 HB1.out (gk.then_ hb1))
 clear k0 a4 ga gb gk hb1 HB
 go_wp2_with (go_at_call 39; (with_reducible refine HGX.out.mono ?_); rintro e w2 ⟨rfl, hb2⟩)
 go_ret
 exact ⟨rfl, xAa HB1.out hb2⟩
def goesOn (c : Con) (p : See) (s : Sta) (x : Int) : Bool := decide (s.day < c.days) && xCj c p s x && s.stepE c x == 0
theorem nextL_snoc (c : Con) (p : See) (R : List Sta) (s : Sta) (x : Int) : xCk c p (R ++ [s]) x = xCk c p R x ++ (if goesOn c p s x = true then [s.step c x] else []) := by
 unfold xCk
 rw [List.filter_append, List.map_append]
 congr 1
 unfold goesOn
 cases h : (decide (s.day < c.days) && xCj c p s x && s.stepE c x == 0) <;> simp [h]
theorem take_snoc {α β : Type} {l : List α} {i : Nat} {a : α} (f : α → β) (h : l[i]? = some a) : (l.take (i + 1)).map f = (l.take i).map f ++ [f a] := by
 rw [List.take_add_one, h]
 simp
theorem sees_ok (c : Con) (m : Cm) (s : Sta) (q : Qm) (p x : Int) (w : World) (hC : Cont w c m) (hS : Stm w s q) (hk : SOk c s) (hp : 0 ≤ p ∧ p < c.par) (hx : x ≠ -1) (hx2 : 0 ≤ x ∧ x < (c.ac.length : Int)) :
  Calls Tryz.prog 53 #[.agg (coA c m), .agg (stA s q), .int .i64 p, .int .i64 x] w fun e w' => e = .returned (.bool (xCj c (seeP p) s x)) ∧ Below w.heap.size w w' := by
 have h := xHi c m s q p x w hC hS fun _ a ha => act_in hk ha
 refine Calls.mono h ?_
 rintro _ w' ⟨rfl, hb⟩
 refine ⟨?_, hb⟩
 congr 2
 rw [xDu.2 hk, qzO hp.1, qzO hp.2, qzO hx2.1, qzO hx2.2]
 unfold xCj
 rw [show (x == -1) = false from beq_eq_false_iff_ne.2 hx]
 rfl
theorem mafter_any (c : Con) (m : Cm) (p : Int) (rows : List SQ) (A : Option Addr) (cap : Nat) (x : Int) (w : World) (hT : Lx w) (hC : Cont w c m) (hc : c.ok = true) (hp : 0 ≤ p ∧ p < c.par) (hA : Seg w w.heap.size 4 eQ A rows) (hrow : ∀ y ∈ rows, Stm w y.1 y.2) (hok : ∀ y ∈ rows, SOk c y.1) (hn : rows.length ≤ 300) (hx : x = -1 ∨ (0 ≤ x ∧ x < (c.ac.length : Int))) :
  Calls Tryz.prog 30 #[.agg (coA c m), .agg (blA p A rows.length cap), .int .i64 x] w fun e w' => BRet w p (afterF c (seeP p) (rows.map (·.1)) x) e w' := by
 have HT := qzL hT
 have HC := qzL hC
 have HA := qzL hA
 have HRW := qzL hrow
 have HOK := qzL hok
 have HX := qzL hx
 obtain ⟨B, hB⟩ : ∃ B, afterF c (seeP p) (rows.map (·.1)) x = B := ⟨_, rfl⟩
 have HB : Hid (B = if xCk c (seeP p) (rows.map (·.1)) x = [] then (13, []) else clE c (seeP p) (xCk c (seeP p) (rows.map (·.1)) x)) := by
  unfold Hid
  rw [← hB]
  unfold afterF
  rw [if_neg (by omega)]
 rw [hB]
 obtain ⟨ri, hi1, hz10, hz11, hz12⟩ := info_parts (show (Tryz.prog.info? 47).map (fun i => (i.zero, i.size, i.bytes)) = some (some (.agg zS), 4, 80) by kernel_rfl)
 clear hT hC hA hrow hok hB
 go_enter Tryz.func30, Tryz.ntmps30
 go_upto_region 1 with (fail)
 refine xAi ?_
 intro X hX
 have ga : Blk X w.heap.size 27 (coA c m) := by rw [hX]; exact ((Blk.new _ _ _).alloc _).alloc _
 have gb : Blk X (w.heap.size + 1) 39 (blA p A rows.length cap) := by rw [hX]; exact (xA0 (by simp)).alloc _
 have gr : Blk X (w.heap.size + 1 + 1) 39 zB := by rw [hX]; exact xA0 (by simp)
 have HBX : Hid (Below w.heap.size w X) := by unfold Hid; rw [hX]; (repeat first | exact Below.refl _ _ | refine xAc ?_ _)
 obtain ⟨br, ebr⟩ : ∃ b, w.heap.size + 1 + 1 = b := ⟨_, rfl⟩
 obtain ⟨bb, ebb⟩ : ∃ b, w.heap.size + 1 = b := ⟨_, rfl⟩
 obtain ⟨ba, eba⟩ : ∃ b, w.heap.size = b := ⟨_, rfl⟩
 have lbr : Hid (w.heap.size ≤ br) := by unfold Hid; omega
 rw [ebr] at gr ⊢
 rw [ebb] at gb ⊢
 rw [eba] at ga ⊢
 clear hX ebr ebb eba
 have GA := qzL ga
 have GB := qzL gb
 have GR := qzL gr
 have a3 : X.cell? ⟨ba, 3, none⟩ = some (.slice m.a c.ac.length m.ac) := ga.cell 3
 have b1 : X.cell? ⟨bb, 1, none⟩ = some (.slice A rows.length cap) := gb.cell 1
 clear ga gb gr
 go_cut [27] from 15 to 27 (fun v W => v = .bool false ∧ X = W)
 case first =>
  rcases HX.out with rfl | ⟨h1, h2⟩
  ·go_wp2
   go_meet
   case rel => exact ⟨rfl, rfl⟩
  ·have t1 : (x != -1) = true := by simp; omega
   have t2 : decide (x < 0) = false := qzN (by omega)
   have t3 : decide ((c.ac.length : Int) ≤ x) = false := qzN (by omega)
   clear HX h1 h2 hx
   go_wp2
   go_meet
   case rel => exact ⟨rfl, rfl⟩
 obtain ⟨rfl, rfl⟩ := hcut
 clear a3
 go_upto_region 5 with (fail)
 obtain ⟨Z, hZ⟩ : ∃ Z, Z = X := ⟨_, rfl⟩
 have HZ : Hid (X.heap.size ≤ X.heap.size) := Nat.le_refl _
 go_loopw [8, 32] (fun v y WR => ∃ (i : Nat) (nx : List SQ), y = .int .i64 i ∧ i ≤ rows.length ∧ Hid (Below X.heap.size X WR) ∧ Hid (Own WR X.heap.size 47 4 eQ v nx) ∧ Hid (nx.map (·.1) = xCk c (seeP p) ((rows.map (·.1)).take i) x) ∧ Hid (∀ y ∈ nx, Stq X.heap.size WR y.1 y.2 ∧ SOk c y.1) ∧ nx.length ≤ i) (fun _ y _ => 2000000 - (intOf y).toNat)
 case atStart => exact ⟨0, [], rfl, by omega, Below.refl _ _, Own.nil _ _ _ _ _, rfl, (fun y hy => by cases hy), by simp⟩
 case round =>
  obtain ⟨i, nx, rfl, hi', hB0, hO, hnx, hst, hln⟩ := hrel
  obtain ⟨A9, c9, rfl, hc9, _⟩ := hO.out.seg xCh
  have HW := qzL (xAa HBX.out hB0.out)
  by_cases hlt : i < rows.length
  case neg =>
   have tn : decide ((i : Int) < (rows.length : Int)) = false := qzN (by omega)
   obtain rfl : i = rows.length := by omega
   have hnx1 : nx.map (·.1) = xCk c (seeP p) (rows.map (·.1)) x := by
    have h := hnx.out
    rwa [List.take_of_length_le (by simp)] at h
   have GRW := qzL (GR.out.then_ hB0.out)
   have GBW := (GB.out.then_ hB0.out)
   have gaW := (GA.out.then_ hB0.out)
   have y1 : wr.cell? ⟨bb, 0, none⟩ = some (.int .i64 p) := GBW.cell 0
   have lX : Hid (br < X.heap.size ∧ w.heap.size ≤ X.heap.size ∧ X.heap.size ≤ wr.heap.size) := ⟨GR.out.lt, HBX.out.size, hB0.out.size⟩
   by_cases h0 : nx.length = 0
   case pos =>
    have t0 : (((nx.length : Nat) : Int) == 0) = true := by rw [h0]; rfl
    have hB9 : B = (13, []) := by rw [HB.out, if_pos]; rw [← hnx1, List.eq_nil_of_length_eq_zero h0]; rfl
    have HB9 := qzL hB9
    have grW := GRW.out
    clear hnx1 h0 hB9 hnx hst
    go_wp2_with (refine xAh rfl 39 _ _ rfl br 39 [] zB.toList [] zB.toList rfl rfl grW rfl (by kernel_rfl) (by simp [Value.oneCell']) ?_; intro w9 g9 u9)
    refine bodyPost_ret (xBp rfl rfl g9 ⟨_, Tryz.underlying39⟩ (by kernel_rfl)) rfl ?_
    rw [HB9.out]
    exact BRet.none (by decide) (HW.out.trans (u9.b _ lbr.out))
   case neg =>
   have t0 : (((nx.length : Nat) : Int) == 0) = false := beq_eq_false_iff_ne.2 (by omega)
   have hB9 : B = clE c (seeP p) (nx.map (·.1)) := by
    rw [HB.out, if_neg, hnx1]
    rw [← hnx1]
    intro e
    have := congrArg List.length e
    rw [List.length_map] at this
    exact h0 this
   have HCL := xFp (fun b => b < X.heap.size) c m p nx A9 c9 wr (xBx HT.out HW.out) (HC.out.then_ HW.out) hc hp (hO.out.segA xCh) (fun b hb => Nat.lt_of_lt_of_le hb lX.out.2.2) (fun y hy => Far.of (B := X.heap.size) (hst.out y hy).1 fun b hb => hb) (fun y hy => (hst.out y hy).2) (by omega)
   rw [← hB9] at HCL
   have HCL := qzL HCL
   have hcs : Hid (B = (3, []) ∨ ∃ R, B = (0, R)) := by
    unfold Hid
    rcases xEo (c := c) (seeP p) (nx.map (·.1)) with ⟨h, _⟩ | ⟨R, h, _⟩
    ·exact .inl (hB9.trans h)
    ·exact .inr ⟨R, hB9.trans h⟩
   clear hnx1 h0 hB9 hnx hst HB
   go_upto_region 15 with (first | (refine rowC (by rfl) _ rfl ba rfl gaW ?_; simp only [Act.put, qzG, qzH, qzI]) | (go_at_call 52; (with_reducible refine HCL.out.mono ?_); rintro e w3 ⟨⟨v, rows2, rfl, hO3, hrw, hst⟩, hb3⟩))
   have HO3 := qzL hO3
   have HRW3 := qzL hrw
   have HSM3 := qzL hst
   have HB3 := qzL (xAa HW.out hb3)
   have GR3 := qzL (GRW.out.then_ hb3)
   have y3 : w3.cell? ⟨bb, 0, none⟩ = some (.int .i64 p) := (GBW.then_ hb3).cell 0
   have lW3 := qzL hb3.size
   clear hO3 hrw hst hb3 GRW GBW gaW y1 HCL hO HW hB0
   have grW := GR3.out
   rcases hcs.out with hB | ⟨R, hB⟩
   ·subst hB
    clear hcs
    go_wp2_with (refine xAh rfl 39 _ _ rfl br 39 [] zB.toList [] zB.toList rfl rfl grW rfl (by kernel_rfl) (by simp [Value.oneCell']) ?_; intro w9 g9 u9)
    refine bodyPost_ret (xBp rfl rfl g9 ⟨_, Tryz.underlying39⟩ (by kernel_rfl)) rfl ?_
    exact BRet.none (by decide) (HB3.out.trans (u9.b _ lbr.out))
   ·subst hB
    clear hcs
    obtain ⟨A8, c8, rfl, _, _⟩ := HO3.out.seg xCh
    go_wp2_with (refine xAh rfl 39 _ _ rfl br 39 [] zB.toList [] [.int .i64 p, .slice A8 rows2.length c8] rfl rfl grW rfl (by kernel_rfl) (by simp [Value.oneCell']) ?_; intro w9 g9 u9)
    refine bodyPost_ret (xBp rfl rfl g9 ⟨_, Tryz.underlying39⟩ (by kernel_rfl)) rfl ?_
    have hk : Kept w3 w9 (fun b => b < X.heap.size) := Kept.of_upd u9 lX.out.1
    have hOe : Own w9 w.heap.size 47 4 eQ (.slice A8 rows2.length c8) rows2 := (HO3.out.upd u9 (HO3.out.ne_ (by have := lX.out; omega))).more (by have := lX.out; omega)
    exact ⟨⟨_, rows2, rfl, hOe, HRW3.out, fun x hx => ((HSM3.out x hx).kept hk).sub fun b hb => by have := lX.out; omega⟩, HB3.out.trans (u9.b _ lbr.out)⟩
  case pos =>
  have tn : decide ((i : Int) < (rows.length : Int)) = true := qzO (by omega)
  obtain ⟨y, hy⟩ : ∃ k, rows[i]? = some k := ⟨_, qzJ hlt⟩
  obtain ⟨b0, o0, eA0, hb0', hc0⟩ := xAv HA.out hy
  have hrg : wr.rangeAt b0 (o0 + i * 4) (eQ y) := fun j v hv => (HW.out.cell (p := ⟨b0, o0 + i * 4 + j, none⟩) hb0').trans (hc0 j v hv)
  have hix := fun W => xAp (t := 31) (size := 4) (cap := cap) (len := rows.length) eA0 hlt (by kernel_rfl) (fun W => by kernel_rfl) W
  have HY := qzL hy
  have hym := qzK hy
  clear hy hc0 eA0 hb0'
  go_upto_region 7 with (refine xAm 47 elQ _ _ _ rfl rfl rfl rfl rfl rfl rfl rfl rfl b0 _ rfl (eQ y) rfl hrg (xD5 y) (by decide) (by simp) (by simp) ?_; simp only [Act.put, qzG, qzH, qzI])
  refine xAi ?_
  intro Y hY
  have gs : Blk Y wr.heap.size 47 (stA y.1 y.2) := by rw [hY]; exact Blk.new _ _ _
  have hbY : Below wr.heap.size wr Y := by rw [hY]; exact wa1 _ _
  have HBY := qzL (xAa HW.out hbY)
  have HXY := qzL (xAa hB0.out hbY)
  have HOY := qzL (hO.out.below hbY)
  have HSY : Hid (∀ y ∈ nx, Stq X.heap.size Y y.1 y.2 ∧ SOk c y.1) := fun y hy => ⟨(hst.out y hy).1.then_ hbY, (hst.out y hy).2⟩
  obtain ⟨bs, ebs⟩ : ∃ b, wr.heap.size = b := ⟨_, rfl⟩
  rw [ebs] at gs ⊢
  clear hY hbY ebs hrg hix hO hst hB0 HW
  have HSM := qzL ((HRW.out y hym).then_ HBY.out)
  have HYK := qzL (HOK.out y hym)
  have GS := qzL gs
  have HGA := qzL (GA.out.then_ HXY.out)
  have HGB := qzL (GB.out.then_ HXY.out)
  have y0 : Y.cell? ⟨bs, 0, none⟩ = some (.int .i64 y.1.day) := gs.cell 0
  have y5 : Y.cell? ⟨ba, 5, none⟩ = some (.int .i64 c.days) := HGA.out.cell 5
  have y1 : Y.cell? ⟨bb, 0, none⟩ = some (.int .i64 p) := HGB.out.cell 0
  obtain ⟨sb, hsb⟩ : ∃ b, (decide (y.1.day < c.days) && xCj c (seeP p) y.1 x) = b := ⟨_, rfl⟩
  go_cut [53] from 36 to 53 (fun v W => v = .bool (!sb) ∧ Hid (Below Y.heap.size Y W))
  case first =>
   by_cases hd : y.1.day < c.days
   case neg =>
    have td : decide (c.days ≤ y.1.day) = true := qzO (by omega)
    have e : sb = false := by rw [← hsb, qzN hd]; rfl
    clear hsb hd
    go_wp2
    go_meet
    case rel => exact ⟨by rw [e]; rfl, Below.refl _ _⟩
   case pos =>
   have td : decide (c.days ≤ y.1.day) = false := qzN (by omega)
   rw [qzO hd, Bool.true_and] at hsb
   rcases HX.out with rfl | ⟨h1, h2⟩
   ·have e : sb = true := by rw [← hsb]; rfl
    clear hsb hd
    go_wp2
    go_meet
    case rel => exact ⟨by rw [e]; rfl, Below.refl _ _⟩
   ·have t1 : (x != -1) = true := by simp; omega
    have HSE := sees_ok c m y.1 y.2 p x Y (HC.out.then_ HBY.out) HSM.out HYK.out hp (by omega) ⟨h1, h2⟩
    rw [hsb] at HSE
    have HSE := qzL HSE
    have ga := HGA.out
    clear hsb hd h1 h2 hx
    go_wp2_with (first | (refine rowC (by rfl) _ rfl ba rfl ga ?_; simp only [Act.put, qzG, qzH, qzI]) | (refine xAf (by rfl) 47 _ rfl bs rfl 47 _ gs ⟨_, Tryz.underlying47⟩ (by kernel_rfl) ?_; simp only [Act.put, qzG, qzH, qzI]) | (go_at_call 53; (with_reducible refine HSE.out.mono ?_); rintro e w1 ⟨rfl, hb1⟩))
    go_meet
    case rel => exact ⟨rfl, hb1⟩
  obtain ⟨rfl, hbW⟩ := hcut
  have HWX := qzL (xAa HXY.out hbW.out)
  have HWW := qzL (xAa HBY.out hbW.out)
  have HOW := qzL (HOY.out.below hbW.out)
  have HSW : Hid (∀ y ∈ nx, Stq X.heap.size wc y.1 y.2 ∧ SOk c y.1) := fun y hy => ⟨(HSY.out y hy).1.then_ hbW.out, (HSY.out y hy).2⟩
  have HSMW := qzL (HSM.out.then_ hbW.out)
  have ga := HGA.out.then_ hbW.out
  have gsW := GS.out.then_ hbW.out
  obtain ⟨SE, hSE⟩ : ∃ E, y.1.stepE c x = E := ⟨_, rfl⟩
  obtain ⟨SS, hSS⟩ : ∃ E, y.1.stepS c x = E := ⟨_, rfl⟩
  have HSX := xD9 c m y.1 y.2 x wc (HC.out.then_ HWW.out) HSMW.out
  rw [hSE, hSS] at HSX
  have HSTP := qzL HSX
  have HST2 : Hid (SE = 0 → SS = y.1.step c x ∧ SOk c SS) := fun e => by
   have e2 : SS = y.1.step c x := by rw [← hSS]; unfold Sta.stepS; rw [hSE, if_pos e]
   exact ⟨e2, by rw [e2]; exact xCo HYK.out (by rw [hSE]; exact e)⟩
  have HTK := qzL (take_snoc (·.1) HY.out)
  have HGO : Hid (goesOn c (seeP p) y.1 x = (sb && (SE == 0))) := by unfold Hid goesOn; rw [hsb, hSE]
  have HNS : Hid (xCk c (seeP p) ((rows.map (·.1)).take (i + 1)) x = nx.map (·.1) ++ (if (sb && (SE == 0)) = true then [y.1.step c x] else [])) := by
   have h1 := hnx.out
   unfold Hid
   rw [← List.map_take] at h1 ⊢
   rw [HTK.out, nextL_snoc, HGO.out, ← h1]
  have hii : i + 1 ≤ rows.length := hlt
  clear y0 y5 y1 gs HSY HOY HSM hbW HXY HBY HGB HSX hSE hSS hnx hsb HGO HTK
  cases sb with
  | false =>
   have hnx2 : Hid (nx.map (·.1) = xCk c (seeP p) ((rows.map (·.1)).take (i + 1)) x) := by
    unfold Hid
    rw [HNS.out]
    simp
   clear HNS HST2 HSTP
   go_wp2
   go_roundw
   case rel => exact ⟨i + 1, nx, by simp, hii, HWX, HOW, hnx2, HSW, by omega⟩
   case measure => simp [intOf]; omega
  | true =>
  go_upto_region 9 with (first | (refine rowC (by rfl) _ rfl ba rfl ga ?_; simp only [Act.put, qzG, qzH, qzI]) | (refine xAf (by rfl) 47 _ rfl bs rfl 47 _ gsW ⟨_, Tryz.underlying47⟩ (by kernel_rfl) ?_; simp only [Act.put, qzG, qzH, qzI]) | (go_at_call 22; (with_reducible refine HSTP.out.mono ?_); rintro e w1 ⟨⟨q1, rfl, hs1, ho1, ht1⟩, hb1⟩) | (refine xAh rfl 47 _ _ rfl w1.heap.size 47 [] zS.toList [] (stA SS q1).toList rfl rfl (Blk.new _ _ _) rfl (by kernel_rfl) (by simp [Value.oneCell']) ?_; intro w2 g2 u2))
  have hb12 : Below w1.heap.size w1 w2 := (wa1 _ _).trans (u2.b _ (Nat.le_refl _))
  have h12 := xAa hb1 hb12
  have HWX2 := qzL (xAa HWX.out h12)
  have HOW2 := qzL (HOW.out.below h12)
  have HSW2 : Hid (∀ y ∈ nx, Stq X.heap.size w2 y.1 y.2 ∧ SOk c y.1) := fun y hy => ⟨(HSW.out y hy).1.then_ h12, (HSW.out y hy).2⟩
  have hq1 : Hid (Stq X.heap.size w2 SS q1) := ⟨hs1.then_ hb12, ho1.more HWX.out.size, ht1.then_ hb12⟩
  have gt : Blk w2 w1.heap.size 47 (stA SS q1) := g2
  obtain ⟨bt, ebt⟩ : ∃ b, w1.heap.size = b := ⟨_, rfl⟩
  rw [ebt] at gt ⊢
  clear hs1 ho1 ht1 hb1 g2 u2 hb12 h12 ebt ga gsW HSTP HWX HOW HSW HSMW HWW
  by_cases h1 : SE = 0
  case neg =>
   have t1 : (SE == 0) = false := by simpa using h1
   have hnx2 : Hid (nx.map (·.1) = xCk c (seeP p) ((rows.map (·.1)).take (i + 1)) x) := by
    unfold Hid
    rw [HNS.out, t1]
    simp
   clear HNS HST2 h1
   go_wp2
   go_roundw
   case rel => exact ⟨i + 1, nx, by simp, hii, HWX2, HOW2, hnx2, HSW2, by omega⟩
   case measure => simp [intOf]; omega
  case pos =>
  subst h1
  have hnx2 : Hid ((nx ++ [(SS, q1)]).map (·.1) = xCk c (seeP p) ((rows.map (·.1)).take (i + 1)) x) := by
   unfold Hid
   rw [HNS.out, (HST2.out rfl).1]
   simp
  have HSO := qzL (HST2.out rfl).2
  have HOa := qzL (HOW2.out.alloc (.cells (eQ (SS, q1)).toArray 47))
  have lW := HWX2.out.size
  have hnl : nx.length ≤ 1000000 := by omega
  clear HNS HST2
  go_wp2_with (first | (refine xAf (by rfl) 47 _ rfl bt rfl 47 _ gt ⟨_, Tryz.underlying47⟩ (by kernel_rfl) ?_; simp only [Act.put, qzG, qzH, qzI]) | (at_builtin; go_loud (refine xBh _ rfl (.tmp 63) (.tmp 65) _ rfl X.heap.size 47 ri _ 4 80 Tryz.underlying31 hi1 hz10 hz11 hz12 rfl (by omega) (by omega) eQ xCh xD5 _ nx rfl HOa.out hnl w2.heap.size 1 (SS, q1) rfl (Blk.new _ _ _) (by simp; omega) ?_); intro v4 w4 hO4 hb4 hg4; have hB4 := qzL ((HWX2.out.alloc HWX2.out.size (.cells (eQ (SS, q1)).toArray 47)).trans hb4); have hO5 := qzL hO4; have hS5 : Hid (∀ y ∈ nx ++ [(SS, q1)], Stq X.heap.size w4 y.1 y.2 ∧ SOk c y.1) := (fun y hy => by have up : ∀ s r, Stq X.heap.size w2 s r → Stq X.heap.size w4 s r := (fun s r k => (k.then_ (wa1 _ _)).grown HOa.out hg4 (by decide)); exact (List.mem_append.1 hy).elim (fun h => ⟨up _ _ (HSW2.out y h).1, (HSW2.out y h).2⟩) fun h => by rw [List.mem_singleton.1 h]; exact ⟨up _ _ hq1.out, HSO.out⟩); clear hO4 hb4 hg4))
  go_roundw
  case rel => exact ⟨i + 1, nx ++ [(SS, q1)], by simp, hii, hB4, hO5, hnx2, hS5, by simp; omega⟩
  case measure => simp [intOf]; omega
def xJc (c : Con) (L : List Sta) : Prop := (∀ s ∈ L, SOk c s) ∧ L.length ≤ 300
theorem xGv {c : Con} {p : See} {l : List Sta} (h : ∀ s ∈ l, SOk c s) : xJc c (clE c p l).2 := by
 unfold clE
 cases hq : closF c p l with
 | none => exact ⟨(fun s hs => by cases hs), (by simp)⟩
 | some R => exact ⟨xGu (xC5 hq).1 (fun t => SOk c t) h fun t ht _ x _ hE => xCo ht hE, (xC5 hq).2⟩
theorem nextL_ok {c : Con} {p : See} {R : List Sta} {x : Int} (h : ∀ s ∈ R, SOk c s) : ∀ s ∈ xCk c p R x, SOk c s := fun s hs => by
 unfold xCk at hs
 obtain ⟨t, ht, rfl⟩ := List.mem_map.1 hs
 obtain ⟨h1, h2⟩ := List.mem_filter.1 ht
 simp only [Bool.and_eq_true, beq_iff_eq] at h2
 exact xCo (h t h1) h2.2
theorem xF6 {c : Con} {p : See} {R : List Sta} {x : Int} (h : xJc c R) : xJc c (afterF c p R x).2 := by
 unfold afterF
 split
 ·exact ⟨(fun s hs => by cases hs), (by simp)⟩
 split
 ·exact ⟨(fun s hs => by cases hs), (by simp)⟩
 ·exact xGv (nextL_ok h.1)
theorem after_zero {c : Con} {p : See} {R : List Sta} {x : Int} (h : (afterF c p R x).1 ≠ 0) : (afterF c p R x).2 = [] := by
 unfold afterF at h ⊢
 split
 ·rfl
 split
 ·rfl
 ·next h1 h2 =>
  rw [if_neg h1, if_neg h2] at h
  rcases xEo (c := c) p (xCk c p R x) with ⟨e, _⟩ | ⟨R', e, _⟩
  ·rw [e]
  ·rw [e] at h; exact absurd rfl h
theorem Far.grow {P : Nat → Prop} {W0 W : World} {x : SQ} (h : Far P W0 x) (hb : Below W0.heap.size W0 W) : Far (fun b => P b ∨ W0.heap.size ≤ b) W x := fun W' hk =>
 h W' ⟨fun B hB hs => (hb.mono hs).trans (hk.b B (fun b h1 => h1.elim (hB b) fun e => Nat.le_trans hs e) (Nat.le_trans hs hb.size)), fun b h1 h2 => (hk.k b (Nat.lt_of_lt_of_le h1 hb.size) (fun e => e.elim h2 fun e => by omega)).trans (hb.block b h1)⟩
theorem Own.updT_ {α : Type} {w w' : World} {B g : Nat} {T t : TypeId} {size : Nat} {enc : α → List Value} {v : Value} {xs : List α} {cs : Array Value} (h : Own w B T size enc v xs) (u : Upd w w' g) (hb : Blk w g t cs) (ht : T ≠ t) : Own w' B T size enc v xs := by
 refine h.upd u fun k hk e => ?_
 subst e
 rcases h.2 with ⟨e, _⟩ | ⟨g', cap, cur, e, _, hh, _⟩
 ·rw [e] at hk; cases hk
 ·rw [e] at hk
  obtain rfl : g' = k := Option.some.inj hk
  have h9 := hb.symm.trans hh
  injection h9 with h9
  injection h9 with _ h9
  exact ht h9.symm
theorem xIe (c : Con) (p : See) (x : Int) (l : List Int) (R : List Sta) : watchL c p (x :: l) (0, R) = watchL c p l (afterF c p R x) := by rw [watchL, if_pos rfl]
structure BJ (w : World) (c : Con) (m : Cm) (p : Int) (ba br bw Z : Nat) (A : Option Addr) (cap : Nat) (rows : List SQ) (W : World) : Prop where
 ga : Blk W ba 27 (coA c m)
 gr : Blk W br 39 zB
 gw : Blk W bw 39 (blA p A rows.length cap)
 o : Own W w.heap.size 47 4 eQ (.slice A rows.length cap) rows
 far : ∀ x ∈ rows, Far (fun b => b < Z ∨ b = bw) W x
 b : Below w.heap.size w W
 l : w.heap.size ≤ ba ∧ ba < br ∧ br < Z ∧ Z ≤ bw ∧ w.heap.size ≤ Z
 good : xJc c (rows.map (·.1))
theorem xF0 (c : Con) (m : Cm) (p : Int) (l : List Int) (A : Option Addr) (cap : Nat) (w : World) (hT : Lx w) (hC : Cont w c m) (hc : c.ok = true) (hp : 0 ≤ p ∧ p < c.par) (hA : Seg w w.heap.size 1 eI A l) (hl : ∀ x ∈ l, x = -1 ∨ (0 ≤ x ∧ x < (c.ac.length : Int))) (nl : l.length ≤ 4000) :
  Calls Tryz.prog 11 #[.agg (coA c m), .int .i64 p, .slice A l.length cap] w fun e w' => BRet w p (watchF c (seeP p) l) e w' := by
 have HT := qzL hT
 have HC := qzL hC
 have HA := qzL hA
 have HL := qzL hl
 obtain ⟨B, hB⟩ : ∃ B, watchF c (seeP p) l = B := ⟨_, rfl⟩
 have HB : Hid (B = watchL c (seeP p) l (clE c (seeP p) [c.first])) := hB.symm
 rw [hB]
 have t4 : decide ((4000 : Int) < (l.length : Int)) = false := qzN (by omega)
 have HGF := qzL (xGv (p := seeP p) (l := [c.first]) fun s hs => by rw [List.mem_singleton.1 hs]; exact xDe hc)
 obtain ⟨B1, hB1⟩ : ∃ B, clE c (seeP p) [c.first] = B := ⟨_, rfl⟩
 have hcs : Hid (B1 = (3, []) ∨ ∃ R, B1 = (0, R)) := by
  unfold Hid
  rcases xEo (c := c) (seeP p) [c.first] with ⟨h, _⟩ | ⟨R, h, _⟩
  ·exact .inl (hB1.symm.trans h)
  ·exact .inr ⟨R, hB1.symm.trans h⟩
 have HST : Hid (∀ W, Below w.heap.size w W → Calls Tryz.prog 29 #[.agg (coA c m), .int .i64 p] W fun e w' => BRet W p B1 e w') := fun W hb => by
  have h := mstart_any c m p W (xBx hT hb) (hC.then_ hb) hc hp
  rw [hB1] at h
  exact h
 rw [hB1] at HB HGF
 clear hT hC hA hl hB hB1
 go_enter Tryz.func11, Tryz.ntmps11
 go_upto_region 1 with (fail)
 refine xAi ?_
 intro X hX
 have ga : Blk X w.heap.size 27 (coA c m) := by rw [hX]; exact (Blk.new _ _ _).alloc _
 have gr : Blk X (w.heap.size + 1) 39 zB := by rw [hX]; exact xA0 (by simp)
 have HBX : Hid (Below w.heap.size w X) := by unfold Hid; rw [hX]; (repeat first | exact Below.refl _ _ | refine xAc ?_ _)
 obtain ⟨br, ebr⟩ : ∃ b, w.heap.size + 1 = b := ⟨_, rfl⟩
 obtain ⟨ba, eba⟩ : ∃ b, w.heap.size = b := ⟨_, rfl⟩
 have lba : Hid (w.heap.size ≤ ba ∧ ba < br) := by unfold Hid; omega
 rw [ebr] at gr ⊢
 rw [eba] at ga ⊢
 clear hX ebr eba
 have HSX := qzL (HST.out X HBX.out)
 rcases hcs.out with hB | ⟨R, hB⟩
 ·subst hB
  clear hcs
  go_upto_region 2 with (first | (refine rowC (by rfl) _ rfl ba rfl ga ?_; simp only [Act.put, qzG, qzH, qzI]) | (go_at_call 29; (with_reducible refine HSX.out.mono ?_); rintro e w1 ⟨⟨v, rows, rfl, hO, hrw, hst⟩, hb1⟩; obtain ⟨A9, c9, rfl, _, _⟩ := hO.seg xCh) | (refine xAh rfl 39 _ _ rfl w1.heap.size 39 [] zB.toList [] [.int .i64 0, .slice A9 rows.length c9] rfl rfl (Blk.new _ _ _) rfl (by kernel_rfl) (by simp [Value.oneCell']) ?_; intro w2 g2 u2))
  have hb12 : Below w1.heap.size w1 w2 := (wa1 _ _).trans (u2.b _ (Nat.le_refl _))
  have grW := gr.then_ (xAa hb1 hb12)
  have HBW := qzL (xAa HBX.out (xAa hb1 hb12))
  have HR : Hid (B = (3, [])) := by unfold Hid; rw [HB.out, xDn _ _ (by decide)]
  clear ga gr HSX HST hO hrw hst hb1 g2 u2 hb12 HB
  go_wp2_with (refine xAh rfl 39 _ _ rfl br 39 [] zB.toList [] zB.toList rfl rfl grW rfl (by kernel_rfl) (by simp [Value.oneCell']) ?_; intro w9 g9 u9)
  refine bodyPost_ret (xBp rfl rfl g9 ⟨_, Tryz.underlying39⟩ (by kernel_rfl)) rfl ?_
  rw [HR.out]
  exact BRet.none (by decide) (HBW.out.trans (u9.b _ (by have := lba.out; omega)))
 subst hB
 clear hcs
 go_upto_region 2 with (first | (refine rowC (by rfl) _ rfl ba rfl ga ?_; simp only [Act.put, qzG, qzH, qzI]) | (go_at_call 29; (with_reducible refine HSX.out.mono ?_); rintro e w1 ⟨⟨v, rows, rfl, hO, hrw, hst⟩, hb1⟩; obtain ⟨A9, c9, rfl, _, _⟩ := hO.seg xCh) | (refine xAh rfl 39 _ _ rfl w1.heap.size 39 [] zB.toList [] [.int .i64 p, .slice A9 rows.length c9] rfl rfl (Blk.new _ _ _) rfl (by kernel_rfl) (by simp [Value.oneCell']) ?_; intro w2 g2 u2))
 have hJ0 : Hid (BJ w c m p ba br w1.heap.size X.heap.size A9 c9 rows w2) := by
  have hb12 : Below w1.heap.size w1 w2 := (wa1 _ _).trans (u2.b _ (Nat.le_refl _))
  have h12 := xAa hb1 hb12
  refine ⟨ga.then_ h12, gr.then_ h12, g2, (hO.below hb12).more HBX.out.size, fun x hx => ((hst x hx).grow hb12).sub fun b hb => ?_, xAa HBX.out h12, ⟨lba.out.1, lba.out.2, gr.lt, hb1.size, HBX.out.size⟩, by rw [hrw]; exact HGF.out⟩
  rcases hb with hb | hb
  ·exact .inl hb
  ·exact .inr (by omega)
 have HB0 : Hid (B = watchL c (seeP p) l (0, rows.map (·.1))) := by unfold Hid; rw [HB.out, hrw]
 obtain ⟨bw, ebw⟩ : ∃ b, w1.heap.size = b := ⟨_, rfl⟩
 rw [ebw] at hJ0 ⊢
 clear ga gr HSX HST hO hrw hst hb1 g2 u2 HB HGF ebw
 go_upto_region 7 with (fail)
 go_loopw [9, 28] (fun e y WR => ∃ (i : Nat) (A : Option Addr) (cap : Nat) (rows : List SQ), e = .int .i64 0 ∧ y = .int .i64 i ∧ i ≤ l.length ∧ Hid (BJ w c m p ba br bw X.heap.size A cap rows WR) ∧ Hid (B = watchL c (seeP p) (l.drop i) (0, rows.map (·.1)))) (fun _ y _ => 2000000 - (intOf y).toNat)
 case atStart => exact ⟨0, A9, c9, rows, rfl, rfl, by omega, hJ0, HB0⟩
 case round =>
  clear hJ0 HB0
  obtain ⟨i, A8, c8, rw8, rfl, rfl, hi', hJ, hB⟩ := hrel
  have gwW := hJ.out.gw
  have gaW := hJ.out.ga
  have grW := hJ.out.gr
  by_cases hlt : i < l.length
  case neg =>
   have tn : decide ((i : Int) < (l.length : Int)) = false := qzN (by omega)
   have hBe : Hid (B = (0, rw8.map (·.1))) := by unfold Hid; rw [hB.out, List.drop_of_length_le (by omega)]; rfl
   clear hB
   go_wp2_with (first | (refine xAf (by rfl) 39 _ rfl bw rfl 39 _ gwW ⟨_, Tryz.underlying39⟩ (by kernel_rfl) ?_; simp only [Act.put, qzG, qzH, qzI]) | (refine xAh rfl 39 _ _ rfl br 39 [] zB.toList [] [.int .i64 p, .slice A8 rw8.length c8] rfl rfl grW rfl (by kernel_rfl) (by simp [Value.oneCell']) ?_; intro w9 g9 u9))
   refine bodyPost_ret (xBp rfl rfl g9 ⟨_, Tryz.underlying39⟩ (by kernel_rfl)) rfl ?_
   rw [hBe.out]
   exact ⟨⟨_, rw8, rfl, hJ.out.o.updT_ u9 grW (by decide), rfl, fun x hx => ((hJ.out.far x hx).kept (Kept.of_upd u9 (.inl hJ.out.l.2.2.1))).sub fun b hb => .inl (by have := hJ.out.l; omega)⟩, hJ.out.b.trans (u9.b _ (by have := hJ.out.l; omega))⟩
  case pos =>
  have tn : decide ((i : Int) < (l.length : Int)) = true := qzO (by omega)
  obtain ⟨x, hx⟩ : ∃ k, l[i]? = some k := ⟨_, qzJ hlt⟩
  obtain ⟨b0, o0, eA0, hb0, hc0⟩ := xAv HA.out hx
  have x0 : wr.cell? ⟨b0, o0 + i, none⟩ = some (.int .i64 x) := (hJ.out.b.cell (p := ⟨b0, o0 + i, none⟩) hb0).trans (by simpa using hc0 0 _ rfl)
  have hix := fun W => xAp (t := 22) (size := 1) (cap := cap) (len := l.length) eA0 hlt (by kernel_rfl) (fun W => by kernel_rfl) W
  simp only [Nat.mul_one] at hix
  have hd : l.drop i = x :: l.drop (i + 1) := by
   obtain ⟨hi, e⟩ := qzM hx
   rw [List.drop_eq_getElem_cons hi, e]
  obtain ⟨B2, hB2⟩ : ∃ B, afterF c (seeP p) (rw8.map (·.1)) x = B := ⟨_, rfl⟩
  have hBn : Hid (B = watchL c (seeP p) (l.drop (i + 1)) B2) := by unfold Hid; rw [hB.out, hd, xIe, hB2]
  have hz0 : B2.1 ≠ 0 → B2.2 = [] := by rw [← hB2]; exact after_zero
  have HZ0 := qzL hz0
  have hgd := xF6 (p := seeP p) (x := x) hJ.out.good
  have HAF := mafter_any c m p rw8 A8 c8 x wr (xBx HT.out hJ.out.b) (HC.out.then_ hJ.out.b) hc hp (hJ.out.o.segA xCh) (fun y hy => (hJ.out.far y hy).now) (fun y hy => hJ.out.good.1 _ (List.mem_map_of_mem hy)) (by have := hJ.out.good.2; simpa using this) (HL.out x (qzK hx))
  rw [hB2] at HAF hgd
  have HAF := qzL HAF
  have HGD := qzL hgd
  have hii : i + 1 ≤ l.length := hlt
  have lwr : Hid (br < wr.heap.size ∧ bw < wr.heap.size ∧ X.heap.size ≤ wr.heap.size) := ⟨grW.lt, gwW.lt, by have := gwW.lt; have := hJ.out.l; omega⟩
  clear hx hc0 eA0 hb0 hd hB2 hgd hB hz0
  go_upto_region 10 with (first | (refine rowC (by rfl) _ rfl ba rfl gaW ?_; simp only [Act.put, qzG, qzH, qzI]) | (refine xAf (by rfl) 39 _ rfl bw rfl 39 _ gwW ⟨_, Tryz.underlying39⟩ (by kernel_rfl) ?_; simp only [Act.put, qzG, qzH, qzI]) | (go_at_call 30; (with_reducible refine HAF.out.mono ?_); rintro e w1 ⟨⟨v, rows2, rfl, hO, hrw, hst⟩, hb1⟩; obtain ⟨A7, c7, rfl, _, _⟩ := hO.seg xCh) | (refine xAh rfl 39 _ _ rfl bw 39 [] [.int .i64 p, .slice A8 rw8.length c8] [] [.int .i64 (if B2.1 = 0 then p else 0), .slice A7 rows2.length c7] rfl rfl (gwW.then_ hb1) rfl (by kernel_rfl) (by simp [Value.oneCell']) ?_; intro w2 g2 u2))
  by_cases h1 : B2.1 = 0
  case neg =>
   have t1 : (B2.1 != 0) = true := by simpa using h1
   have hBe : Hid (B = B2) := by unfold Hid; rw [hBn.out, xDn _ _ h1]
   have gr2 := (grW.then_ hb1).upd u2 (by have := hJ.out.l; omega)
   have HB2 := qzL ((xAa hJ.out.b hb1).trans (u2.b _ (by have := hJ.out.l; omega)))
   have hL0 : Hid (B2.2 = []) := HZ0.out h1
   have H1 := qzL h1
   clear hO hrw hst hb1 g2 u2 h1 hBn HGD
   go_wp2_with (refine xAh rfl 39 _ _ rfl br 39 [] zB.toList [] zB.toList rfl rfl gr2 rfl (by kernel_rfl) (by simp [Value.oneCell']) ?_; intro w9 g9 u9)
   refine bodyPost_ret (xBp rfl rfl g9 ⟨_, Tryz.underlying39⟩ (by kernel_rfl)) rfl ?_
   rw [hBe.out]
   have := BRet.none (p := p) H1.out (HB2.out.trans (u9.b _ (by have := lba.out; omega)))
   rw [show B2 = (B2.1, []) from by rw [← hL0.out]]
   exact this
  case pos =>
  have hJ2 : Hid (BJ w c m p ba br bw X.heap.size A7 c7 rows2 w2) := by
   have hl := hJ.out.l
   have hlw := lwr.out
   refine ⟨(gaW.then_ hb1).upd u2 (by omega), (grW.then_ hb1).upd u2 (by omega), ?_, (hO.updT_ u2 (gwW.then_ hb1) (by decide)).more (by omega), fun x hx => ((hst x hx).kept (Kept.of_upd u2 (by omega))).sub fun b hb => by omega, (xAa hJ.out.b hb1).trans (u2.b _ (by omega)), hl, by rw [hrw]; exact HGD.out⟩
   rw [if_pos h1] at g2
   exact g2
  have hBn2 : Hid (B = watchL c (seeP p) (l.drop (i + 1)) (0, rows2.map (·.1))) := by unfold Hid; rw [hBn.out, hrw, ← h1]
  have t1 : (B2.1 != 0) = false := by simpa using h1
  have H1 := qzL h1
  clear hO hrw hst hb1 g2 u2 h1 hBn HGD hJ gwW gaW grW x0 hix
  go_wp2
  go_roundw
  case rel => exact ⟨i + 1, A7, c7, rows2, by rw [H1.out], by simp, hii, hJ2, hBn2⟩
  case measure => simp [intOf]; omega
theorem YieldAt.monoP {F : Fence} {m : Nat} {P : Program} {l : Nat} {args : Array Value} {W : World} {R R' : Ending → World → Prop} (h : YieldAt F m P l args W R) (hr : ∀ e w', R e w' → R' e w') : YieldAt F m P l args W R' := by
 obtain ⟨fn, tmps, asg, bd, hy, hR⟩ := h
 exact ⟨fn, tmps, asg, bd, hy, hR.mono hr⟩
theorem prun_range {ps : Array Tmp} {assign body : Code} {Q : Exit → Act → World → Prop} {a : Act} {Z w : World} {g : Operand} {c : Con} {m : Cm} {l : List Int} {A : Option Addr} {cap ba bl : Nat} (p0 p1 : Tmp)
  (hg : a.eval g = .func (.func 74) #[] #[.pointer (some ⟨ba, 0, none⟩), .pointer (some ⟨bl, 0, none⟩)]) (hps : ps = #[p0, p1])
  (hE : c.runE l = 0) (hC : Cont w c m) (hA : Seg w w.heap.size 1 eI A l) (p : World → Nat → Prop) (J : Nat → World → Prop) (hpa : ∀ i W x, J i W → p W x → x < W.heap.size ∧ x ≠ Z.heap.size ∧ x ≠ Z.heap.size + 1) (hpb : ∀ i W W' x, J i W → Kept W W' (fun x => Z.heap.size ≤ x ∧ ¬ p W x) → p W' x → p W x) (hJ : ∀ i W W', J i W → Kept W W' (fun x => Z.heap.size ≤ x ∧ ¬ p W x) → J i W')
  (hb : ∀ i W, J i W → Blk W ba 27 (coA c m) ∧ Blk W bl 22 #[.slice A l.length cap]) (he : ∀ i W, J i W → Below w.heap.size w W) (hw : w.heap.size ≤ Z.heap.size) (h0 : J 0 Z)
  (hbody : ∀ (lp i : Nat) (W : World) (x : Int) (q : Qm), l[i]? = some x → J i W → Z.heap.size + 1 < W.heap.size → Stq (Z.heap.size + 2) W (stAt c l i) q →
   ∃ (Wa : World) (a₁ : Act), Below W.heap.size W Wa ∧
    (∀ K : Act → World → Prop, K a₁ Wa → assign.wpIn (Fence.wide.inRound lp) (6 - 1 - 1) Tryz.prog (Exit.then K (fun _ _ _ => False)) { tmps := (a.tmps.setIfInBounds p0 (.agg (momA x (stAt c l i) q))).setIfInBounds p1 (.int .i64 0), defers := [] } W) ∧
    ∀ W2, Upd Wa W2 (Z.heap.size + 1) → J i W2 → body.wpIn (Fence.wide.inRound lp) (6 - 1 - 1) Tryz.prog (xFf (p W2) W2 (fun W3 => J (i + 1) W3 ∧ ∀ x, p W3 x → p W2 x ∨ W2.heap.size ≤ x)) a₁ W2)
  (hdone : ∀ (D : Nat) (W : World), Z.heap.size ≤ D → J l.length W → W.heap[D]? = some (.deferred (some [])) → Q .normal { a with defers := { target := .collected D, args := #[] } :: a.defers } W) :
  (Code.rangeFunc g ps assign body).wp Tryz.prog Q a Z := by
 subst hps
 refine (wpIn_wide (n := 6)).1 ?_
 refine xDt rfl (by omega) hg trivial (enters_of Tryz.func74 (by kernel_rfl) rfl) ?_
 rintro lp Rec RecX rfl hRec hRecX hlt hround W1 hR1 hb1 hs1
 have hpj : PJ w c m l A cap ba bl (Z.heap.size + 2) (fun W x => p W x ∨ x = Z.heap.size + 1) (fun i W => Rec W ∧ J i W) :=
  ⟨fun i W h => by have := hlt W h.1; omega, fun i W W' h hb' => ⟨hRec W W' h.1 (hb'.b _ (fun x hx => hx.1) (by have := hlt W h.1; omega)), hJ i W W' h.2 (hb'.weak fun x hx => ⟨by omega, fun hp => hx.2 (.inl hp)⟩)⟩, fun i W h => hb i W h.2, fun i W h => he i W h.2, by omega, hC, hA, fun i W x h hx => by rcases hx with hx | hx; exact (hpa i W x h.2 hx).1; have := hlt W h.1; omega, fun i W W' x h hb' hx => hx.imp (hpb i W W' x h.2 (hb'.weak fun x hx => ⟨by omega, fun hp => hx.2 (.inl hp)⟩)) id⟩
 refine (prun1_in (6 - 1) (Z.heap.size + 1) (Z.heap.size + 2) (by omega) w c m l A cap ba bl hE (fun W x => p W x ∨ x = Z.heap.size + 1) (fun i W => Rec W ∧ J i W) hpj ?_ W1 ⟨hR1, hJ 0 Z W1 h0 (Kept.of_below hb1)⟩).mono ?_
 ·intro i W x q hx hJi hq
  have hl := hlt W hJi.1
  obtain ⟨Wa, a1, hba, has, hbd⟩ := hbody (Z.heap.size + 1) i W x q hx hJi.2 hl hq
  refine YieldAt.monoP (hround #[.agg (momA x (stAt c l i) q), .int .i64 0] W Wa a1 (fun W' => J (i + 1) W' ∧ Kept W W' (fun x => p W x ∨ x = Z.heap.size + 1) ∧ ∀ x, p W' x → p W x ∨ W.heap.size ≤ x) (fun _ _ => False) hJi.1 hba (by simp) (fun K hK => ?_) (fun W2 u => ?_)) ?_
  ·simp only [List.zip_toArray, List.zip_cons_cons, List.zip_nil_right, List.size_toArray, List.length_cons, List.length_nil, List.foldl_toArray', List.foldl_cons, List.foldl_nil]
   exact has K hK
  ·have hla : Z.heap.size + 1 < Wa.heap.size := Nat.lt_of_lt_of_le hl hba.size
   have hb2 : Kept W W2 (fun x => Z.heap.size ≤ x ∧ ¬ p W x) := (Kept.of_below hba).trans (Kept.of_upd u ⟨by omega, fun h => (hpa i W _ hJi.2 h).2.2 rfl⟩)
   have k2 : Kept W W2 (fun x => p W x ∨ x = Z.heap.size + 1) := (Kept.of_below hba).trans (Kept.of_upd u (.inr rfl))
   refine wpIn_mono (hbd W2 u (hJ _ _ _ hJi.2 hb2)) ?_
   rintro e a3 W3 hq
   cases e with
   | normal =>
    obtain ⟨hk3, hi3, hn3⟩ := hq
    have hj2 := hJ _ _ _ hJi.2 hb2
    have p2 : ∀ x, p W2 x → p W x := fun x hx => hpb i W W2 x hJi.2 hb2 hx
    have s2 : W.heap.size ≤ W2.heap.size := by rw [u.s]; exact hba.size
    refine ⟨hk3.k _ (by rw [u.s]; exact hla) (fun hx => (hpa i W2 _ hj2 hx).2.2 rfl), hk3.k _ (by rw [u.s]; omega) (fun hx => (hpa i W2 _ hj2 hx).2.1 rfl), fun W4 u4 => ⟨hJ _ _ _ hi3 (Kept.of_upd u4 ⟨by omega, fun h => (hpa _ W3 _ hi3 h).2.2 rfl⟩), (k2.trans (hk3.weak fun x hx => .inl (p2 x hx))).trans (Kept.of_upd u4 (.inr rfl)), fun x hx => ?_⟩⟩
    rcases hn3 x (hpb _ W3 W4 x hi3 (Kept.of_upd u4 ⟨by omega, fun h => (hpa _ W3 _ hi3 h).2.2 rfl⟩) hx) with h | h
    ·exact .inl (p2 x h)
    ·exact .inr (by omega)
   | ret => exact hq.elim
   | exit id => exact hq.elim
   | goto t => exact hq.elim
   | panic ch => exact hq.elim
   | outgrown => exact hq.elim
  ·rintro e W' (⟨rfl, h1, h2⟩ | ⟨rfl, cd, h1, h2⟩)
   ·exact ⟨rfl, ⟨h1, h2.1⟩, h2.2.1, fun x hx => by rcases hx with hx | hx; exact (h2.2.2 x hx).imp .inl id; exact .inl (.inr hx)⟩
   ·exact h2.elim
 ·rintro e W' ⟨hv, h⟩
  exact ⟨hv, .inl ⟨h.1, fun W4 u hK => hdone _ W4 (Nat.le_refl _) (hJ _ _ _ h.2 (Kept.of_upd u ⟨by omega, fun hp => (hpa _ W' _ h.2 hp).2.2 rfl⟩)) hK⟩⟩
def noP (c : Con) (p : Int) : Bool := decide (p < 0) || decide (c.par ≤ p)
theorem xIn (c : Con) (m : Cm) (bc : Nat) (p : Int) (w : World) (hc : Blk w bc 27 (coA c m)) : Calls Tryz.prog 23 #[.int .i64 p, .pointer (some ⟨bc, 0, none⟩)] w fun e w' => e = .returned (.bool (noP c p)) ∧ Below w.heap.size w w' := by
 obtain ⟨R, hR⟩ : ∃ r, noP c p = r := ⟨_, rfl⟩
 rw [hR]
 have HR : Hid (R = (decide (p < 0) || decide (c.par ≤ p))) := hR.symm
 have k0 : w.cell? ⟨bc, 0, none⟩ = some (.int .i64 c.par) := hc.cell 0
 clear hR hc
 go_enter Tryz.func23, Tryz.ntmps23
 cases t1 : decide (p < 0) with
 | true =>
  have hf : Hid (R = true) := by unfold Hid; rw [HR.out, t1]; rfl
  go_wp2
  go_ret
  exact ⟨xAb hf.out.symm, Below.refl _ _⟩
 | false =>
  have hf : Hid (R = decide (c.par ≤ p)) := by unfold Hid; rw [HR.out, t1]; rfl
  clear HR
  go_wp2
  go_ret
  exact ⟨xAb hf.out.symm, Below.refl _ _⟩
theorem seer_any (c : Con) (m : Cm) (s : Sta) (q : Qm) (n : Nat) (a : Atc) (bc bs bn : Nat) (p : Int) (w0 w : World) (hC : Cont w0 c m) (hS : Stm w0 s q) (hw : Below w0.heap.size w0 w) (ha : c.ac[n]? = some a) (hr : xJb a s) (gc : Blk w bc 27 (coA c m)) (gs : Blk w bs 47 (stA s q)) (gn : Blk w bn 3 #[.int .i64 (n : Nat)]) :
  Calls Tryz.prog 27 #[.int .i64 p, .pointer (some ⟨bc, 0, none⟩), .pointer (some ⟨bs, 0, none⟩), .pointer (some ⟨bn, 0, none⟩)] w fun e w' => e = .returned (.bool (xBo s.hol p a)) ∧ Below w.heap.size w w' := by
 have HP := qzL (xHh c m s q p n a w (hC.then_ hw) (hS.then_ hw) ha hr)
 obtain ⟨R, hR⟩ : ∃ r, xBo s.hol p a = r := ⟨_, rfl⟩
 rw [hR] at HP ⊢
 have n0 : w.cell? ⟨bn, 0, none⟩ = some (.int .i64 (n : Nat)) := gn.cell 0
 clear hC hS hw ha hr gn hR
 go_enter Tryz.func27, Tryz.ntmps27
 go_wp2_with (first | (refine xAf (by rfl) 27 _ rfl bc rfl 27 _ gc ⟨_, Tryz.underlying27⟩ (by kernel_rfl) ?_; simp only [Act.put, qzG, qzH, qzI]) | (refine xAf (by rfl) 47 _ rfl bs rfl 47 _ gs ⟨_, Tryz.underlying47⟩ (by kernel_rfl) ?_; simp only [Act.put, qzG, qzH, qzI]) | (go_at_call 28; (with_reducible refine HP.out.mono ?_); rintro e w1 ⟨rfl, hb1⟩))
 go_ret
 exact ⟨rfl, hb1⟩
theorem strange_ix (c : Con) (m : Cm) (bc : Nat) (l : List Int) (A : Option Addr) (cap : Nat) (w : World) (hA : Seg w w.heap.size 1 eI A l) (nl : l.length ≤ 1000000) (hc : Blk w bc 27 (coA c m)) :
  Calls Tryz.prog 50 #[.slice A l.length cap, .func (.func 23) #[] #[.pointer (some ⟨bc, 0, none⟩)]] w fun e w' => (∃ r : Int, e = .returned (.int .i64 r) ∧ decide (0 ≤ r) = l.any (noP c)) ∧ Below w.heap.size w w' := by
 have HA := qzL hA
 have HF : Hid (∀ W x, Below w.heap.size w W → x ∈ l → Calls Tryz.prog 23 #[.int .i64 x, .pointer (some ⟨bc, 0, none⟩)] W fun e w' => e = .returned (.bool ((noP c) x)) ∧ Below W.heap.size W w') := fun W x hb hx => xIn c m bc x W (hc.then_ hb)
 clear hA hc
 go_enter Tryz.func50, Tryz.ntmps50
 go_upto_region 2 with (fail)
 go_loopw [8] (fun y WR => ∃ (i : Nat), i ≤ l.length ∧ y = .int .i64 i ∧ Hid (∀ j x, j < i → l[j]? = some x → (noP c) x = false) ∧ Hid (Below w.heap.size w WR)) (fun y _ => 2000000 - (intOf y).toNat)
 case atStart => exact ⟨0, by omega, rfl, (fun j k hj => by omega), Below.refl _ _⟩
 case round =>
  obtain ⟨i, hi', rfl, hpre, hB⟩ := hrel
  by_cases hlt : i < l.length
  ·have tn : decide ((i : Int) < (l.length : Int)) = true := qzO (by omega)
   obtain ⟨x, hx⟩ : ∃ k, l[i]? = some k := ⟨_, qzJ hlt⟩
   obtain ⟨b0, o0, eA0, hb0, hc0⟩ := xAv HA.out hx
   have x0 : wr.cell? ⟨b0, o0 + i, none⟩ = some (.int .i64 x) := (hB.out.cell (p := ⟨b0, o0 + i, none⟩) hb0).trans (by simpa using hc0 0 _ rfl)
   have hix := fun W => xAp (t := 22) (size := 1) (cap := cap) (len := l.length) eA0 hlt (by kernel_rfl) (fun W => by kernel_rfl) W
   simp only [Nat.mul_one] at hix
   obtain ⟨bb, hbb⟩ : ∃ b, (noP c) x = b := ⟨_, rfl⟩
   have HC : Hid (Calls Tryz.prog 23 #[.int .i64 x, .pointer (some ⟨bc, 0, none⟩)] wr fun e w' => e = .returned (.bool bb) ∧ Below wr.heap.size wr w') := by rw [← hbb]; exact HF.out wr x hB.out (qzK hx)
   have HX := qzL hx
   have HBB := qzL hbb
   clear hc0 hx eA0 hbb
   cases bb with
   | true =>
    have hf : Hid (decide ((0 : Int) ≤ (i : Int)) = l.any (noP c)) := by unfold Hid; rw [qzO (by omega)]; exact (List.any_eq_true.2 ⟨x, qzK HX.out, HBB.out⟩).symm
    clear hpre
    go_wp2_with (go_at_call 23; (with_reducible refine HC.out.mono ?_); rintro e w1 ⟨rfl, hb1⟩)
    go_ret
    exact ⟨⟨_, rfl, hf.out⟩, xAa hB.out hb1⟩
   | false =>
    have hp : Hid (∀ j y, j < i + 1 → l[j]? = some y → (noP c) y = false) := fun j y hj hy => by
     by_cases e : j = i
     ·rw [e, HX.out] at hy; cases hy; exact HBB.out
     ·exact hpre.out j y (by omega) hy
    have hii : i + 1 ≤ l.length := hlt
    clear hpre
    go_wp2_with (go_at_call 23; (with_reducible refine HC.out.mono ?_); rintro e w1 ⟨rfl, hb1⟩; have HB1 := qzL hb1; clear hb1)
    go_roundw
    case rel => exact ⟨i + 1, hii, by simp, hp, xAa hB.out HB1.out⟩
    case measure => simp [intOf]; omega
  ·have tn : decide ((i : Int) < (l.length : Int)) = false := qzN (by omega)
   have hf : Hid (decide ((0 : Int) ≤ -1) = l.any (noP c)) := by
    unfold Hid
    rw [qzN (by omega)]
    refine (List.any_eq_false.2 fun x hx => ?_).symm
    obtain ⟨j, hj, e⟩ := List.getElem_of_mem hx
    intro hh
    exact absurd ((hpre.out j x (by omega) (by rw [← e]; exact qzJ hj)).symm.trans hh) (by decide)
   clear hpre
   go_wp2
   go_ret
   exact ⟨⟨_, rfl, hf.out⟩, hB.out⟩
theorem xIm (c : Con) (m : Cm) (bc : Nat) (l : List Int) (A : Option Addr) (cap : Nat) (w : World) (hA : Seg w w.heap.size 1 eI A l) (nl : l.length ≤ 1000000) (hc : Blk w bc 27 (coA c m)) :
  Calls Tryz.prog 24 #[.slice A l.length cap, .func (.func 23) #[] #[.pointer (some ⟨bc, 0, none⟩)]] w fun e w' => e = .returned (.bool (l.any (noP c))) ∧ Below w.heap.size w w' := by
 have HI := qzL (strange_ix c m bc l A cap w hA nl hc)
 obtain ⟨R, hR⟩ : ∃ r, l.any (noP c) = r := ⟨_, rfl⟩
 rw [hR] at HI ⊢
 clear hA hc hR
 go_enter Tryz.func24, Tryz.ntmps24
 go_wp2_with (go_at_call 50; (with_reducible refine HI.out.mono ?_); rintro e w1 ⟨⟨r, rfl, hr⟩, hb1⟩)
 go_ret
 exact ⟨rfl, hb1⟩
theorem seer_ix (c : Con) (m : Cm) (s : Sta) (q : Qm) (n : Nat) (a : Atc) (bc bs bn : Nat) (l : List Int) (A : Option Addr) (cap : Nat) (w : World) (hA : Seg w w.heap.size 1 eI A l) (nl : l.length ≤ 1000000) (hC : Cont w c m) (hS : Stm w s q) (ha : c.ac[n]? = some a) (hr : xJb a s) (gc : Blk w bc 27 (coA c m)) (gs : Blk w bs 47 (stA s q)) (gn : Blk w bn 3 #[.int .i64 (n : Nat)]) :
  Calls Tryz.prog 50 #[.slice A l.length cap, .func (.func 27) #[] #[.pointer (some ⟨bc, 0, none⟩), .pointer (some ⟨bs, 0, none⟩), .pointer (some ⟨bn, 0, none⟩)]] w fun e w' => (∃ r : Int, e = .returned (.int .i64 r) ∧ decide (0 ≤ r) = l.any (fun p => xBo s.hol p a)) ∧ Below w.heap.size w w' := by
 have HA := qzL hA
 have HF : Hid (∀ W x, Below w.heap.size w W → x ∈ l → Calls Tryz.prog 27 #[.int .i64 x, .pointer (some ⟨bc, 0, none⟩), .pointer (some ⟨bs, 0, none⟩), .pointer (some ⟨bn, 0, none⟩)] W fun e w' => e = .returned (.bool ((fun p => xBo s.hol p a) x)) ∧ Below W.heap.size W w') := fun W x hb hx => seer_any c m s q n a bc bs bn x w W hC hS hb ha hr (gc.then_ hb) (gs.then_ hb) (gn.then_ hb)
 clear hA hC hS ha hr gc gs gn
 go_enter Tryz.func50, Tryz.ntmps50
 go_upto_region 2 with (fail)
 go_loopw [8] (fun y WR => ∃ (i : Nat), i ≤ l.length ∧ y = .int .i64 i ∧ Hid (∀ j x, j < i → l[j]? = some x → (fun p => xBo s.hol p a) x = false) ∧ Hid (Below w.heap.size w WR)) (fun y _ => 2000000 - (intOf y).toNat)
 case atStart => exact ⟨0, by omega, rfl, (fun j k hj => by omega), Below.refl _ _⟩
 case round =>
  obtain ⟨i, hi', rfl, hpre, hB⟩ := hrel
  by_cases hlt : i < l.length
  ·have tn : decide ((i : Int) < (l.length : Int)) = true := qzO (by omega)
   obtain ⟨x, hx⟩ : ∃ k, l[i]? = some k := ⟨_, qzJ hlt⟩
   obtain ⟨b0, o0, eA0, hb0, hc0⟩ := xAv HA.out hx
   have x0 : wr.cell? ⟨b0, o0 + i, none⟩ = some (.int .i64 x) := (hB.out.cell (p := ⟨b0, o0 + i, none⟩) hb0).trans (by simpa using hc0 0 _ rfl)
   have hix := fun W => xAp (t := 22) (size := 1) (cap := cap) (len := l.length) eA0 hlt (by kernel_rfl) (fun W => by kernel_rfl) W
   simp only [Nat.mul_one] at hix
   obtain ⟨bb, hbb⟩ : ∃ b, (fun p => xBo s.hol p a) x = b := ⟨_, rfl⟩
   have HC : Hid (Calls Tryz.prog 27 #[.int .i64 x, .pointer (some ⟨bc, 0, none⟩), .pointer (some ⟨bs, 0, none⟩), .pointer (some ⟨bn, 0, none⟩)] wr fun e w' => e = .returned (.bool bb) ∧ Below wr.heap.size wr w') := by rw [← hbb]; exact HF.out wr x hB.out (qzK hx)
   have HX := qzL hx
   have HBB := qzL hbb
   clear hc0 hx eA0 hbb
   cases bb with
   | true =>
    have hf : Hid (decide ((0 : Int) ≤ (i : Int)) = l.any (fun p => xBo s.hol p a)) := by unfold Hid; rw [qzO (by omega)]; exact (List.any_eq_true.2 ⟨x, qzK HX.out, HBB.out⟩).symm
    clear hpre
    go_wp2_with (go_at_call 27; (with_reducible refine HC.out.mono ?_); rintro e w1 ⟨rfl, hb1⟩)
    go_ret
    exact ⟨⟨_, rfl, hf.out⟩, xAa hB.out hb1⟩
   | false =>
    have hp : Hid (∀ j y, j < i + 1 → l[j]? = some y → (fun p => xBo s.hol p a) y = false) := fun j y hj hy => by
     by_cases e : j = i
     ·rw [e, HX.out] at hy; cases hy; exact HBB.out
     ·exact hpre.out j y (by omega) hy
    have hii : i + 1 ≤ l.length := hlt
    clear hpre
    go_wp2_with (go_at_call 27; (with_reducible refine HC.out.mono ?_); rintro e w1 ⟨rfl, hb1⟩; have HB1 := qzL hb1; clear hb1)
    go_roundw
    case rel => exact ⟨i + 1, hii, by simp, hp, xAa hB.out HB1.out⟩
    case measure => simp [intOf]; omega
  ·have tn : decide ((i : Int) < (l.length : Int)) = false := qzN (by omega)
   have hf : Hid (decide ((0 : Int) ≤ -1) = l.any (fun p => xBo s.hol p a)) := by
    unfold Hid
    rw [qzN (by omega)]
    refine (List.any_eq_false.2 fun x hx => ?_).symm
    obtain ⟨j, hj, e⟩ := List.getElem_of_mem hx
    intro hh
    exact absurd ((hpre.out j x (by omega) (by rw [← e]; exact qzJ hj)).symm.trans hh) (by decide)
   clear hpre
   go_wp2
   go_ret
   exact ⟨⟨_, rfl, hf.out⟩, hB.out⟩
theorem seer_has (c : Con) (m : Cm) (s : Sta) (q : Qm) (n : Nat) (a : Atc) (bc bs bn : Nat) (l : List Int) (A : Option Addr) (cap : Nat) (w : World) (hA : Seg w w.heap.size 1 eI A l) (nl : l.length ≤ 1000000) (hC : Cont w c m) (hS : Stm w s q) (ha : c.ac[n]? = some a) (hr : xJb a s) (gc : Blk w bc 27 (coA c m)) (gs : Blk w bs 47 (stA s q)) (gn : Blk w bn 3 #[.int .i64 (n : Nat)]) :
  Calls Tryz.prog 24 #[.slice A l.length cap, .func (.func 27) #[] #[.pointer (some ⟨bc, 0, none⟩), .pointer (some ⟨bs, 0, none⟩), .pointer (some ⟨bn, 0, none⟩)]] w fun e w' => e = .returned (.bool (l.any (fun p => xBo s.hol p a))) ∧ Below w.heap.size w w' := by
 have HI := qzL (seer_ix c m s q n a bc bs bn l A cap w hA nl hC hS ha hr gc gs gn)
 obtain ⟨R, hR⟩ : ∃ r, l.any (fun p => xBo s.hol p a) = r := ⟨_, rfl⟩
 rw [hR] at HI ⊢
 clear hA hC hS ha hr gc gs gn hR
 go_enter Tryz.func24, Tryz.ntmps24
 go_wp2_with (go_at_call 50; (with_reducible refine HI.out.mono ?_); rintro e w1 ⟨⟨r, rfl, hr⟩, hb1⟩)
 go_ret
 exact ⟨rfl, hb1⟩
theorem xHa (c : Con) (m : Cm) (s : Sta) (q : Qm) (n : Nat) (a : Atc) (ps : List Int) (A : Option Addr) (cap bp bc : Nat) (w : World) (hC : Cont w c m) (hS : Stm w s q) (ha : c.ac[n]? = some a) (hr : xJb a s) (hA : Seg w w.heap.size 1 eI A ps) (np : ps.length ≤ 1000000) (gp : Blk w bp 22 #[.slice A ps.length cap]) (gc : Blk w bc 27 (coA c m)) :
  Calls Tryz.prog 26 #[.agg (stA s q), .int .i64 (n : Nat), .pointer (some ⟨bp, 0, none⟩), .pointer (some ⟨bc, 0, none⟩)] w fun e w' => e = .returned (.bool (ps.any fun p => xBo s.hol p a)) ∧ Below w.heap.size w w' := by
 obtain ⟨R, hR⟩ : ∃ r, (ps.any fun p => xBo s.hol p a) = r := ⟨_, rfl⟩
 have HH : Hid (∀ bs bn W, Below w.heap.size w W → Blk W bs 47 (stA s q) → Blk W bn 3 #[.int .i64 (n : Nat)] → Calls Tryz.prog 24 #[.slice A ps.length cap, .func (.func 27) #[] #[.pointer (some ⟨bc, 0, none⟩), .pointer (some ⟨bs, 0, none⟩), .pointer (some ⟨bn, 0, none⟩)]] W fun e w' => e = .returned (.bool R) ∧ Below W.heap.size W w') := fun bs bn W hb g1 g2 => by
  rw [← hR]
  exact seer_has c m s q n a bc bs bn ps A cap W ((hA.below hb).more hb.size) np (hC.then_ hb) (hS.then_ hb) ha hr (gc.then_ hb) g1 g2
 rw [hR]
 have GP := qzL gp
 clear hC hS ha hr hA gp gc hR
 go_enter Tryz.func26, Tryz.ntmps26
 go_upto_region 1 with (fail)
 refine xAi ?_
 intro X hX
 have g1 : Blk X w.heap.size 47 (stA s q) := by rw [hX]; exact (Blk.new _ _ _).alloc _
 have g2 : Blk X (w.heap.size + 1) 3 #[.int .i64 (n : Nat)] := by rw [hX]; exact xA0 (by simp)
 have HB : Hid (Below w.heap.size w X) := by unfold Hid; rw [hX]; (repeat first | exact Below.refl _ _ | refine xAc ?_ _)
 have p0 : X.cell? ⟨bp, 0, none⟩ = some (.slice A ps.length cap) := (GP.out.then_ HB.out).cell 0
 have HH2 := qzL (HH.out _ _ X HB.out g1 g2)
 clear hX HH g1 g2
 go_wp2_with (go_at_call 24; (with_reducible refine HH2.out.mono ?_); rintro e w1 ⟨rfl, hb1⟩)
 go_ret
 exact ⟨rfl, xAa HB.out hb1⟩
def xB2 (ps : List Int) : See := fun hol a => ps.any fun p => xBo hol p a
theorem view_take {c : Con} {see : See} {l : List Int} {i : Nat} {x : Int} (h : l[i]? = some x) : xBk c see c.first (l.take (i + 1)) = xBk c see c.first (l.take i) ++ (if xCj c see (stAt c l i) x = true then [x] else []) := by
 have key : ∀ (l1 : List Int) (s : Sta) (y : Int), xBk c see s (l1 ++ [y]) = xBk c see s l1 ++ (if xCj c see (l1.foldl (fun s x => s.step c x) s) y = true then [y] else []) := by
  intro l1
  induction l1 with
  | nil => intro s y; by_cases e : xCj c see s y = true <;> simp [xBk, e]
  | cons z l1 ih =>
   intro s y
   rw [qzE, xBk, xBk, List.foldl_cons, ih]
   split <;> simp
 rw [List.take_add_one, h, qzD, key]
 rfl
theorem xDy {w : World} {ops : Array Oper} {rest : List Oper} {o : Oper} {a : Act} {Q : Exit → Act → World → Prop} (hgd : o.guard = none) (s x : Operand) (ho : o.op = .call { callee := .builtin .append, args := #[s, x], argTypes := #[22, 22] })
  (i : TypeInfo) (hi : Tryz.prog.info? 3 = some i) (hz : i.zero = some (.int .i64 0)) (hsize : i.size = 1) (hby : i.bytes = 8)
  (B : Nat) (v : Value) (xs : List Int) (hs : a.eval s = v) (hown : Own w B 3 1 eI v xs) (hl : xs.length ≤ 1000000) (g c : Nat) (y : Int) (hx : a.eval x = .slice (some ⟨g, 0, none⟩) 1 c) (hblk : Blk w g 3 (eI y).toArray) (hbase : B ≤ w.heap.size)
  (h : ∀ v' w', Own w' B 3 1 eI v' (xs ++ [y]) → w.grownBy w' v.ownBlock → (v'.ownBlock = v.ownBlock ∨ v'.ownBlock = some w.heap.size) → wpList Tryz.prog ops Q rest (a.put o.dst v') w') : wpList Tryz.prog ops Q (o :: rest) a w := by
 refine wpList_append_own_at w hgd s x 22 ho B 3 i _ 1 8 Tryz.underlying22 hi hz hsize hby rfl (by decide) v xs.length (xs.flatMap eI) hs hown ⟨g, 0, none⟩ 1 c (eI y) hx rfl ?_ (by intro u hu; simp only [eI, List.mem_cons, List.not_mem_nil, or_false] at hu; subst hu; rfl) (by unfold maxLen; omega) (by omega) hbase ?_
 ·intro j u hu
  have hadd : (⟨g, 0, none⟩ : Addr).add j = ⟨g, j, none⟩ := by unfold Addr.add; split <;> simp_all
  rw [hadd, hblk.cell j]; simpa using hu
 ·intro v' w' h2 h3 _ h5
  refine h v' w' ?_ h3 h5
  unfold Own
  rw [List.length_append, List.flatMap_append]
  simpa using h2
structure SeJ (w : World) (c : Con) (m : Cm) (see : See) (l : List Int) (A : Option Addr) (cap pa pl bf r6 r7 r8 N Z : Nat) (fv : Value) (i : Nat) (W : World) : Prop where
 a : Blk W pa 27 (coA c m)
 al : Blk W pl 22 #[.slice A l.length cap]
 f : Blk W bf 70 #[fv]
 r6 : Blk W r6 22 #[.slice none 0 0]
 r7 : Blk W r7 32 #[.int .i64 0]
 r8 : ∃ v, Blk W r8 22 #[v] ∧ Own W N 3 1 eI v (xBk c see c.first (l.take i)) ∧ ∀ x, v.ownBlock = some x → x ≠ Z ∧ x ≠ Z + 1
 b : Below w.heap.size w W
 s : Z ≤ W.heap.size
end Go.Proofs.YtffceokjeonpcaaGreatDoor
