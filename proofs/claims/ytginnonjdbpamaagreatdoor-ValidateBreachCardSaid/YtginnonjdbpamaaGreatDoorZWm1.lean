/- The walk of system.Breach. -/
import Derived.Test.YtginnonjdbpamaaGreatDoorMb18
import Derived.Test.YtginnonjdbpamaaGreatDoorMb33
namespace Go.Proofs.YtginnonjdbpamaaGreatDoor
open Go.RowKit
def brk (p : Int) (k : Cla) (x : Mk) : Bool := k.fin && x.st == 4 && x.brr == p
set_option maxRecDepth 100000 in
set_option maxHeartbeats 6400000 in
theorem breach_any (c : Con) (m : Cm) (s : Sta) (q : Qm) (p : Int) (w : World) (hC : Cont w c m) (hS : Stm w s q) :
  Calls Tryz.prog 17 #[.agg (coA c m), .agg (stA s q), .int .i64 p] w fun e w' => e = .returned (.bool (s.breach c p)) ∧ Below w.heap.size w w' := by
 obtain ⟨R, hR⟩ : ∃ r, s.breach c p = r := ⟨_, rfl⟩
 rw [hR]
 have HR : Hid (R = (decide (0 ≤ p) && decide (p < c.par) && s.ok c && (List.zipWith (brk p) c.cl s.marks).any id)) := hR.symm
 have HC := Lib.hid hC
 have HS := Lib.hid hS
 have HV := Lib.hid (fun W (hb : Below w.heap.size w W) => svalid_any c m s q W (hC.then_ hb) (hS.then_ hb))
 have nm := hS.nm
 clear hR hC hS
 go_enter Tryz.func17, Tryz.ntmps17
 go_upto_region 1 with (fail)
 refine name_wp ?_
 intro X hX
 have ga : Blk X w.heap.size 27 (coA c m) := by rw [hX]; exact (blk_at (by simp)).alloc _
 have gs : Blk X (w.heap.size + 1) 43 (stA s q) := by rw [hX]; exact blk_at (by simp)
 have HB : Below w.heap.size w X := by rw [hX]; (repeat (first | exact Below.refl _ _ | refine below_alloc ?_ _))
 obtain ⟨bs, ebs⟩ : ∃ b, w.heap.size + 1 = b := ⟨_, rfl⟩
 obtain ⟨ba, eba⟩ : ∃ b, w.heap.size = b := ⟨_, rfl⟩
 rw [ebs] at gs ⊢
 rw [eba] at ga ⊢
 clear hX ebs eba
 have k0 : X.cell? ⟨ba, 0, none⟩ = some (.int .i64 c.par) := ga.cell 0
 obtain ⟨b1, t1⟩ : ∃ z, decide (p < 0) = z := ⟨_, rfl⟩
 cases b1 with
 | true =>
  have hf : Hid (R = false) := by unfold Hid; rw [HR.out, decide_eq_false (show ¬ 0 ≤ p by have := of_decide_eq_true t1; omega)]; simp
  clear ga gs
  go_wp2
  go_ret
  exact ⟨ret_bool hf.out.symm, HB⟩
 | false =>
 obtain ⟨b2, t2⟩ : ∃ z, decide (c.par ≤ p) = z := ⟨_, rfl⟩
 cases b2 with
 | true =>
  have hf : Hid (R = false) := by unfold Hid; rw [HR.out, decide_eq_false (show ¬ p < c.par by have := of_decide_eq_true t2; omega)]; simp
  clear ga gs
  go_wp2
  go_ret
  exact ⟨ret_bool hf.out.symm, HB⟩
 | false =>
 have hd1 : decide (0 ≤ p) = true := decide_eq_true (by have := of_decide_eq_false t1; omega)
 have hd2 : decide (p < c.par) = true := decide_eq_true (by have := of_decide_eq_false t2; omega)
 have HR2 : Hid (R = (s.ok c && (List.zipWith (brk p) c.cl s.marks).any id)) := by unfold Hid; rw [HR.out, hd1, hd2]; rfl
 clear HR hd1 hd2
 cases hok : s.ok c with
 | false =>
  have hf : Hid (R = false) := by unfold Hid; rw [HR2.out, hok]; rfl
  rw [hok] at HV
  go_wp2_with (first | (refine wpList_row_w (by rfl) 27 _ rfl ba rfl 27 _ ga ⟨_, Tryz.underlying27⟩ (by kernel_rfl) ?_; simp only [Act.put, List.setIfInBounds_toArray, List.set_cons_succ, List.set_cons_zero]) | (refine wpList_row_w (by rfl) 43 _ rfl bs rfl 43 _ gs ⟨_, Tryz.underlying43⟩ (by kernel_rfl) ?_; simp only [Act.put, List.setIfInBounds_toArray, List.set_cons_succ, List.set_cons_zero]) | (go_at_call 34; (with_reducible refine (HV.out _ HB).mono ?_); rintro e w1 ⟨rfl, hb1⟩))
  go_ret
  exact ⟨ret_bool hf.out.symm, below_then HB hb1⟩
 | true =>
 have HOK := Lib.hid hok
 have HR3 : Hid (R = (List.zipWith (brk p) c.cl s.marks).any id) := by unfold Hid; rw [HR2.out, hok]; rfl
 rw [hok] at HV
 clear hok HR2
 go_upto_region 3 with (first | (refine wpList_row_w (by rfl) 27 _ rfl ba rfl 27 _ ga ⟨_, Tryz.underlying27⟩ (by kernel_rfl) ?_; simp only [Act.put, List.setIfInBounds_toArray, List.set_cons_succ, List.set_cons_zero]) | (refine wpList_row_w (by rfl) 43 _ rfl bs rfl 43 _ gs ⟨_, Tryz.underlying43⟩ (by kernel_rfl) ?_; simp only [Act.put, List.setIfInBounds_toArray, List.set_cons_succ, List.set_cons_zero]) | (go_at_call 34; (with_reducible refine (HV.out _ HB).mono ?_); rintro e w1 ⟨rfl, hb1⟩))
 have ga1 := Lib.hid (ga.then_ hb1)
 have s3 : w1.cell? ⟨bs, 3, none⟩ = some (.slice q.m s.marks.length q.mc) := (gs.then_ hb1).cell 3
 have HY := Lib.hid (below_then HB hb1)
 clear hb1 HB ga gs HV k0 t1 t2
 have hlen : Hid (s.marks.length = c.cl.length) := (ok_iff.1 HOK.out).m
 go_upto_region 4 with (fail)
 clear s3
 go_loopw [26] (fun y WR => ∃ j : Nat, j ≤ s.marks.length ∧ y = .int .i64 j ∧ Hid (∀ (n : Nat) k x, n < j → c.cl[n]? = some k → s.marks[n]? = some x → brk p k x = false) ∧ Below w1.heap.size w1 WR) (fun y _ => 2000000 - (intOf y).toNat)
 case atStart => exact ⟨0, by omega, rfl, fun n k x h => absurd h (by omega), Below.refl _ _⟩
 case round =>
  obtain ⟨j, hj, rfl, hN, hbr⟩ := hrel
  by_cases hlt : j < s.marks.length
  ·have tj : decide ((j : Int) < (s.marks.length : Int)) = true := decide_eq_true (by omega)
   obtain ⟨x, hx⟩ : ∃ x, s.marks[j]? = some x := ⟨_, List.getElem?_eq_getElem hlt⟩
   have hjc : j < c.cl.length := by have := hlen.out; omega
   obtain ⟨k, hk⟩ : ∃ k, c.cl[j]? = some k := ⟨_, List.getElem?_eq_getElem hjc⟩
   obtain ⟨kx, hkx, hkk⟩ := km_at HC.out.e hk
   have hwr := Lib.hid (below_then HY.out hbr)
   obtain ⟨b0, o0, eA0, hb0, hc0⟩ := segAt (HS.out.then_ hwr.out).m hx
   have hix := fun W => idx_at (t := 41) (size := 5) (cap := q.mc) eA0 hlt (by kernel_rfl) (fun W => by kernel_rfl) W
   have d0 : wr.cell? ⟨b0, o0 + j * 5, none⟩ = some (.int .i64 x.st) := hc0 0 _ rfl
   have d1 : wr.cell? ⟨b0, o0 + j * 5 + 1, none⟩ = some (.int .i64 x.left) := hc0 1 _ rfl
   have d2 : wr.cell? ⟨b0, o0 + j * 5 + 2, none⟩ = some (.int .i64 x.got) := hc0 2 _ rfl
   have d3 : wr.cell? ⟨b0, o0 + j * 5 + 3, none⟩ = some (.int .i64 x.brr) := hc0 3 _ rfl
   have d4 : wr.cell? ⟨b0, o0 + j * 5 + 4, none⟩ = some (.bool x.pau) := hc0 4 _ rfl
   have HX := Lib.hid hx
   have HK := Lib.hid hk
   have HKX := Lib.hid hkx
   have HBR := Lib.hid hbr
   clear hx hk hkx eA0 hc0 hbr
   go_upto_region 6 with (refine wpList_store_all rfl 46 _ _ rfl wr.heap.size 46 [] [.int .i64 0, .int .i64 0, .int .i64 0, .int .i64 0, .bool false] [] [.int .i64 x.st, .int .i64 x.left, .int .i64 x.got, .int .i64 x.brr, .bool x.pau] rfl rfl (Blk.new _ _ _) rfl (by kernel_rfl) (by simp [Value.oneCell']) ?_; intro V gV uV)
   have gV : Blk V wr.heap.size 46 #[.int .i64 x.st, .int .i64 x.left, .int .i64 x.got, .int .i64 x.brr, .bool x.pau] := gV
   have hbV : Below wr.heap.size wr V := (wa1 _ _).trans (uV.b _ (Nat.le_refl _))
   obtain ⟨bm, ebm⟩ : ∃ b, wr.heap.size = b := ⟨_, rfl⟩
   have HbV := Lib.hid hbV
   have m0 : V.cell? ⟨wr.heap.size, 0, none⟩ = some (.int .i64 x.st) := gV.cell 0
   have m3 : V.cell? ⟨wr.heap.size, 3, none⟩ = some (.int .i64 x.brr) := gV.cell 3
   have HWV := Lib.hid (below_then hwr.out hbV)
   have k4 : V.cell? ⟨ba, 4, none⟩ = some (.slice m.k c.cl.length m.kc) := ((ga1.out.then_ (below_then HBR.out hbV)).cell 4)
   obtain ⟨b5, o5, eA5, _, hc5⟩ := segAt (HC.out.then_ HWV.out).k HKX.out
   have hix5 := fun W => idx_at (t := 25) (size := 16) (cap := m.kc) (len := c.cl.length) eA5 hjc (by kernel_rfl) (fun W => by kernel_rfl) W
   have f8 : V.cell? ⟨b5, o5 + j * 16 + 8, none⟩ = some (.bool kx.k.fin) := hc5 8 _ rfl
   rw [ebm] at m0 m3 ⊢
   clear d0 d1 d2 d3 d4 gV hbV uV eA5 hc5 ebm hix
   have hbk : Hid (brk p k x = (kx.k.fin && x.st == 4 && x.brr == p)) := by unfold Hid brk; rw [hkk]
   obtain ⟨f, ef⟩ : ∃ f, kx.k.fin = f := ⟨_, rfl⟩
   rw [ef] at f8 hbk
   obtain ⟨g, eg⟩ : ∃ g, (x.st == 4) = g := ⟨_, rfl⟩
   obtain ⟨h, eh⟩ : ∃ h, (x.brr == p) = h := ⟨_, rfl⟩
   rw [eg, eh] at hbk
   have hwr2 := wrap_small (n := j) (by omega)
   have HRT : Hid (f = true → g = true → h = true → R = true) := by
    intro e1 e2 e3
    rw [HR3.out, List.any_eq_true]
    refine ⟨true, ?_, rfl⟩
    refine List.mem_of_getElem? (i := j) ?_
    rw [List.getElem?_zipWith, HK.out, HX.out]
    simp only [hbk.out, e1, e2, e3]
    rfl
   have HNX : Hid (¬ (f = true ∧ g = true ∧ h = true) → ∀ (n : Nat) k x, n < j + 1 → c.cl[n]? = some k → s.marks[n]? = some x → brk p k x = false) := by
    intro hn n k' x' h1 h2 h3
    by_cases e : n = j
    ·subst e
     rw [HK.out] at h2
     rw [HX.out] at h3
     cases h2
     cases h3
     rw [hbk.out]
     revert hn
     cases f <;> cases g <;> cases h <;> simp
    ·exact hN.out n k' x' (by omega) h2 h3
   clear hN hkk ef
   cases f
   case false =>
    go_wp2
    go_roundw
    case rel => exact ⟨j + 1, by omega, by simp, HNX.out (by simp), below_then HBR.out HbV.out⟩
    case measure => simp [intOf]; omega
   cases g
   case false =>
    go_wp2
    go_roundw
    case rel => exact ⟨j + 1, by omega, by simp, HNX.out (by simp), below_then HBR.out HbV.out⟩
    case measure => simp [intOf]; omega
   cases h
   case false =>
    go_wp2
    go_roundw
    case rel => exact ⟨j + 1, by omega, by simp, HNX.out (by simp), below_then HBR.out HbV.out⟩
    case measure => simp [intOf]; omega
   have hf : Hid (R = true) := HRT.out rfl rfl rfl
   go_wp2
   go_ret
   exact ⟨ret_bool hf.out.symm, HWV.out⟩
  ·have tj : decide ((j : Int) < (s.marks.length : Int)) = false := decide_eq_false (by omega)
   have hf : Hid (R = false) := by
    unfold Hid
    rw [HR3.out, List.any_eq_false]
    intro b hb
    obtain ⟨i, hi, e⟩ := List.getElem_of_mem hb
    have h2 : (List.zipWith (brk p) c.cl s.marks)[i]? = some b := by rw [← e]; exact List.getElem?_eq_getElem hi
    rw [List.length_zipWith] at hi
    obtain ⟨k, hk⟩ : ∃ k, c.cl[i]? = some k := ⟨_, List.getElem?_eq_getElem (by omega)⟩
    obtain ⟨x, hx⟩ : ∃ x, s.marks[i]? = some x := ⟨_, List.getElem?_eq_getElem (by omega)⟩
    rw [List.getElem?_zipWith, hk, hx] at h2
    have h3 := hN.out i k x (by omega) hk hx
    simp only [Option.some.injEq] at h2
    rw [← h2, h3]
    decide
   clear hN
   go_wp2
   go_ret
   exact ⟨ret_bool hf.out.symm, below_then HY.out hbr⟩
end Go.Proofs.YtginnonjdbpamaaGreatDoor
