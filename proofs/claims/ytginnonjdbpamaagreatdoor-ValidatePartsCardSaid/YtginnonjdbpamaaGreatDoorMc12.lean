/- Contracts of functions and plain laws, joined: Sy, Rg, Ri, Sz, Sb. -/
import Derived.Test.YtginnonjdbpamaaGreatDoorMc11
import Derived.RangeFuncNested
import Derived.RangeFuncBound
import Derived.RangeFuncCalls
import Derived.RangeFuncLeaves
import Derived.Shelf.Abstract
import Derived.Shelf.RegionOpen
import Derived.WalkKit
import Derived.OwnWalkIn
import Derived.TacticsInMore
import Derived.LoopNIn
import Derived.LoopIn
import Derived.Test.YtginnonjdbpamaaGreatDoorMc9
import Derived.Test.YtginnonjdbpamaaGreatDoorMc10
import Derived.OrdersIn
/- The walk of the method start: all clauses that can start. -/
import Derived.Test.YtginnonjdbpamaaGreatDoorMc1
set_option maxHeartbeats 6400000
set_option maxRecDepth 100000
namespace Go.Proofs.YtginnonjdbpamaaGreatDoor
open Go.RowKit
def isZ : Option Value → Bool
 | some (.int _ z) => z == 0
 | _ => false
def cntI (w : World) (g n : Nat) : Nat := (List.range n).countP fun i => isZ (w.cell? ⟨g, i * 5, none⟩)
def boolN : Value → Nat
 | .bool true => 1
 | _ => 0
theorem xGg {α : Type} (p : α → Bool) : ∀ (l : List α) (f : Nat → Bool), (∀ i x, l[i]? = some x → f i = p x) → (List.range l.length).countP f = l.countP p
 | [], _, _ => rfl
 | a :: l, f, h => by
  have ih := xGg p l (fun i => f (i + 1)) (fun i x hx => h (i + 1) x (by simpa using hx))
  have h0 := h 0 a rfl
  rw [List.length_cons, List.range_succ_eq_map, List.countP_cons, List.countP_map, List.countP_cons, h0]
  congr 1
theorem cntI_eq {w0 w : World} {b : Nat} {c : Con} {m : Cm} {s : Sta} {q : Qn} (h : Wk w0 w b c m s q) : cntI w q.m c.cl.length = xB5 s.marks := by
 unfold cntI xB5
 rw [← h.lm]
 exact xGg _ s.marks _ fun i x hx => by
  rw [(h.mark hx).1.1]
  rfl
theorem rdy_at {c : Con} {ms : List Mk} {i : Nat} {k : Cla} {x : Mk} (hk : c.cl[i]? = some k) (hx : ms[i]? = some x) : rdy c ms i = (x.st == 0 && !k.waived && k.start.all fun y => xA1 y.2 (stOf ms y.1)) := by
 unfold rdy
 rw [hk, hx]
theorem ok_cond {c : Con} (h : c.ok = true) {k : Cla} (hk : k ∈ c.cl) : ∀ y ∈ k.start, 0 ≤ y.1 ∧ y.1 < (c.cl.length : Int) ∧ 1 ≤ y.2 ∧ y.2 ≤ 4 := by
 intro y hy
 unfold Con.ok at h
 simp only [Bool.and_eq_true] at h
 obtain ⟨i, hi⟩ := List.getElem?_of_mem hk
 have h2 := (c.clsOk_iff c.cl 0).1 h.2 i k hi
 unfold Con.claOk at h2
 simp only [Bool.and_eq_true, List.all_eq_true] at h2
 have h3 := h2.1.1.2 y hy
 unfold xB7 at h3
 simp only [Bool.and_eq_true, decide_eq_true_eq] at h3
 have := xCb.1 h3.1.1.1
 exact ⟨this.1, this.2, h3.1.2, h3.2⟩
theorem Own.capLe {α : Type} {w : World} {B : Nat} {T : TypeId} {size : Nat} {enc : α → List Value} {g n cap : Nat} {xs : List α} (h : Own w B T size enc (.slice (some ⟨g, 0, none⟩) n cap) xs) : xs.length ≤ cap := by
 rcases h.2 with ⟨h1, _⟩ | ⟨g', cap', cur, hv, hg, hh, hc, _⟩
 ·cases h1
 ·cases hv
  exact hc
section
variable {w0 w w' : World} {b : Nat} {c : Con} {m : Cm} {s : Sta} {q : Qn}
theorem Wk.stm (h : Wk w0 w b c m s q) : Stm w s q.q :=
 ⟨h.oh.segA xAz, h.ou.segA xBd, h.om.segA xA6, h.nh, h.nu, h.nm, h.oh.capLe, h.ou.capLe, h.om.capLe⟩
theorem Wk.setWhole (h : Wk w0 w b c m s q) {i : Nat} {x : Mk} (y : Mk) (hx : s.marks[i]? = some x) : Wk w0 (w.setCells q.m (i * 5) (mL y)) b c m { s with marks := s.marks.set i y } q := by
 have e : (s.marks.set i y).length = s.marks.length := List.length_set
 have u : Upd w (w.setCells q.m (i * 5) (mL y)) q.m := Upd.setCells _ _ _ (Upd.refl _ _)
 refine ⟨?_, h.oh.upd u (by intro k hk; cases hk; exact h.hm), h.ou.upd u (by intro k hk; cases hk; exact h.um), ?_, h.hb.trans (u.b _ h.om.lt_.1), h.lb, h.cn, e.trans h.lm, h.nh, h.nu⟩
 ·have h2 := h.g.upd u h.bm
  unfold wkA at h2 ⊢
  rw [show ({ s with marks := s.marks.set i y } : Sta).marks.length = s.marks.length from e]
  exact h2
 ·have h2 := h.om.setPart xA6 rfl (k := i) (j := 0) (y := y) (vs := mL y) hx (by simp) rfl
  rw [show ({ s with marks := s.marks.set i y } : Sta).marks.length = s.marks.length from e]
  exact h2
end
structure SI (w0 w WR : World) (b : Nat) (c : Con) (m : Cm) (s : Sta) (q : Qn) (SA : List Mk) (again : Bool) (ms : List Mk) : Prop where
 wk : Wk w0 WR b c m { s with marks := ms } q
 k : Kept w WR (· = q.m)
 t : again = true → ∃ n, xB5 ms < n ∧ xC9 c s.hol n ms = SA
 f : again = false → ms = SA
structure SJ (w0 w WR : World) (b : Nat) (c : Con) (m : Cm) (s : Sta) (q : Qn) (ms0 : List Mk) (i : Nat) (again : Bool) (ms : List Mk) : Prop where
 wk : Wk w0 WR b c m { s with marks := ms } q
 k : Kept w WR (· = q.m)
 e : (List.range i).foldl (xB6 c s.hol) (ms0, false) = (ms, again)
theorem SJ.skip {w0 w WR WR' : World} {b : Nat} {c : Con} {m : Cm} {s : Sta} {q : Qn} {ms0 : List Mk} {i : Nat} {again : Bool} {ms : List Mk} (h : SJ w0 w WR b c m s q ms0 i again ms) (hb : Below WR.heap.size WR WR') (hr : rdy c ms i = false) : SJ w0 w WR' b c m s q ms0 (i + 1) again ms :=
 ⟨h.wk.then_ hb, h.k.trans (Kept.of_below hb), by rw [List.range_succ, List.foldl_append, h.e]; simp [xB6, hr]⟩
theorem SJ.set_ {w0 w WR WR' : World} {b : Nat} {c : Con} {m : Cm} {s : Sta} {q : Qn} {ms0 : List Mk} {i : Nat} {again : Bool} {ms : List Mk} {k : Cla} {x y : Mk} (h : SJ w0 w WR b c m s q ms0 i again ms) (hb : Below WR.heap.size WR WR') (hk : c.cl[i]? = some k) (hx : ms[i]? = some x) (hr : rdy c ms i = true) (hy : y = live k s.hol) :
  SJ w0 w (WR'.setCells q.m (i * 5) (mL y)) b c m s q ms0 (i + 1) true (ms.set i y) :=
 ⟨(h.wk.then_ hb).setWhole y hx, (h.k.trans (Kept.of_below hb)).trans (Kept.of_upd (Upd.setCells _ _ _ (Upd.refl _ _)) rfl), by rw [List.range_succ, List.foldl_append, h.e]; simp [xB6, hr, hk, hy]⟩
theorem xDy (w0 : World) (b : Nat) (c : Con) (m : Cm) (s : Sta) (q : Qn) (w : World) (hW : Wk w0 w b c m s q) (hok : c.ok = true) (hl : s.hol.length = c.hold.length) :
  Calls Tryz.prog 52 #[.pointer (some ⟨b, 0, none⟩)] w fun e w' => e = .returned (.tuple #[]) ∧ Wk w0 w' b c m { s with marks := xAs c s.hol s.marks } q ∧ Kept w w' (· = q.m) := by
 obtain ⟨SA, hSA⟩ : ∃ l, xAs c s.hol s.marks = l := ⟨_, rfl⟩
 rw [hSA]
 have h0 : Hid (SI w0 w w b c m s q SA true s.marks) := ⟨hW, Kept.refl _ _, fun _ => ⟨c.cl.length + 1, by have := xDi s.marks; rw [hW.lm] at this; omega, hSA⟩, fun h => by cases h⟩
 have nk := hW.cn.nk
 have nm := hW.nm
 have nh := hW.nh
 have HOK := qzL hok
 have HL := qzL hl
 clear hSA hW hok hl
 go_enter Tryz.func52, Tryz.ntmps52
 go_upto_region 1 with (fail)
 go_loopw [2] (fun y WR => ∃ (again : Bool) (ms : List Mk), y = .bool again ∧ Hid (SI w0 w WR b c m s q SA again ms)) (fun y WR => 2 * cntI WR q.m c.cl.length + boolN y)
 case atStart => exact ⟨true, s.marks, rfl, h0⟩
 case round =>
  obtain ⟨again, ms, rfl, hI⟩ := hrel
  clear h0
  cases again with
  | false =>
   have hz := qzL (hI.out.f rfl)
   have hw := qzL hI.out.wk
   have hk := qzL hI.out.k
   clear hI
   go_wp2
   go_end0
   rw [← hz.out]
   exact ⟨rfl, hw.out, hk.out⟩
  | true =>
   have k4 : wr.cell? ⟨b, 4, none⟩ = some (.slice m.k c.cl.length m.kc) := hI.out.wk.g.cell 4
   have hJ0 : Hid (SJ w0 w wr b c m s q ms 0 false ms) := ⟨hI.out.wk, hI.out.k, rfl⟩
   have hmeas : Hid (cntI wr q.m c.cl.length = xB5 ms) := cntI_eq hI.out.wk
   obtain ⟨wo, rfl⟩ : ∃ wo : World, wo = wr := ⟨_, rfl⟩
   go_upto_region 4 with (fail)
   clear k4
   go_loopw [13, 2] (fun y v WR => ∃ (i : Nat) (again : Bool) (ms' : List Mk), i ≤ c.cl.length ∧ y = .int .i64 i ∧ v = .bool again ∧ Hid (SJ w0 w WR b c m s q ms i again ms')) (fun y _ _ => 2000000 - (intOf y).toNat)
   case atStart => exact ⟨0, false, ms, by omega, rfl, rfl, hJ0⟩
   case round =>
    obtain ⟨i, again, ms', hi', rfl, rfl, hJ⟩ := hrel
    clear hJ0
    by_cases hlt : i < c.cl.length
    case neg =>
     have hin : i = c.cl.length := by omega
     have he := hJ.out.e
     rw [hin] at he
     have hp : pass c s.hol ms = (ms', again) := he
     obtain ⟨_, _, ⟨_, h4⟩, _⟩ := xFs c s.hol (List.range c.cl.length) ms false
     have hlt2 : again = true → xB5 ms' < xB5 ms := fun e => by
      have h5 := h4 (by rw [show (List.range c.cl.length).foldl (xB6 c s.hol) (ms, false) = (ms', again) from he]; exact e)
      rw [show (List.range c.cl.length).foldl (xB6 c s.hol) (ms, false) = (ms', again) from he] at h5
      rcases h5 with h5 | h5
      ·cases h5
      ·exact h5
     obtain ⟨n, hn, hst⟩ := hI.out.t rfl
     have hN : SI w0 w wr b c m s q SA again ms' := by
      refine ⟨hJ.out.wk, hJ.out.k, fun e => ?_, fun e => ?_⟩
      ·cases n with
       | zero => omega
       | succ n =>
        refine ⟨n, by have := hlt2 e; omega, ?_⟩
        rw [← hst]
        show _ = (if (pass c s.hol ms).2 then xC9 c s.hol n (pass c s.hol ms).1 else (pass c s.hol ms).1)
        rw [hp, e]
        rfl
      ·cases n with
       | zero => omega
       | succ n =>
        rw [← hst]
        show _ = (if (pass c s.hol ms).2 then xC9 c s.hol n (pass c s.hol ms).1 else (pass c s.hol ms).1)
        rw [hp, e]
        rfl
     have hmeas2 : Hid (2 * cntI wr q.m c.cl.length + boolN (.bool again) < 2 * cntI wo q.m c.cl.length + 1) := by
      unfold Hid
      rw [hmeas.out, cntI_eq hN.wk]
      have hle : xB5 ms' ≤ xB5 ms := by
       obtain ⟨_, _, _, h5⟩ := xFs c s.hol (List.range c.cl.length) ms false
       rw [show (List.range c.cl.length).foldl (xB6 c s.hol) (ms, false) = (ms', again) from he] at h5
       exact h5
      cases again with
      | true => have := hlt2 rfl; show 2 * xB5 ms' + 1 < _; omega
      | false => show 2 * xB5 ms' + 0 < _; omega
     have HN := qzL hN
     have tl : decide ((i : Int) < (c.cl.length : Int)) = false := qzN (by omega)
     clear hN he hp h4 hlt2 hst hn hJ hI hin hmeas
     go_wp2
     go_roundw
     case rel => exact ⟨again, ms', rfl, HN⟩
     case measure => exact hmeas2.out
    obtain ⟨k, hk⟩ : ∃ k, c.cl[i]? = some k := ⟨_, qzJ hlt⟩
    obtain ⟨kx, hkx, hkk⟩ := xCv hJ.out.wk.cn.e hk
    have hlm : ms'.length = c.cl.length := hJ.out.wk.lm
    obtain ⟨x, hx⟩ : ∃ x, ms'[i]? = some x := ⟨_, qzJ (by omega)⟩
    have HLM := qzL hlm
    have HK := qzL hk
    have HX := qzL hx
    have HKX := qzL hkx
    have hkv := xDr HOK.out (qzK hk)
    have HR := qzL (rdy_at hk hx)
    obtain ⟨b0, o0, eA0, hb0, hc0⟩ := xAx hJ.out.wk.cont.k hkx
    have hrg : wr.rangeAt b0 (o0 + i * 16) (kL kx) := fun j v hv => hc0 j v hv
    have hix := fun W => xAq (t := 25) (size := 16) (cap := m.kc) eA0 hlt (by kernel_rfl) (fun W => by kernel_rfl) W
    have tl : decide ((i : Int) < (c.cl.length : Int)) = true := qzO (by omega)
    have nm' : ms'.length ≤ 1000000 := by omega
    have hlt' : i < ms'.length := by omega
    clear hk hx hkx hc0 eA0 hlm
    go_upto_region 6 with (refine xBu 52 el16 _ _ _ _ _ rfl rfl rfl rfl rfl rfl rfl rfl rfl rfl rfl rfl b0 _ rfl (kL kx) rfl hrg (by simp [Value.oneCell']) (by decide) (by decide) (by decide) (by simp) (by simp) (.int .i64 (i : Nat)) rfl ?_; simp only [Act.put, qzG, qzH, qzI])
    refine xAf ?_
    intro Z hZ
    have gk : Blk Z wr.heap.size 52 (kL kx).toArray := by rw [hZ]; exact Blk.new _ _ _
    have HZ : Hid (Below wr.heap.size wr Z) := by rw [hZ]; exact wa1 _ _
    obtain ⟨bk, ebk⟩ : ∃ b, wr.heap.size = b := ⟨_, rfl⟩
    have HEK := qzL ebk
    rw [ebk] at gk ⊢
    have hJZ := qzL (hJ.out.wk.then_ HZ.out)
    clear hZ hrg hix ebk
    have HRD : Hid (∀ W, Below Z.heap.size Z W → Calls Tryz.prog 64 #[.agg #[.int .i64 c.par, .slice m.h c.hold.length m.hc, .slice m.u c.un.length m.uc, .slice m.a c.ac.length m.ac, .slice m.k c.cl.length m.kc, .int .i64 c.days, .slice m.o c.off.length m.oc],
      .agg #[.int .i64 s.day, .slice (some ⟨q.h, 0, none⟩) s.hol.length q.hc, .slice (some ⟨q.u, 0, none⟩) s.used.length q.uc, .slice (some ⟨q.m, 0, none⟩) ms'.length q.mc], .int .i64 (i : Nat)] W fun e w' => e = .returned (.bool (rdy c ms' i)) ∧ Below W.heap.size W w') := fun W hb =>
     xHm c m { s with marks := ms' } q.q i x kx W ((hJZ.out.then_ hb).cont) ((hJZ.out.then_ hb).stm) HX.out HKX.out
      (by rw [hkk]; rw [show ({ s with marks := ms' } : Sta).marks.length = c.cl.length from HLM.out]; exact ok_cond HOK.out (qzK HK.out)) (rdy c ms' i) (by rw [HR.out, hkk])
    have gz := hJZ.out.g
    obtain ⟨k0, k1, k2, k3, k4, k5, k6⟩ := coC (c := c) (m := m) gz rfl
    have k7 : Z.cell? ⟨b, 7, none⟩ = some (.int .i64 s.day) := gz.cell 7
    have k8 : Z.cell? ⟨b, 8, none⟩ = some (.slice (some ⟨q.h, 0, none⟩) s.hol.length q.hc) := gz.cell 8
    have k9 : Z.cell? ⟨b, 9, none⟩ = some (.slice (some ⟨q.u, 0, none⟩) s.used.length q.uc) := gz.cell 9
    have k10 : Z.cell? ⟨b, 10, none⟩ = some (.slice (some ⟨q.m, 0, none⟩) ms'.length q.mc) := gz.cell 10
    clear gz
    obtain ⟨R, hR⟩ : ∃ r, rdy c ms' i = r := ⟨_, rfl⟩
    rw [hR] at HRD
    have HRR := qzL hR
    clear hR HR
    have rg0 := cR k0
    have rg1 := cR k1
    have rg2 := cR k2
    have rg3 := cR k3
    have rg4 := cR k4
    have rg5 := cR k5
    have rg6 := cR k6
    have rg7 := cR k7
    have rg8 := cR k8
    have rg9 := cR k9
    have rg10 := cR k10
    refine xAe [0, 1, 2, 3, 4, 5, 6, 7, 8, 9, 10] [] (by kernel_rfl) (by kernel_rfl) pO ?_
    simp only [xAm, qzA, qzB, qzC, qzD, qzE, qzF]
    repeat (go_big_quiet_step ((go_at_call 64; with_reducible exact xAp (fun W' hW' => HRD.out W' hW') _ _)))
    refine wpQuiet_nil ?_
    intro Y hw2
    have hbY := xAh hw2
    clear hw2 rg0 rg1 rg2 rg3 rg4 rg5 rg6 rg7 rg8 rg9 rg10
    refine xAt ?_
    have HY : Hid (Below wr.heap.size wr Y) := xAa HZ.out hbY
    have gY := gk.then_ hbY
    have hJY := qzL (hJZ.out.then_ hbY)
    clear gk hJZ HZ hbY k0 k1 k2 k3 k4 k5 k6 k7 k8 k9 k10 HRD
    cases R with
    | false =>
     have hN := qzL (hJ.out.skip HY.out HRR.out)
     clear hJ hJY gY
     go_wp2
     go_roundw
     case rel => exact ⟨i + 1, again, ms', by omega, by simp, rfl, hN⟩
     case measure => simp [intOf]; omega
    | true =>
     have c0 : Y.cell? ⟨bk, 0, none⟩ = some (.int .i64 k.kind) := by rw [← hkk]; exact gY.cell 0
     have c1 : Y.cell? ⟨bk, 1, none⟩ = some (.int .i64 k.role) := by rw [← hkk]; exact gY.cell 1
     have c5 : Y.cell? ⟨bk, 5, none⟩ = some (.int .i64 k.aft) := by rw [← hkk]; exact gY.cell 5
     have k10 : Y.cell? ⟨b, 10, none⟩ = some (.slice (some ⟨q.m, 0, none⟩) ms'.length q.mc) := hJY.out.g.cell 10
     have hix1 := fun W => xAy (t := 41) (size := 5) (g := q.m) (cap := q.mc) hlt' (by kernel_rfl) (fun W => by kernel_rfl) W
     cases t4 : (k.kind == 4) with
     | true =>
      have t4' : (k.kind != 4) = false := by simp [bne, t4]
      have hlv : Hid ((⟨1, k.aft, 0, -1, false⟩ : Mk) = live k s.hol) := by
       unfold Hid live; rw [if_pos (by simpa using t4)]
      go_upto_region 10 with (fail)
      have rg0 := cR k10
      have rg1 := cR c5
      refine xAe [0, 1, 2, 3, 4, 5, 6, 7, 8, 9] [10, 11] (by kernel_rfl) (by kernel_rfl) pO ?_
      simp only [xAm, qzA, qzB, qzC, qzD, qzE, qzF]
      repeat (go_big_quiet_step (skip))
      refine wpQuiet_nil ?_
      intro V hw2
      have hbV := xAh hw2
      clear hw2 rg0 rg1
      have hMV := qzL (hJY.out.then_ hbV)
      have hth : V.there q.m (i * 5) ([.int .i64 1, .int .i64 k.aft, .int .i64 0, .int .i64 (-1), .bool false] : List Value).length := by have := hMV.out.om.there xA6 rfl HX.out (j := 0) (c := 5) (by omega); simpa using this
      have hVV : Hid (Below wr.heap.size wr V) := xAa HY.out hbV
      go_upto_region 11 with (refine xBx rfl 46 _ _ rfl rfl q.m (i * 5) [.int .i64 1, .int .i64 k.aft, .int .i64 0, .int .i64 (-1), .bool false] rfl rfl (by exact hth) (by kernel_rfl) (by simp [Value.oneCell']) ?_)
      refine xAf ?_
      intro V2 hV2
      have hN := qzL (hJ.out.set_ (y := ⟨1, k.aft, 0, -1, false⟩) hVV.out HK.out HX.out HRR.out hlv.out)
      rw [show V.setCells q.m (i * 5) _ = V2 from hV2.symm] at hN
      clear hV2 hth
      go_wp2
      go_roundw
      case rel => exact ⟨i + 1, true, ms'.set i ⟨1, k.aft, 0, -1, false⟩, by omega, by simp, rfl, hN⟩
      case measure => simp [intOf]; omega
     | false =>
      have t4' : (k.kind != 4) = true := by simp [bne, t4]
      have t4n : k.kind ≠ 4 := by simpa using t4
      have hrl := hkv.r t4n
      obtain ⟨r, hr⟩ : ∃ r : Nat, k.role = (r : Int) := ⟨k.role.toNat, by omega⟩
      have hrlt : r < s.hol.length := by have := HL.out; omega
      obtain ⟨hv, hhv⟩ : ∃ v, s.hol[r]? = some v := ⟨_, qzJ hrlt⟩
      have hlv : Hid ((⟨1, k.aft, 0, hv, false⟩ : Mk) = live k s.hol) := by
       unfold Hid live xD2; rw [if_neg t4n, hr, Int.toNat_natCast, List.getD_eq_getElem?_getD, hhv]; rfl
      have h0 : Y.cell? ⟨q.h, r, none⟩ = some (.int .i64 hv) := by
       have := (hJY.out.oh.getAt xAz rfl hhv (j := 0) (by omega)).1
       simpa [eI] using this
      have hix2 := fun W => xAy (t := 22) (size := 1) (g := q.h) (cap := q.hc) hrlt (by kernel_rfl) (fun W => by kernel_rfl) W
      simp only [Nat.mul_one] at hix2
      have k8 : Y.cell? ⟨b, 8, none⟩ = some (.slice (some ⟨q.h, 0, none⟩) s.hol.length q.hc) := hJY.out.g.cell 8
      rw [hr] at c1
      clear hr hhv t4n hrl hkv
      go_upto_region 9 with (fail)
      have rg0 := cR k8
      have rg1 := cR c1
      have rg2 := cR h0
      refine xAe [0, 1, 2, 3, 4, 5, 6, 7, 8] [9] (by kernel_rfl) (by kernel_rfl) pO ?_
      simp only [xAm, qzA, qzB, qzC, qzD, qzE, qzF]
      repeat (go_big_quiet_step (skip))
      refine wpQuiet_nil ?_
      intro U hw2
      have hbU := xAh hw2
      clear hw2 rg0 rg1 rg2
      have hUb : Hid (Below Y.heap.size Y U) := hbU
      have c5' : U.cell? ⟨bk, 5, none⟩ = some (.int .i64 k.aft) := by rw [← hkk]; exact (gY.then_ hbU).cell 5
      have k10' : U.cell? ⟨b, 10, none⟩ = some (.slice (some ⟨q.m, 0, none⟩) ms'.length q.mc) := (hJY.out.then_ hbU).g.cell 10
      clear hbU c5 k10 c0 c1 h0 k8
      go_upto_region 10 with (fail)
      have rg0 := cR k10'
      have rg1 := cR c5'
      refine xAe [0, 1, 2, 3, 4, 5, 6, 7, 8, 9] [10, 11] (by kernel_rfl) (by kernel_rfl) pO ?_
      simp only [xAm, qzA, qzB, qzC, qzD, qzE, qzF]
      repeat (go_big_quiet_step (skip))
      refine wpQuiet_nil ?_
      intro V hw2
      have hbV := xAh hw2
      clear hw2 rg0 rg1
      have hMV := qzL (hJY.out.then_ (xAa hUb.out hbV))
      have hth : V.there q.m (i * 5) ([.int .i64 1, .int .i64 k.aft, .int .i64 0, .int .i64 hv, .bool false] : List Value).length := by have := hMV.out.om.there xA6 rfl HX.out (j := 0) (c := 5) (by omega); simpa using this
      have hVV : Hid (Below wr.heap.size wr V) := xAa HY.out (xAa hUb.out hbV)
      go_upto_region 11 with (refine xBx rfl 46 _ _ rfl rfl q.m (i * 5) [.int .i64 1, .int .i64 k.aft, .int .i64 0, .int .i64 hv, .bool false] rfl rfl (by exact hth) (by kernel_rfl) (by simp [Value.oneCell']) ?_)
      refine xAf ?_
      intro V2 hV2
      have hN := qzL (hJ.out.set_ (y := ⟨1, k.aft, 0, hv, false⟩) hVV.out HK.out HX.out HRR.out hlv.out)
      rw [show V.setCells q.m (i * 5) _ = V2 from hV2.symm] at hN
      clear hV2 hth
      go_wp2
      go_roundw
      case rel => exact ⟨i + 1, true, ms'.set i ⟨1, k.aft, 0, hv, false⟩, by omega, by simp, rfl, hN⟩
      case measure => simp [intOf]; omega
end Go.Proofs.YtginnonjdbpamaaGreatDoor
/- A range over an iterator of the program's own whose rounds depend on what lies in memory: the iterator's call is left to its own walk. -/
namespace Go.Proofs.YtginnonjdbpamaaGreatDoor
open Go.RowKit
theorem Upd.putObj {W : World} {l : Nat} (o : Obj) (hl : l < W.heap.size) : Upd W (W.putObj l o) l :=
 ⟨fun B hB => (Below.refl B W).grown (grownBy_putObj' W l o) (by omega) (fun k e => by cases e; exact hB), fun x hx => World.putObj_heap_other hx, by simp [World.putObj]⟩
def xHk (l D : Nat) (W2 : World) (I : World → Prop) (X : Code → World → Prop) : Exit → Act → World → Prop
 | .normal, _, W3 => W3.heap[l]? = W2.heap[l]? ∧ W3.heap[D]? = W2.heap[D]? ∧ ∀ W4, Upd W3 W4 l → I W4
 | .ret, _, W3 => W3.heap[l]? = W2.heap[l]? ∧ W3.heap[D]? = W2.heap[D]? ∧ ∀ W4, Upd W3 W4 l → X .ret W4
 | .exit id, _, W3 => W3.heap[l]? = W2.heap[l]? ∧ W3.heap[D]? = W2.heap[D]? ∧ ∀ W4, Upd W3 W4 l → X (.exit id) W4
 | .goto t, _, W3 => W3.heap[l]? = W2.heap[l]? ∧ W3.heap[D]? = W2.heap[D]? ∧ ∀ W4, Upd W3 W4 l → X (.goto t) W4
 | .panic _, _, _ => False
 | .outgrown, _, _ => False
variable {F : Fence} {n : Nat} {P : Program}
theorem xCh {g : Operand} {ps : Array Tmp} {assign body : Code} {Q : Exit → Act → World → Prop} {a : Act} {w : World}
  (hro : F.round = none) (h1 : 1 ≤ n) {gf : Nat} {lb : Array Value} (hg : a.eval g = .func (.func gf) #[] lb) (hFg : F.fn gf) (eg : ∀ args w, (callFunc gf args).run P w = .ok (.enter gf args) w)
  (h : ∀ (l : Nat) (Rec : World → Prop) (RecX : Code → World → Prop), l = w.heap.size + 1 →
   (∀ W W', Rec W → Below (l + 1) W W' → Rec W') → (∀ c W W', RecX c W → Below (l + 1) W W' → RecX c W') → (∀ W, Rec W → l < W.heap.size) →
   (∀ (args : Array Value) (W : World) (a₁ : Act) (I : World → Prop) (X : Code → World → Prop), Rec W → args.size = ps.size →
    (∀ K : Act → World → Prop, K a₁ W → assign.wpIn (F.inRound l) (n - 1 - 1) P (Exit.then K (fun _ _ _ => False)) { tmps := (ps.zip args).foldl (fun t (p, v) => t.setIfInBounds p v) a.tmps, defers := [] } W) →
    (∀ W2, Upd W W2 l → body.wpIn (F.inRound l) (n - 1 - 1) P (xHk l w.heap.size W2 I X) a₁ W2) →
    YieldAt F (n - 1 - 1) P l args W fun e W' => (e = .returned (.bool true) ∧ Rec W' ∧ I W') ∨ (e = .returned (.bool false) ∧ ∃ c, RecX c W' ∧ X c W')) →
   ∀ W1, Rec W1 → Below w.heap.size w W1 → W1.heap.size = w.heap.size + 2 →
    CallsIn F (n - 1) P gf (#[.func (.yield l) #[] #[]] ++ lb) W1 fun e W' => (∃ v, e = .returned v) ∧
     ((Rec W' ∧ ∀ W4, Upd W' W4 l → W4.heap[w.heap.size]? = some (.deferred (some [])) → Q .normal { a with defers := { target := .collected w.heap.size, args := #[] } :: a.defers } W4) ∨
      (∃ c, RecX c W' ∧ ∀ W4, Upd W' W4 l → W4.heap[w.heap.size]? = some (.deferred (some [])) → c.wpIn F n P Q { a with defers := { target := .collected w.heap.size, args := #[] } :: a.defers } W4))) :
  (Code.rangeFunc g ps assign body).wpIn F n P Q a w := by
 refine wpIn_rangeFunc ?_
 intro fn hfn
 rw [hro]
 obtain ⟨rec, hrec⟩ : ∃ rec : LoopState → Option Code → Loop, rec = fun st pe => { state := st, pending := pe, fn, tmps := a.tmps, params := ps, assign, body, defers := w.heap.size } := ⟨_, rfl⟩
 obtain ⟨W1, hW1⟩ : ∃ W1, (w.alloc (.deferred (some []))).alloc (.loop (rec .ready none)) = W1 := ⟨_, rfl⟩
 have hL1 : W1.heap[w.heap.size + 1]? = some (.loop (rec .ready none)) := by
  rw [← hW1]; have := World.alloc_heap_new (w.alloc (.deferred (some []))) (.loop (rec .ready none)); rwa [World.size_alloc] at this
 have hK1 : W1.heap[w.heap.size]? = some (.deferred (some [])) := by
  rw [← hW1]; exact (Below.heap_alloc _ _ _ (by simp)).trans (World.alloc_heap_new w _)
 have hb1 : Below w.heap.size w W1 := by
  rw [← hW1]; exact ((Below.refl _ w).alloc (Nat.le_refl _) _).alloc (by simp) _
 have hs1 : W1.heap.size = w.heap.size + 2 := by rw [← hW1]; simp
 refine ⟨w.heap.size + 1, [{ target := .collected w.heap.size, args := #[] }], W1, { target := .fn (.func gf) lb, args := #[.func (.yield (w.heap.size + 1)) #[] #[]] }, W1, gf,
  #[.func (.yield (w.heap.size + 1)) #[] #[]] ++ lb, W1, ?_, ?_, ?_, ?_, fun _ => h1, ?_⟩
 ·rw [← hW1, hrec]; exact run_enterLoop_outer _ _ _ _ _
 ·simp only [resolve, hg]
  simp [go_sem]
 ·intro f' hf'; simp [Target.leads] at hf'; subst hf'; exact hFg
 ·simp [invoke, go_sem, eg]
 ·refine (h (w.heap.size + 1)
   (fun W => W.heap[w.heap.size + 1]? = some (.loop (rec .ready none)) ∧ W.heap[w.heap.size]? = some (.deferred (some [])))
   (fun c W => W.heap[w.heap.size + 1]? = some (.loop (rec .done (some c))) ∧ W.heap[w.heap.size]? = some (.deferred (some []))) rfl
   (fun W W' hr hb => ⟨(hb.block _ (by omega)).trans hr.1, (hb.block _ (by omega)).trans hr.2⟩)
   (fun c W W' hr hb => ⟨(hb.block _ (by omega)).trans hr.1, (hb.block _ (by omega)).trans hr.2⟩)
   (fun W hr => (Array.getElem?_eq_some_iff.1 hr.1).1) ?_ W1 ⟨hL1, hK1⟩ hb1 hs1).mono ?_
  ·
   rintro args W a₁ I X ⟨hl, hk⟩ hps hassign hbody
   have hlt : w.heap.size + 1 < W.heap.size := (Array.getElem?_eq_some_iff.1 hl).1
   have hy := run_yield (P := P) (args := args) hl (by rw [hrec]; exact hps)
   rw [hrec] at hy
   refine ⟨fn, _, assign, body, hy, roundIn_of_wpIn hfn (hassign _ ⟨_, run_beginRound hl (by rw [hrec]), ?_⟩)⟩
   have hl2 : (W.putObj (w.heap.size + 1) (.loop { rec .ready none with state := .busy })).heap[w.heap.size + 1]? = some (.loop { rec .ready none with state := .busy }) := World.putObj_heap_same hlt
   have hk2 : (W.putObj (w.heap.size + 1) (.loop { rec .ready none with state := .busy })).heap[w.heap.size]? = some (.deferred (some [])) := (World.putObj_heap_other (by omega)).trans hk
   refine wpIn_mono (hbody _ (Upd.putObj _ hlt)) ?_
   have fin : ∀ (jump : Option Code) (W3 : World), W3.heap[w.heap.size + 1]? = some (.loop { rec .ready none with state := .busy }) → W3.heap[w.heap.size]? = some (.deferred (some [])) →
     (Instr.endRound (w.heap.size + 1) jump).run P W3 = .ok (.bool jump.isNone) (W3.putObj (w.heap.size + 1) (.loop (rec (if jump.isNone then .ready else .done) jump))) ∧
     (W3.putObj (w.heap.size + 1) (.loop (rec (if jump.isNone then .ready else .done) jump))).heap[w.heap.size + 1]? = some (.loop (rec (if jump.isNone then .ready else .done) jump)) ∧
     (W3.putObj (w.heap.size + 1) (.loop (rec (if jump.isNone then .ready else .done) jump))).heap[w.heap.size]? = some (.deferred (some [])) ∧
     Upd W3 (W3.putObj (w.heap.size + 1) (.loop (rec (if jump.isNone then .ready else .done) jump))) (w.heap.size + 1) := fun jump W3 hl3 hk3 => by
    have := run_endRound (P := P) jump hl3
    rw [hrec] at this ⊢
    exact ⟨this, World.putObj_heap_same (Array.getElem?_eq_some_iff.1 hl3).1, (World.putObj_heap_other (by omega)).trans hk3, Upd.putObj _ (Array.getElem?_eq_some_iff.1 hl3).1⟩
   rintro e a3 W3 hp
   cases e with
   | normal =>
    obtain ⟨e1, e2, hi3⟩ := hp
    obtain ⟨hr, hl4, hk4, hu⟩ := fin none W3 (e1.trans hl2) (e2.trans hk2)
    exact ⟨_, _, hr, .inl ⟨rfl, ⟨hl4, hk4⟩, hi3 _ hu⟩⟩
   | ret =>
    obtain ⟨e1, e2, hi3⟩ := hp
    obtain ⟨hr, hl4, hk4, hu⟩ := fin (some .ret) W3 (e1.trans hl2) (e2.trans hk2)
    exact ⟨_, _, hr, .inr ⟨rfl, .ret, ⟨hl4, hk4⟩, hi3 _ hu⟩⟩
   | exit id =>
    obtain ⟨e1, e2, hi3⟩ := hp
    obtain ⟨hr, hl4, hk4, hu⟩ := fin (some (.exit id)) W3 (e1.trans hl2) (e2.trans hk2)
    exact ⟨_, _, hr, .inr ⟨rfl, .exit id, ⟨hl4, hk4⟩, hi3 _ hu⟩⟩
   | goto t =>
    obtain ⟨e1, e2, hi3⟩ := hp
    obtain ⟨hr, hl4, hk4, hu⟩ := fin (some (.goto t)) W3 (e1.trans hl2) (e2.trans hk2)
    exact ⟨_, _, hr, .inr ⟨rfl, .goto t, ⟨hl4, hk4⟩, hi3 _ hu⟩⟩
   | panic ch => exact hp.elim
   | outgrown => exact hp.elim
  ·
   rintro e W2 ⟨⟨v, rfl⟩, (⟨⟨hl, hk⟩, hq⟩ | ⟨c, ⟨hl, hk⟩, hq⟩)⟩
   ·exact ⟨none, _, by have := run_endLoop (P := P) hl (by rw [hrec]; simp); rw [hrec] at this; exact this, hq _ (Upd.putObj _ (Array.getElem?_eq_some_iff.1 hl).1) ((World.putObj_heap_other (by omega)).trans hk)⟩
   ·exact ⟨some c, _, by have := run_endLoop (P := P) hl (by rw [hrec]; simp); rw [hrec] at this; exact this, hq _ (Upd.putObj _ (Array.getElem?_eq_some_iff.1 hl).1) ((World.putObj_heap_other (by omega)).trans hk)⟩
end Go.Proofs.YtginnonjdbpamaaGreatDoor
/- Regions within a round of a range over a function: walked as everywhere else, where nothing is deferred. -/
namespace Go.Proofs.YtginnonjdbpamaaGreatDoor
open Go.RowKit Go.Sort
section
variable {l n : Nat} {P : Program} {ops : Array Oper} {Q : Exit → Act → World → Prop} {md : Region.Mode}
def noD (o : Oper) : Bool := match o.op with | .defer _ => false | _ => true
theorem noD_spec {o : Oper} (h : noD o = true) : ∀ c, o.op ≠ .defer c := fun c e => by unfold noD at h; rw [e] at h; cases h
theorem opIn_of {o : Oper} {a : Act} {w : World} {K : Act → World → Prop} (hd : ∀ c, o.op ≠ .defer c) (h : o.wp P a w K Q) : o.wpIn (Fence.wide.inRound l) n P a w K Q := by
 refine ⟨fun _ _ => trivial, ?_⟩
 rw [Oper.semAt_eq _ _ _ hd]
 unfold Oper.wp at h
 generalize (execOp a.eval o).run P w = r at h ⊢
 cases r with
 | ok x w' =>
  cases x <;> simp only [Oper.upon, Oper.uponIn] at h ⊢ <;>
   first
    | exact h
    | exact ⟨fun e => by simp [Fence.wide] at e, callsIn_wide.2 h⟩
    | exact ⟨fun e => by simp [Fence.wide] at e, fun c cs _ => let ⟨v, w', r, s⟩ := h c cs; ⟨v, w', r, stepsIn_wide.2 s⟩⟩
 | halt x w' => cases x <;> simp only [Oper.upon, Oper.uponIn] at h ⊢ <;> exact h
theorem xDq (hL : ¬ LetsOut Q) : ∀ (os : List Oper) (a : Act) (w : World), os.all noD = true → wpList P ops Q os a w → wpListIn (Fence.wide.inRound l) n P ops Q os a w
 | [], _, _, _, h => h
 | o :: rest, a, w, hn, h => by
  rw [List.all_cons, Bool.and_eq_true] at hn
  unfold wpList at h
  unfold wpListIn
  split
  ·next hw =>
   rw [if_pos hw] at h
   rcases h with h | ⟨_, h⟩
   ·exact opIn_of (noD_spec hn.1) (Oper.wp_mono (fun a w h => xDq hL rest a w hn.2 h) h)
   ·exact absurd h hL
  ·next hw =>
   rw [if_neg hw] at h
   exact ⟨fun _ _ => trivial, xDq hL rest _ w hn.2 h⟩
theorem wpOpIn_of (hL : ¬ LetsOut Q) {i : Nat} {K : Act → World → Prop} {a : Act} {w : World} (hn : ops.toList.all noD = true) (h : wpOp P ops Q i K a w) : wpOpIn (Fence.wide.inRound l) n P ops Q i K a w := by
 unfold wpOp at h
 unfold wpOpIn
 cases ho : ops[i]? with
 | none => rw [ho] at h; exact h
 | some o =>
  rw [ho] at h
  have hno : noD o = true := List.all_eq_true.1 hn o (by rw [← Array.getElem?_toList] at ho; exact qzK ho)
  simp only at h ⊢
  split
  ·next hw =>
   rw [if_pos hw] at h
   rcases h with h | ⟨_, h⟩
   ·exact opIn_of (noD_spec hno) h
   ·exact absurd h hL
  ·next hw =>
   rw [if_neg hw] at h
   exact ⟨fun _ _ => trivial, h⟩
theorem xFy (hL : ¬ LetsOut Q) (hn : ops.toList.all noD = true) : ∀ (f : Nat) (_listed : Array Bool) (_a : Act) (_w : World), wpAny P md ops Q f _listed _a _w → wpAnyIn (Fence.wide.inRound l) n P md ops Q f _listed _a _w
 | 0, _, _, _, h => h
 | f + 1, _listed, _a, _w, h => ⟨h.1, fun i hi => wpOpIn_of hL hn (wpOp_mono (fun _a _w h => xFy hL hn f _ _a _w h) (h.2 i hi))⟩
end
section
variable {lp n : Nat} {P : Program} {id : Nat} {Q : Exit → Act → World → Prop} {a : Act} {w : World} {l : List Oper}
theorem xAj (hn : l.all noD = true) (hL : ¬ LetsOut Q) (h : wpList P l.toArray Q l a w) : (Code.region id l.toArray false).wpIn (Fence.wide.inRound lp) n P Q a w :=
 wpIn_region_lit (xDq hL l a w hn h)
theorem xAv (ps hs ts : List Nat) (hn : l.all noD = true) (hL : ¬ LetsOut Q) (hm : P.follows .mixedOrders = true) (hB : mixB l.toArray ps hs ts = true) (hQ : xCm Q)
  (h : wpQuiet P l.toArray (fun w' => ∃ p : Regrown, w' = grow (redrawn w p.d) p.os) (fun a' => ∀ w', (∃ p : Regrown, w' = grow (redrawn w p.d) p.os) → wpList P l.toArray Q (xAm l.toArray ts) a' w') (xAm l.toArray ps ++ xAm l.toArray hs) a) :
  (Code.region id l.toArray true).wpIn (Fence.wide.inRound lp) n P Q a w := by
 simp only [mixB, Bool.and_eq_true, decide_eq_true_eq] at hB
 obtain ⟨⟨⟨⟨⟨hsel, hnn⟩, hd⟩, hps⟩, hlex⟩, hall⟩ := hB
 have hC : ∃ p : Regrown, { w with drawn := w.drawn + 1 } = grow (redrawn w p.d) p.os := ⟨⟨w.drawn + 1, #[]⟩, by rw [grow_empty]; rfl⟩
 refine wpIn_region_any hm (xFy hL (by simpa using hn) _ _ _ _ ?_)
 have := xGm (md := .any) (Q := Q) (f := hs.length + ts.length) (C := fun w' => ∃ p : Regrown, w' = grow (redrawn w p.d) p.os) hsel hQ hC (fun a' hcl h' =>
  xCp (Q' := Q) (g := ts.length) (fun listed a' w' hC hs hL => xBp (md := .any) (Q := Q) hsel hQ ts listed a' w' hs (hL w' hC)) _ _ _ _ hC
   (xI4 (md := .any) hsel hd hs _ a' (fun p hp => by simpa using List.all_eq_true.1 hall p hp) hcl hlex h')) ps (Array.replicate l.toArray.size false) a (fun j oj _ hl => by rw [getD_replicate_false] at hl; cases hl) hps h
 rwa [show hs.length + ts.length + ps.length = l.toArray.size by omega] at this
end
theorem xCk {K : Act → World → Prop} {Q : Exit → Act → World → Prop} (h : ¬ LetsOut Q) : ¬ LetsOut (Exit.then K Q) := fun ⟨a, w, hq⟩ => h ⟨a, w, hq⟩
class NotC (Q : Exit → Act → World → Prop) : Prop where
 o : ¬ LetsOut Q
theorem nO {Q : Exit → Act → World → Prop} [h : NotC Q] : ¬ LetsOut Q := h.o
instance notC_then {K : Act → World → Prop} {Q : Exit → Act → World → Prop} [h : NotC Q] : NotC (Exit.then K Q) := ⟨xCk h.o⟩
theorem xHv {id : Nat} {Q : Exit → Act → World → Prop} (h : ¬ LetsOut Q) : ¬ LetsOut (Exit.inBlock id Q) := fun ⟨a, w, hq⟩ => h ⟨a, w, hq⟩
instance notC_block {id : Nat} {Q : Exit → Act → World → Prop} [h : NotC Q] : NotC (Exit.inBlock id Q) := ⟨xHv h.o⟩
theorem notOut_rg {l D : Nat} {W2 : World} {I : World → Prop} {X : Code → World → Prop} : ¬ LetsOut (xHk l D W2 I X) := fun ⟨_, _, hq⟩ => hq
instance notC_rg {l D : Nat} {W2 : World} {I : World → Prop} {X : Code → World → Prop} : NotC (xHk l D W2 I X) := ⟨notOut_rg⟩
theorem panOk_rg {l D : Nat} {W2 : World} {I : World → Prop} {X : Code → World → Prop} : xCm (xHk l D W2 I X) := fun _ _ _ _ _ h => h
instance panC_rg {l D : Nat} {W2 : World} {I : World → Prop} {X : Code → World → Prop} : PanC (xHk l D W2 I X) := ⟨panOk_rg⟩
end Go.Proofs.YtginnonjdbpamaaGreatDoor
/- The iterator over the clauses that run, and the law for a range over it. -/
namespace Go.Proofs.YtginnonjdbpamaaGreatDoor
open Go.RowKit
attribute [local go_sem] Oper.semAt_some
theorem xCn (b : Nat) (w : World) : Calls Tryz.prog 77 #[.pointer (some ⟨b, 0, none⟩)] w fun e w' => e = .returned (.func (.func 109) #[] #[.pointer (some ⟨w.heap.size, 0, none⟩)]) ∧ w' = w.alloc (.cells #[.pointer (some ⟨b, 0, none⟩)] 110) := by
 go_enter Tryz.func77, Tryz.ntmps77
 go_wp2
 go_ret
 exact ⟨rfl, rfl⟩
structure RV (W : World) (bx b g N mc : Nat) (rs : Nat → Bool) (i : Nat) : Prop where
 x : W.cell? ⟨bx, 0, none⟩ = some (.pointer (some ⟨b, 0, none⟩))
 h : W.cell? ⟨b, 10, none⟩ = some (.slice (some ⟨g, 0, none⟩) N mc)
 m : i < N → ∃ x : Mk, x.runs = rs i ∧ W.cell? ⟨g, i * 5, none⟩ = some (.int .i64 x.st) ∧ W.cell? ⟨g, i * 5 + 1, none⟩ = some (.int .i64 x.left) ∧ W.cell? ⟨g, i * 5 + 2, none⟩ = some (.int .i64 x.got) ∧ W.cell? ⟨g, i * 5 + 3, none⟩ = some (.int .i64 x.brr) ∧ W.cell? ⟨g, i * 5 + 4, none⟩ = some (.bool x.pau)
theorem run1_in (n l bx b g N mc n₀ : Nat) (rs : Nat → Bool) (hn : 1 ≤ n) (hN : N ≤ 1000000) (J : Nat → World → Prop) (hs : ∀ i W, J i W → n₀ ≤ W.heap.size) (hJ : ∀ i W W', J i W → Below n₀ W W' → J i W') (hV : ∀ i W, J i W → RV W bx b g N mc rs i)
  (hskip : ∀ i W, J i W → i < N → rs i = false → J (i + 1) W)
  (hY : ∀ i W, J i W → i < N → rs i = true → YieldAt Fence.wide (n - 1) Tryz.prog l #[.int .i64 (i : Nat)] W fun e W' => e = .returned (.bool true) ∧ J (i + 1) W') (W : World) (h0 : J 0 W) :
  CallsIn Fence.wide n Tryz.prog 109 #[.func (.yield l) #[] #[], .pointer (some ⟨bx, 0, none⟩)] W fun e W' => (∃ v, e = .returned v) ∧ J N W' := by
 have HY := qzL hY
 have HV := qzL hV
 have HJ := qzL hJ
 have HK := qzL hskip
 have HS := qzL hs
 have v0 := hV 0 W h0
 have x0 := v0.x
 have k10 := v0.h
 clear hY hV hJ hskip hs v0
 refine callsIn_of_wp Tryz.func109 rfl trivial ?_ rfl
 simp only [Tryz.ntmps109, List.size_toArray, List.length_cons, List.length_nil, Nat.reduceAdd, Nat.reduceSub, Array.replicate_succ, Array.replicate_zero, List.push_toArray, List.append_toArray, qzF, qzE]
 gi_wp2
 clear x0 k10
 gi_loopw [10] (fun y wr => ∃ i : Nat, i ≤ N ∧ y = .int .i64 i ∧ Hid (J i wr)) (fun y _ => 2000000 - (intOf y).toNat)
 case atStart => exact ⟨0, by omega, rfl, h0⟩
 case round =>
  obtain ⟨i, hi', rfl, hJi⟩ := hrel
  by_cases hlt : i < N
  case neg =>
   have hin : i = N := by omega
   have HF : Hid (J N wr) := by unfold Hid; rw [← hin]; exact hJi.out
   have tl : decide ((i : Int) < (N : Int)) = false := qzN (by omega)
   clear hin hJi
   gi_wp2
   go_end0
   exact ⟨⟨_, rfl⟩, HF.out⟩
  have tl : decide ((i : Int) < (N : Int)) = true := qzO (by omega)
  have v0 := HV.out i wr hJi.out
  have x0 := v0.x
  have k10 := v0.h
  obtain ⟨x, hxr, m0, m1, m2, m3, m4⟩ := v0.m hlt
  have hix := fun W => xAy (t := 41) (size := 5) (g := g) (cap := mc) hlt (by kernel_rfl) (fun W => by kernel_rfl) W
  have HR := qzL (xIt x wr)
  clear v0
  cases hr : rs i with
  | false =>
   rw [hr] at hxr
   rw [hxr] at HR
   clear hxr
   gi_wp2
   refine ⟨trivial, ?_⟩
   with_reducible refine (callsIn_wide.2 HR.out).mono ?_
   rintro e w2 ⟨rfl, hb2⟩
   gi_wp2
   refine ⟨fun _ h => (by cases h), ?_⟩
   gi_wp2
   go_roundw
   case rel => exact ⟨i + 1, by omega, by simp, HK.out i _ (HJ.out i _ _ hJi.out (hb2.mono (HS.out i _ hJi.out))) hlt hr⟩
   case measure => simp [intOf]; omega
  | true =>
   rw [hr] at hxr
   rw [hxr] at HR
   clear hxr
   have hlt2 := hlt
   gi_wp2
   refine ⟨trivial, ?_⟩
   with_reducible refine (callsIn_wide.2 HR.out).mono ?_
   rintro e w2 ⟨rfl, hb2⟩
   obtain ⟨fn, tmps, assign, body, hy, hRR⟩ := HY.out i w2 (HJ.out i _ _ hJi.out (hb2.mono (HS.out i _ hJi.out))) hlt hr
   gi_wp2
   refine hRR.mono ?_
   rintro e W3 ⟨rfl, hJ3⟩
   gi_wp2
   go_roundw
   case rel => exact ⟨i + 1, by omega, by simp, hJ3⟩
   case measure => simp [intOf]; omega
end Go.Proofs.YtginnonjdbpamaaGreatDoor
/- The law for a range over the clauses that run. -/
namespace Go.Proofs.YtginnonjdbpamaaGreatDoor
open Go.RowKit
def xF4 (p : Nat → Prop) (W : World) (I : World → Prop) : Exit → Act → World → Prop
 | .normal, _, W3 => Kept W W3 p ∧ I W3
 | _, _, _ => False
theorem notOut_rr {p : Nat → Prop} {W : World} {I : World → Prop} : ¬ LetsOut (xF4 p W I) := fun ⟨_, _, hq⟩ => hq
instance notC_rr {p : Nat → Prop} {W : World} {I : World → Prop} : NotC (xF4 p W I) := ⟨notOut_rr⟩
theorem panOk_rr {p : Nat → Prop} {W : World} {I : World → Prop} : xCm (xF4 p W I) := fun _ _ _ _ _ h => h
instance panC_rr {p : Nat → Prop} {W : World} {I : World → Prop} : PanC (xF4 p W I) := ⟨panOk_rr⟩
theorem xGk {F' : Fence} {ps : Array Tmp} {assign body : Code} {Q : Exit → Act → World → Prop} {a : Act} {w : World} {g : Operand} (bx b g' N mc : Nat) (hF : F' = Fence.wide)
  (hg : a.eval g = .func (.func 109) #[] #[.pointer (some ⟨bx, 0, none⟩)]) (hps : ps.size = 1) (hN : N ≤ 1000000) (p : Nat → Prop) (hp : ∀ x, p x → x < w.heap.size)
  (rs : Nat → Bool) (I : Nat → World → Prop) (_hs : ∀ i W, I i W → w.heap.size ≤ W.heap.size) (hB : ∀ i W W', I i W → Below w.heap.size W W' → I i W') (hV : ∀ i W, I i W → RV W bx b g' N mc rs i)
  (hskip : ∀ i W, I i W → i < N → rs i = false → I (i + 1) W) (h0 : I 0 w) (a₁ : Nat → Act)
  (hassign : ∀ (l i : Nat) (W : World) (K : Act → World → Prop), K (a₁ i) W → assign.wpIn (Fence.wide.inRound l) (6 - 1 - 1) Tryz.prog (Exit.then K (fun _ _ _ => False)) { tmps := (ps.zip #[.int .i64 (i : Nat)]).foldl (fun t (p, v) => t.setIfInBounds p v) a.tmps, defers := [] } W)
  (hbody : ∀ (l i : Nat) (W : World), I i W → i < N → rs i = true → w.heap.size + 1 < W.heap.size → body.wpIn (Fence.wide.inRound l) (6 - 1 - 1) Tryz.prog (xF4 p W (I (i + 1))) (a₁ i) W)
  (hdone : ∀ (D : Nat) (W : World), w.heap.size ≤ D → I N W → W.heap[D]? = some (.deferred (some [])) → Q .normal { a with defers := { target := .collected D, args := #[] } :: a.defers } W) :
  (Code.rangeFunc g ps assign body).wpIn F' 6 Tryz.prog Q a w := by
 subst hF
 refine xCh rfl (by omega) hg trivial (enters_of Tryz.func109 (by kernel_rfl) rfl) ?_
 rintro l Rec RecX rfl hRec hRecX hlt hround W1 hR1 hb1 hs1
 refine (run1_in (6 - 1) (w.heap.size + 1) bx b g' N mc (w.heap.size + 2) rs (by omega) hN (fun i W => Rec W ∧ I i W) (fun i W h => by have := hlt W h.1; omega)
  (fun i W W' h hb => ⟨hRec W W' h.1 hb, hB i W W' h.2 (hb.mono (by omega))⟩) (fun i W h => hV i W h.2) (fun i W h hi hr => ⟨h.1, hskip i W h.2 hi hr⟩) ?_ W1 ⟨hR1, hB 0 w W1 h0 hb1⟩).mono ?_
 ·intro i W h hi hr
  have hl := hlt W h.1
  obtain ⟨fn, tmps, asg, bd, hy, hR⟩ := hround #[.int .i64 (i : Nat)] W (a₁ i) (I (i + 1)) (fun _ _ => False) h.1 (by simp [hps]) (hassign (w.heap.size + 1) i W) (fun W2 u => by
   refine wpIn_mono (hbody (w.heap.size + 1) i W2 (hB i W W2 h.2 (u.b _ (by omega))) hi hr (by rw [u.s]; exact hl)) ?_
   rintro e a3 W3 hq
   cases e with
   | normal =>
    obtain ⟨hk, hi3⟩ := hq
    have hl2 : w.heap.size + 1 < W2.heap.size := by rw [u.s]; exact hl
    exact ⟨hk.k _ hl2 (fun hx => by have := hp _ hx; omega), hk.k _ (by omega) (fun hx => by have := hp _ hx; omega), fun W4 u4 => hB _ _ _ hi3 (u4.b _ (by omega))⟩
   | ret => exact hq.elim
   | exit id => exact hq.elim
   | goto t => exact hq.elim
   | panic ch => exact hq.elim
   | outgrown => exact hq.elim)
  refine ⟨fn, tmps, asg, bd, hy, hR.mono ?_⟩
  rintro e W' (⟨he, h1, h2⟩ | ⟨_, c, _, h2⟩)
  ·exact ⟨he, h1, h2⟩
  ·exact h2.elim
 ·rintro e W' ⟨hv, h1, h2⟩
  exact ⟨hv, .inl ⟨h1, fun W4 u hK => hdone _ W4 (Nat.le_refl _) (hB _ _ _ h2 (u.b _ (by omega))) hK⟩⟩
def Qs (Q : Exit → Act → World → Prop) : Exit → Act → World → Prop
 | .panic _, _, _ => False
 | e, a, w => Q e a w
theorem panOk_qs {Q : Exit → Act → World → Prop} : xCm (Qs Q) := fun _ _ _ _ _ h => h
instance panC_qs {Q : Exit → Act → World → Prop} : PanC (Qs Q) := ⟨panOk_qs⟩
theorem wp_qs {P : Program} {c : Code} {Q : Exit → Act → World → Prop} {a : Act} {w : World} (h : c.wp P (Qs Q) a w) : c.wp P Q a w := wp_mono h (fun e a w h => by cases e <;> first | exact h | exact h.elim)
end Go.Proofs.YtginnonjdbpamaaGreatDoor
