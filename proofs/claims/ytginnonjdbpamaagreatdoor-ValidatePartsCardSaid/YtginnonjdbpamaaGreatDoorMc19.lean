/- Contracts of functions and plain laws, joined: Sk. -/
import Derived.Test.YtginnonjdbpamaaGreatDoorMc18
/- The walk of system.Step. -/
import Derived.Test.YtginnonjdbpamaaGreatDoorMc1
set_option maxHeartbeats 12800000
set_option maxRecDepth 100000
namespace Go.Proofs.YtginnonjdbpamaaGreatDoor
open Go.RowKit Go.Sort
abbrev Mk0 : Mk := ⟨0, 0, 0, 0, false⟩
abbrev Sta.sz (s : Sta) : Sta := ⟨s.day, List.replicate s.hol.length 0, List.replicate s.used.length false, List.replicate s.marks.length Mk0⟩
def Sta.stepS (c : Con) (s : Sta) (x : Int) : Sta := if s.stepE c x = 0 then s.step c x else Sta.zero
theorem xFz {w V : World} {c : Con} {m : Cm} {s : Sta} {g6 g10 g14 : Nat} (hC : Cont w c m) (hB : Below w.heap.size w V) (nh : s.hol.length ≤ 1000000) (nu : s.used.length ≤ 1000000)
  (o6 : Own V w.heap.size 3 1 eI (.slice (some ⟨g6, 0, none⟩) s.hol.length s.hol.length) (List.replicate s.hol.length 0)) (o10 : Own V w.heap.size 4 1 eB (.slice (some ⟨g10, 0, none⟩) s.used.length s.used.length) (List.replicate s.used.length false)) (o14 : Own V w.heap.size 46 5 eM (.slice (some ⟨g14, 0, none⟩) s.marks.length s.marks.length) (List.replicate s.marks.length Mk0)) (hlm : s.marks.length = c.cl.length) :
  Wk w (V.alloc (.cells #[.int .i64 c.par, .slice m.h c.hold.length m.hc, .slice m.u c.un.length m.uc, .slice m.a c.ac.length m.ac, .slice m.k c.cl.length m.kc, .int .i64 c.days, .slice m.o c.off.length m.oc, .int .i64 s.day, .slice (some ⟨g6, 0, none⟩) s.hol.length s.hol.length, .slice (some ⟨g10, 0, none⟩) s.used.length s.used.length, .slice (some ⟨g14, 0, none⟩) s.marks.length s.marks.length] 113)) V.heap.size c m s.sz ⟨g6, s.hol.length, g10, s.used.length, g14, s.marks.length⟩ := by
 have e1 : s.sz.hol.length = s.hol.length := List.length_replicate
 have e2 : s.sz.used.length = s.used.length := List.length_replicate
 have e3 : s.sz.marks.length = s.marks.length := List.length_replicate
 refine ⟨?_, ?_, ?_, ?_, xAc hB _, hB.size, hC, e3.trans hlm, by rw [e1]; exact nh, by rw [e2]; exact nu⟩
 ·unfold wkA
  rw [e1, e2, e3]
  exact Blk.new _ _ _
 ·rw [e1]; exact o6.alloc _
 ·rw [e2]; exact o10.alloc _
 ·rw [e3]; exact o14.alloc _
section
variable {w0 w w' : World} {b : Nat} {c : Con} {m : Cm} {s : Sta} {q : Qn}
theorem Wk.newH (h : Wk w0 w b c m s q) {l : List Int} (hl : l.length = s.hol.length) (u : Upd w w' q.h) (hO : Own w' w0.heap.size 3 1 eI (.slice (some ⟨q.h, 0, none⟩) s.hol.length q.hc) l) : Wk w0 w' b c m { s with hol := l } q :=
 ⟨by have := h.g.upd u h.bh; unfold wkA at this ⊢; rw [show ({ s with hol := l } : Sta).hol.length = s.hol.length from hl]; exact this, by rw [show ({ s with hol := l } : Sta).hol.length = s.hol.length from hl]; exact hO, h.ou.upd u (by intro k hk; cases hk; exact h.hu.symm), h.om.upd u (by intro k hk; cases hk; exact h.hm.symm), h.hb.trans (u.b _ h.oh.lt_.1), h.lb, h.cn, h.lm, by show l.length ≤ _; rw [hl]; exact h.nh, h.nu⟩
theorem Wk.newU (h : Wk w0 w b c m s q) {l : List Bool} (hl : l.length = s.used.length) (u : Upd w w' q.u) (hO : Own w' w0.heap.size 4 1 eB (.slice (some ⟨q.u, 0, none⟩) s.used.length q.uc) l) : Wk w0 w' b c m { s with used := l } q :=
 ⟨by have := h.g.upd u h.bu; unfold wkA at this ⊢; rw [show ({ s with used := l } : Sta).used.length = s.used.length from hl]; exact this, h.oh.upd u (by intro k hk; cases hk; exact h.hu), by rw [show ({ s with used := l } : Sta).used.length = s.used.length from hl]; exact hO, h.om.upd u (by intro k hk; cases hk; exact h.um.symm), h.hb.trans (u.b _ h.ou.lt_.1), h.lb, h.cn, h.lm, h.nh, by show l.length ≤ _; rw [hl]; exact h.nu⟩
theorem Wk.newM (h : Wk w0 w b c m s q) {l : List Mk} (hl : l.length = s.marks.length) (u : Upd w w' q.m) (hO : Own w' w0.heap.size 46 5 eM (.slice (some ⟨q.m, 0, none⟩) s.marks.length q.mc) l) : Wk w0 w' b c m { s with marks := l } q :=
 ⟨by have := h.g.upd u h.bm; unfold wkA at this ⊢; rw [show ({ s with marks := l } : Sta).marks.length = s.marks.length from hl]; exact this, h.oh.upd u (by intro k hk; cases hk; exact h.hm), h.ou.upd u (by intro k hk; cases hk; exact h.um), by rw [show ({ s with marks := l } : Sta).marks.length = s.marks.length from hl]; exact hO, h.hb.trans (u.b _ h.om.lt_.1), h.lb, h.cn, hl.trans h.lm, h.nh, h.nu⟩
theorem Wk.updG {g : Nat} (h : Wk w0 w b c m s q) (u : Upd w w' g) (hg : b ≠ g ∧ q.h ≠ g ∧ q.u ≠ g ∧ q.m ≠ g) (h0 : w0.heap.size ≤ g) : Wk w0 w' b c m s q :=
 ⟨h.g.upd u hg.1, h.oh.upd u (by intro k hk; cases hk; exact hg.2.1), h.ou.upd u (by intro k hk; cases hk; exact hg.2.2.1), h.om.upd u (by intro k hk; cases hk; exact hg.2.2.2), h.hb.trans (u.b _ h0), h.lb, h.cn, h.lm, h.nh, h.nu⟩
end
theorem xH3 {c : Con} (h : c.ok = true) {k : Cla} (hk : k ∈ c.cl) : k.aft ≤ 400 ∧ k.grace ≤ 400 := by
 have hv := xDr h hk
 unfold Con.ok at h
 simp only [Bool.and_eq_true] at h
 obtain ⟨i, hi⟩ := List.getElem?_of_mem hk
 have h2 := (c.clsOk_iff c.cl 0).1 h.2 i k hi
 unfold Con.claOk at h2
 simp only [Bool.and_eq_true, decide_eq_true_eq] at h2
 refine ⟨h2.1.1.1.1.1.2, ?_⟩
 by_cases k1 : k.kind = 1
 ·have h3 := h2.1.1.1.1.2
  unfold Con.kindOk at h3
  rw [if_neg (by simp [k1])] at h3
  simp only [Bool.and_eq_true] at h3
  have h4 := h3.2
  rw [if_pos (by simp [k1])] at h4
  simp only [Bool.and_eq_true, decide_eq_true_eq] at h4
  exact h4.2
 ·have := hv.g1 k1; omega
theorem SOk.marks_bd {c : Con} {s : Sta} (h : SOk c s) : (∀ x ∈ s.marks, x.runs = true → 0 ≤ x.left ∧ x.left ≤ 1000000) ∧ (∀ x ∈ s.marks, x.runs = true → 0 ≤ x.got ∧ x.got ≤ 9) := by
 have key : ∀ x ∈ s.marks, x.runs = true → (0 ≤ x.left ∧ x.left ≤ 1000000) ∧ (0 ≤ x.got ∧ x.got ≤ 9) := fun x hx hr => by
  obtain ⟨i, hi⟩ := List.getElem?_of_mem hx
  obtain ⟨k, hk⟩ : ∃ k, c.cl[i]? = some k := ⟨_, qzJ (by rw [← h.m]; exact (qzM hi).1)⟩
  have hm := h.mr i k x hk hi
  have hb := xH3 h.vc (qzK hk)
  have hv := (xDr h.vc (qzK hk)).n1
  rw [xBa] at hm
  simp only [Mk.runs, Bool.or_eq_true, beq_iff_eq] at hr
  rcases hm with ⟨h0, _⟩ | ⟨ha, _, hl, _, hg, _⟩ | ⟨h0, _⟩
  ·omega
  ·omega
  ·omega
 exact ⟨fun x hx hr => (key x hx hr).1, fun x hx hr => (key x hx hr).2⟩
theorem SOk.day_bd {c : Con} {s : Sta} (h : SOk c s) : 0 ≤ s.day ∧ s.day ≤ 1000000 := by
 have h1 := h.d0
 have h2 := h.d1
 have hc := h.vc
 unfold Con.ok Con.lim at hc
 simp only [Bool.and_eq_true, decide_eq_true_eq] at hc
 have := hc.1.1.1.1.1.1.2
 omega
theorem step_any (c : Con) (m : Cm) (s : Sta) (q : Qm) (x : Int) (w : World) (hC : Cont w c m) (hS : Stm w s q) :
  Calls Tryz.prog 26 #[.agg (coA c m), .agg (stA s q), .int .i64 x] w fun e w' => RetS w (s.stepS c x) (s.stepE c x) e w' := by
 obtain ⟨E, hE⟩ : ∃ E, s.stepE c x = E := ⟨_, rfl⟩
 obtain ⟨F, hF⟩ : ∃ F, s.stepS c x = F := ⟨_, rfl⟩
 rw [hE, hF]
 have HE : Hid (E = if s.ok c = false ∨ x < -1 ∨ (c.ac.length : Int) ≤ x then 1 else if s.day = c.days then 13 else 0) := hE.symm
 have HF : Hid (F = if E = 0 then s.step c x else Sta.zero) := by unfold Hid; rw [← hF, ← hE]; rfl
 have HC := qzL hC
 have HS := qzL hS
 obtain ⟨V, hV⟩ : ∃ v, s.ok c = v := ⟨_, rfl⟩
 have HV : Hid (∀ W, Below w.heap.size w W → Calls Tryz.prog 34 #[.agg #[.int .i64 c.par, .slice m.h c.hold.length m.hc, .slice m.u c.un.length m.uc, .slice m.a c.ac.length m.ac, .slice m.k c.cl.length m.kc, .int .i64 c.days, .slice m.o c.off.length m.oc], .agg #[.int .i64 s.day, .slice q.h s.hol.length q.hc, .slice q.u s.used.length q.uc, .slice q.m s.marks.length q.mc]] W fun e w' => e = .returned (.bool V) ∧ Below W.heap.size W w') := fun W hb => by
  have h := svalid_any c m s q W (hC.then_ hb) (hS.then_ hb)
  rw [hV] at h
  exact h
 have HVE := qzL hV
 have nh := hS.nh
 have nu := hS.nu
 have nm := hS.nm
 have na := hC.na
 clear hE hF hC hS hV
 go_enter Tryz.func26, Tryz.ntmps26
 go_upto_region 1 with (fail)
 refine xAf ?_
 intro X hX
 have ga : Blk X w.heap.size 27 (coA c m) := by rw [hX]; exact ((xA5 (by simp)).alloc _).alloc _
 have gs : Blk X (w.heap.size + 1) 43 (stA s q) := by rw [hX]; exact (xA5 (by simp)).alloc _
 have gr : Blk X (w.heap.size + 2) 43 zS := by rw [hX]; exact xA5 (by simp)
 have HB : Below w.heap.size w X := by rw [hX]; (repeat (first | exact Below.refl _ _ | refine xAc ?_ _))
 obtain ⟨br, ebr⟩ : ∃ b, w.heap.size + 2 = b := ⟨_, rfl⟩
 obtain ⟨bs, ebs⟩ : ∃ b, w.heap.size + 1 = b := ⟨_, rfl⟩
 obtain ⟨ba, eba⟩ : ∃ b, w.heap.size = b := ⟨_, rfl⟩
 have lbr : Hid (w.heap.size ≤ br) := by unfold Hid; omega
 rw [ebr] at gr ⊢
 rw [ebs] at gs ⊢
 rw [eba] at ga ⊢
 clear hX ebr ebs eba
 obtain ⟨k0, k1, k2, k3, k4, k5, k6⟩ := coC (c := c) (m := m) ga rfl
 obtain ⟨s0, s1, s2, s3⟩ := stC (c := s) (m := q) gs rfl
 cases V with
 | false =>
  have hz1 : E = 1 := by rw [HE.out, if_pos (.inl HVE.out)]
  have hz : Hid (E = 1 ∧ F = Sta.zero) := ⟨hz1, by rw [HF.out, hz1]; rfl⟩
  clear hz1
  go_wp2_with (first | (go_at_call 34; (with_reducible refine (HV.out _ HB).mono ?_); rintro e w1 ⟨rfl, hb1⟩; have gr1 := gr.then_ hb1; have s0' : w1.cell? ⟨bs, 0, none⟩ = some (.int .i64 s.day) := ((gs.then_ hb1).cell 0); have k5' : w1.cell? ⟨ba, 5, none⟩ = some (.int .i64 c.days) := ((ga.then_ hb1).cell 5); have k3' : w1.cell? ⟨ba, 3, none⟩ = some (.slice m.a c.ac.length m.ac) := ((ga.then_ hb1).cell 3)) | (refine xAg rfl 43 _ _ rfl br 43 [] zS.toList [] zS.toList rfl rfl gr1 rfl (by kernel_rfl) (by simp [Value.oneCell']) ?_; intro we ge ue))
  refine bodyPost_ret (xBg rfl rfl ge ⟨_, Tryz.underlying43⟩ (by kernel_rfl)) rfl ?_
  rw [hz.out.1, hz.out.2]
  exact RetS.zero ((xAa HB hb1).trans (ue.b _ lbr.out))
 | true =>
 by_cases hx1 : x < -1
 ·have t1 := qzO hx1
  have HX1 := qzL hx1
  clear hx1
  have hz1 : E = 1 := by rw [HE.out, if_pos (.inr (.inl HX1.out))]
  have hz : Hid (E = 1 ∧ F = Sta.zero) := ⟨hz1, by rw [HF.out, hz1]; rfl⟩
  clear hz1
  go_wp2_with (first | (go_at_call 34; (with_reducible refine (HV.out _ HB).mono ?_); rintro e w1 ⟨rfl, hb1⟩; have gr1 := gr.then_ hb1; have s0' : w1.cell? ⟨bs, 0, none⟩ = some (.int .i64 s.day) := ((gs.then_ hb1).cell 0); have k5' : w1.cell? ⟨ba, 5, none⟩ = some (.int .i64 c.days) := ((ga.then_ hb1).cell 5); have k3' : w1.cell? ⟨ba, 3, none⟩ = some (.slice m.a c.ac.length m.ac) := ((ga.then_ hb1).cell 3)) | (refine xAg rfl 43 _ _ rfl br 43 [] zS.toList [] zS.toList rfl rfl gr1 rfl (by kernel_rfl) (by simp [Value.oneCell']) ?_; intro we ge ue))
  refine bodyPost_ret (xBg rfl rfl ge ⟨_, Tryz.underlying43⟩ (by kernel_rfl)) rfl ?_
  rw [hz.out.1, hz.out.2]
  exact RetS.zero ((xAa HB hb1).trans (ue.b _ lbr.out))
 have t1 := qzN hx1
 by_cases hx2 : (c.ac.length : Int) ≤ x
 ·have t2 := qzO hx2
  have HX2 := qzL hx2
  clear hx1 hx2
  have hz1 : E = 1 := by rw [HE.out, if_pos (.inr (.inr HX2.out))]
  have hz : Hid (E = 1 ∧ F = Sta.zero) := ⟨hz1, by rw [HF.out, hz1]; rfl⟩
  clear hz1
  go_wp2_with (first | (go_at_call 34; (with_reducible refine (HV.out _ HB).mono ?_); rintro e w1 ⟨rfl, hb1⟩; have gr1 := gr.then_ hb1; have s0' : w1.cell? ⟨bs, 0, none⟩ = some (.int .i64 s.day) := ((gs.then_ hb1).cell 0); have k5' : w1.cell? ⟨ba, 5, none⟩ = some (.int .i64 c.days) := ((ga.then_ hb1).cell 5); have k3' : w1.cell? ⟨ba, 3, none⟩ = some (.slice m.a c.ac.length m.ac) := ((ga.then_ hb1).cell 3)) | (refine xAg rfl 43 _ _ rfl br 43 [] zS.toList [] zS.toList rfl rfl gr1 rfl (by kernel_rfl) (by simp [Value.oneCell']) ?_; intro we ge ue))
  refine bodyPost_ret (xBg rfl rfl ge ⟨_, Tryz.underlying43⟩ (by kernel_rfl)) rfl ?_
  rw [hz.out.1, hz.out.2]
  exact RetS.zero ((xAa HB hb1).trans (ue.b _ lbr.out))
 have t2 := qzN hx2
 have HXR : Hid (-1 ≤ x ∧ x < (c.ac.length : Int)) := by unfold Hid; omega
 have HE2 : Hid (E = if s.day = c.days then 13 else 0) := by
  unfold Hid; rw [HE.out, if_neg]
  rintro (h | h | h)
  ·rw [HVE.out] at h; cases h
  ·exact hx1 h
  ·exact hx2 h
 clear hx1 hx2
 cases t3 : (s.day == c.days) with
 | true =>
  have HD := qzL (eq_of_beq t3)
  have hz1 : E = 13 := by rw [HE2.out, if_pos HD.out]
  have hz : Hid (E = 13 ∧ F = Sta.zero) := ⟨hz1, by rw [HF.out, hz1]; rfl⟩
  clear hz1
  go_wp2_with (first | (go_at_call 34; (with_reducible refine (HV.out _ HB).mono ?_); rintro e w1 ⟨rfl, hb1⟩; have gr1 := gr.then_ hb1; have s0' : w1.cell? ⟨bs, 0, none⟩ = some (.int .i64 s.day) := ((gs.then_ hb1).cell 0); have k5' : w1.cell? ⟨ba, 5, none⟩ = some (.int .i64 c.days) := ((ga.then_ hb1).cell 5); have k3' : w1.cell? ⟨ba, 3, none⟩ = some (.slice m.a c.ac.length m.ac) := ((ga.then_ hb1).cell 3)) | (refine xAg rfl 43 _ _ rfl br 43 [] zS.toList [] zS.toList rfl rfl gr1 rfl (by kernel_rfl) (by simp [Value.oneCell']) ?_; intro we ge ue))
  refine bodyPost_ret (xBg rfl rfl ge ⟨_, Tryz.underlying43⟩ (by kernel_rfl)) rfl ?_
  rw [hz.out.1, hz.out.2]
  exact RetS.zero ((xAa HB hb1).trans (ue.b _ lbr.out))
 | false =>
 have hE0 : Hid (E = 0) := by unfold Hid; rw [HE2.out, if_neg (fun h => by rw [h] at t3; simp at t3)]
 have hF0 : Hid (F = s.step c x) := by unfold Hid; rw [HF.out, if_pos hE0.out]
 clear HE HE2 HF
 have HSO := qzL (ok_iff.1 HVE.out)
 have HLM := qzL HSO.out.m
 go_upto_region 5 with ((go_at_call 34; (with_reducible refine (HV.out _ HB).mono ?_); rintro e w1 ⟨rfl, hb1⟩; have s0' : w1.cell? ⟨bs, 0, none⟩ = some (.int .i64 s.day) := ((gs.then_ hb1).cell 0); have k5' : w1.cell? ⟨ba, 5, none⟩ = some (.int .i64 c.days) := ((ga.then_ hb1).cell 5); have k3' : w1.cell? ⟨ba, 3, none⟩ = some (.slice m.a c.ac.length m.ac) := ((ga.then_ hb1).cell 3)))
 refine xAf ?_
 intro Y hY
 have gaY : Blk Y ba 27 (coA c m) := by rw [hY]; exact ga.then_ hb1
 have gsY : Blk Y bs 43 (stA s q) := by rw [hY]; exact gs.then_ hb1
 have grY : Blk Y br 43 zS := by rw [hY]; exact gr.then_ hb1
 have hYB : Hid (Below w.heap.size w Y) := by rw [hY]; exact xAa HB hb1
 have lwY := hYB.out.size
 have hls : Hid (bs < Y.heap.size) := gsY.lt
 clear hY hb1 HB ga gs gr HV s0' k5' k3' t1 t2 t3 k0 k1 k2 k3 k4 k5 k6 s0 s1 s2 s3
 obtain ⟨i1, hi1, hz10, hz11, hz12⟩ := info_parts (show (Tryz.prog.info? 3).map (fun i => (i.zero, i.size, i.bytes)) = some (some (.int .i64 0), 1, 8) by kernel_rfl)
 obtain ⟨i2, hi2, hz20, hz21, hz22⟩ := info_parts (show (Tryz.prog.info? 4).map (fun i => (i.zero, i.size, i.bytes)) = some (some (.bool false), 1, 1) by kernel_rfl)
 obtain ⟨i3, hi3, hz30, hz31, hz32⟩ := info_parts (show (Tryz.prog.info? 46).map (fun i => (i.zero, i.size, i.bytes)) = some (some (.agg #[.int .i64 0, .int .i64 0, .int .i64 0, .int .i64 0, .bool false]), 5, 40) by kernel_rfl)
 have hm1 : ∀ W : World, (Instr.makeSlice 22 (.int .i64 (s.hol.length : Nat)) (.int .i64 (s.hol.length : Nat))).run Tryz.prog W = _ := fun W => xD7 (enc := eI) (y := 0) Tryz.underlying22 hi1 hz10 hz11 hz12 (by omega) rfl (by omega) W
 have hm2 : ∀ W : World, (Instr.makeSlice 40 (.int .i64 (s.used.length : Nat)) (.int .i64 (s.used.length : Nat))).run Tryz.prog W = _ := fun W => xD7 (enc := eB) (y := false) Tryz.underlying40 hi2 hz20 hz21 hz22 (by omega) rfl (by omega) W
 have hm3 : ∀ W : World, (Instr.makeSlice 41 (.int .i64 (s.marks.length : Nat)) (.int .i64 (s.marks.length : Nat))).run Tryz.prog W = _ := fun W => xD7 (enc := eM) (y := Mk0) Tryz.underlying41 hi3 hz30 hz31 hz32 (by omega) rfl (by omega) W
 go_cut [8] from 31 to 49 (fun v W => ∃ (b' : Nat) (n : Qn), v = .pointer (some ⟨b', 0, none⟩) ∧ Hid (Wk w W b' c m s.sz n) ∧ Hid (Below Y.heap.size Y W) ∧ Hid (br < Y.heap.size ∧ Y.heap.size ≤ b' ∧ Y.heap.size ≤ n.h ∧ Y.heap.size ≤ n.u ∧ Y.heap.size ≤ n.m))
 case first =>
  refine xBo (fun w' => Hid (Below Y.heap.size Y w')) [0, 1, 2, 3, 4, 5, 6, 7, 8, 9, 10, 11, 12, 13, 14, 15, 16] [17, 18] (by kernel_rfl) (by kernel_rfl) pO (qzL (Below.drew (Below.refl _ _))) (fun hdir hsel hpan hHeld => ?_)
  refine xAd (i := 0) (oi := ⟨some 31, _, _, _, _, _⟩) hdir hsel hpan rfl (by kernel_rfl) (by kernel_rfl) (by kernel_rfl) (yieldsIf_row (by rfl) 27 _ rfl ba rfl 27 _ (fun w hw => (gaY.then_ hw.out)) ⟨_, Tryz.underlying27⟩ (by kernel_rfl)) (by assumption) ?_
  try simp only [Act.put, qzG, qzI, qzH]
  refine xAd (i := 1) (oi := ⟨some 32, _, _, _, _, _⟩) (v := .pointer (some ⟨bs, 0, none⟩)) hdir hsel hpan rfl (by kernel_rfl) (by kernel_rfl) (by kernel_rfl) (Or.inl ⟨by rfl, fun w hw => by go_simp⟩) (by assumption) ?_
  try simp only [Act.put, qzG, qzI, qzH]
  refine xAd (i := 2) (oi := ⟨some 33, _, _, _, _, _⟩) (v := .int .i64 s.day) hdir hsel hpan rfl (by kernel_rfl) (by kernel_rfl) (by kernel_rfl) (Or.inl ⟨by rfl, fun w hw => by have hc := (gsY.then_ hw.out).cell 0; go_simp⟩) (by assumption) ?_
  try simp only [Act.put, qzG, qzI, qzH]
  refine xAd (i := 3) (oi := ⟨some 34, _, _, _, _, _⟩) (v := .pointer (some ⟨bs, 1, none⟩)) hdir hsel hpan rfl (by kernel_rfl) (by kernel_rfl) (by kernel_rfl) (Or.inl ⟨by rfl, fun w hw => by go_simp⟩) (by assumption) ?_
  try simp only [Act.put, qzG, qzI, qzH]
  refine xAd (i := 4) (oi := ⟨some 35, _, _, _, _, _⟩) (v := .slice q.h s.hol.length q.hc) hdir hsel hpan rfl (by kernel_rfl) (by kernel_rfl) (by kernel_rfl) (Or.inl ⟨by rfl, fun w hw => by have hc := (gsY.then_ hw.out).cell 1; go_simp⟩) (by assumption) ?_
  try simp only [Act.put, qzG, qzI, qzH]
  refine xAd (i := 5) (oi := ⟨some 36, _, _, _, _, _⟩) (v := .int .i64 (s.hol.length : Nat)) hdir hsel hpan rfl (by kernel_rfl) (by kernel_rfl) (by kernel_rfl) (Or.inl ⟨by rfl, fun w hw => by go_simp⟩) (by assumption) ?_
  try simp only [Act.put, qzG, qzI, qzH]
  refine xAd (i := 7) (oi := ⟨some 38, _, _, _, _, _⟩) (v := .pointer (some ⟨bs, 2, none⟩)) hdir hsel hpan rfl (by kernel_rfl) (by kernel_rfl) (by kernel_rfl) (Or.inl ⟨by rfl, fun w hw => by go_simp⟩) (by assumption) ?_
  try simp only [Act.put, qzG, qzI, qzH]
  refine xAd (i := 8) (oi := ⟨some 39, _, _, _, _, _⟩) (v := .slice q.u s.used.length q.uc) hdir hsel hpan rfl (by kernel_rfl) (by kernel_rfl) (by kernel_rfl) (Or.inl ⟨by rfl, fun w hw => by have hc := (gsY.then_ hw.out).cell 2; go_simp⟩) (by assumption) ?_
  try simp only [Act.put, qzG, qzI, qzH]
  refine xAd (i := 9) (oi := ⟨some 40, _, _, _, _, _⟩) (v := .int .i64 (s.used.length : Nat)) hdir hsel hpan rfl (by kernel_rfl) (by kernel_rfl) (by kernel_rfl) (Or.inl ⟨by rfl, fun w hw => by go_simp⟩) (by assumption) ?_
  try simp only [Act.put, qzG, qzI, qzH]
  refine xAd (i := 11) (oi := ⟨some 42, _, _, _, _, _⟩) (v := .pointer (some ⟨bs, 3, none⟩)) hdir hsel hpan rfl (by kernel_rfl) (by kernel_rfl) (by kernel_rfl) (Or.inl ⟨by rfl, fun w hw => by go_simp⟩) (by assumption) ?_
  try simp only [Act.put, qzG, qzI, qzH]
  refine xAd (i := 12) (oi := ⟨some 43, _, _, _, _, _⟩) (v := .slice q.m s.marks.length q.mc) hdir hsel hpan rfl (by kernel_rfl) (by kernel_rfl) (by kernel_rfl) (Or.inl ⟨by rfl, fun w hw => by have hc := (gsY.then_ hw.out).cell 3; go_simp⟩) (by assumption) ?_
  try simp only [Act.put, qzG, qzI, qzH]
  refine xAd (i := 13) (oi := ⟨some 44, _, _, _, _, _⟩) (v := .int .i64 (s.marks.length : Nat)) hdir hsel hpan rfl (by kernel_rfl) (by kernel_rfl) (by kernel_rfl) (Or.inl ⟨by rfl, fun w hw => by go_simp⟩) (by assumption) ?_
  try simp only [Act.put, qzG, qzI, qzH]
  refine xAr (rs := [6, 10, 14]) (by kernel_rfl) (by simp) ?_
  refine AllHB.cons (by kernel_rfl) (o := ⟨some 37, _, _, _, _, _⟩) rfl (fun K hK => ?_) ?_
  ·go_simp
   have lla := hHeld.out.size
   refine xBj ?_
   intro V6 hV6
   obtain ⟨g6, e6, o6, hb6, l6⟩ := (by first | exact xAn (B := w.heap.size) (enc := eI) (y := 0) (n := s.hol.length) xAz (by decide) (by omega) (by omega) hV6 (by simp) | exact xAn (W := Y.drew) (B := w.heap.size) (enc := eI) (y := 0) (n := s.hol.length) xAz (by decide) (by omega) (by show w.heap.size ≤ Y.heap.size; omega) hV6 (by simp) : ∃ g, _)
   try rw [e6]
   try (have e62 : Y.heap.size = g6 := e6; rw [e62])
   try (replace o10 := o10.below hb6)
   try (replace o14 := o14.below hb6)
   clear hV6
   refine hK.out _ _ (qzL (xAa hHeld.out hb6)) (fun hHeld2 => ?_)
   clear hK K hHeld
   have hHeld := hHeld2
   clear hHeld2
   try simp only [Act.put, qzG, qzI, qzH]
   refine xAr (rs := [10, 14]) (by kernel_rfl) (by simp) ?_
   refine AllHB.cons (by kernel_rfl) (o := ⟨some 41, _, _, _, _, _⟩) rfl (fun K hK => ?_) ?_
   ·go_simp
    have lla := hHeld.out.size
    refine xBj ?_
    intro V10 hV10
    obtain ⟨g10, e10, o10, hb10, l10⟩ := (by first | exact xAn (B := w.heap.size) (enc := eB) (y := false) (n := s.used.length) xBd (by decide) (by omega) (by omega) hV10 (by simp) | exact xAn (W := Y.drew) (B := w.heap.size) (enc := eB) (y := false) (n := s.used.length) xBd (by decide) (by omega) (by show w.heap.size ≤ Y.heap.size; omega) hV10 (by simp) : ∃ g, _)
    try rw [e10]
    try (have e102 : Y.heap.size = g10 := e10; rw [e102])
    try (replace o6 := o6.below hb10)
    try (replace o14 := o14.below hb10)
    clear hV10
    refine hK.out _ _ (qzL (xAa hHeld.out hb10)) (fun hHeld2 => ?_)
    clear hK K hHeld
    have hHeld := hHeld2
    clear hHeld2
    try simp only [Act.put, qzG, qzI, qzH]
    refine xAr (rs := [14]) (by kernel_rfl) (by simp) ?_
    refine AllHB.cons (by kernel_rfl) (o := ⟨some 45, _, _, _, _, _⟩) rfl (fun K hK => ?_) AllHB.nil
    go_simp
    have lla := hHeld.out.size
    refine xBj ?_
    intro V14 hV14
    obtain ⟨g14, e14, o14, hb14, l14⟩ := (by first | exact xAn (B := w.heap.size) (enc := eM) (y := Mk0) (n := s.marks.length) xA6 (by decide) (by omega) (by omega) hV14 (by simp) | exact xAn (W := Y.drew) (B := w.heap.size) (enc := eM) (y := Mk0) (n := s.marks.length) xA6 (by decide) (by omega) (by show w.heap.size ≤ Y.heap.size; omega) hV14 (by simp) : ∃ g, _)
    try rw [e14]
    try (have e142 : Y.heap.size = g14 := e14; rw [e142])
    try (replace o6 := o6.below hb14)
    try (replace o10 := o10.below hb14)
    clear hV14
    refine hK.out _ _ (qzL (xAa hHeld.out hb14)) (fun hHeld2 => ?_)
    clear hK K hHeld
    have hHeld := hHeld2
    clear hHeld2
    try simp only [Act.put, qzG, qzI, qzH]
    refine xAd (i := 15) (oi := ⟨some 46, _, _, _, _, _⟩) (v := .agg #[.int .i64 s.day, .slice (some ⟨g6, 0, none⟩) s.hol.length s.hol.length, .slice (some ⟨g10, 0, none⟩) s.used.length s.used.length, .slice (some ⟨g14, 0, none⟩) s.marks.length s.marks.length]) hdir hsel hpan rfl (by kernel_rfl) (by kernel_rfl) (by kernel_rfl) (Or.inl ⟨by rfl, fun w hw => by go_simp⟩) (by assumption) ?_
    try simp only [Act.put, qzG, qzI, qzH]
    refine xAd (i := 16) (oi := ⟨some 47, _, _, _, _, _⟩) (v := .agg #[.int .i64 c.par, .slice m.h c.hold.length m.hc, .slice m.u c.un.length m.uc, .slice m.a c.ac.length m.ac, .slice m.k c.cl.length m.kc, .int .i64 c.days, .slice m.o c.off.length m.oc, .int .i64 s.day, .slice (some ⟨g6, 0, none⟩) s.hol.length s.hol.length, .slice (some ⟨g10, 0, none⟩) s.used.length s.used.length, .slice (some ⟨g14, 0, none⟩) s.marks.length s.marks.length]) hdir hsel hpan rfl (by kernel_rfl) (by kernel_rfl) (by kernel_rfl) (Or.inl ⟨by rfl, fun w hw => by go_simp⟩) (by assumption) ?_
    try simp only [Act.put, qzG, qzI, qzH]
    refine xBf (by kernel_rfl) (by kernel_rfl) ?_
    clear hdir hsel hpan
    simp only [xAm, qzA, qzB, qzC, qzD, qzE, qzF]
    go_wp2
    go_meet
    case rel => exact ⟨_, ⟨g6, _, g10, _, g14, _⟩, rfl, qzL (xFz HC.out (xAa hYB.out hHeld.out) nh nu o6 o10 o14 HLM.out), qzL (hHeld.out.alloc hHeld.out.size _), qzL ⟨grY.lt, hHeld.out.size, by show Y.heap.size ≤ g6; first | omega | (have ey : Y.drew.heap.size = Y.heap.size := rfl; omega), by show Y.heap.size ≤ g10; first | omega | (have ey : Y.drew.heap.size = Y.heap.size := rfl; omega), by show Y.heap.size ≤ g14; first | omega | (have ey : Y.drew.heap.size = Y.heap.size := rfl; omega)⟩⟩
   refine AllHB.cons (by kernel_rfl) (o := ⟨some 45, _, _, _, _, _⟩) rfl (fun K hK => ?_) ?_
   ·go_simp
    have lla := hHeld.out.size
    refine xBj ?_
    intro V14 hV14
    obtain ⟨g14, e14, o14, hb14, l14⟩ := (by first | exact xAn (B := w.heap.size) (enc := eM) (y := Mk0) (n := s.marks.length) xA6 (by decide) (by omega) (by omega) hV14 (by simp) | exact xAn (W := Y.drew) (B := w.heap.size) (enc := eM) (y := Mk0) (n := s.marks.length) xA6 (by decide) (by omega) (by show w.heap.size ≤ Y.heap.size; omega) hV14 (by simp) : ∃ g, _)
    try rw [e14]
    try (have e142 : Y.heap.size = g14 := e14; rw [e142])
    try (replace o6 := o6.below hb14)
    try (replace o10 := o10.below hb14)
    clear hV14
    refine hK.out _ _ (qzL (xAa hHeld.out hb14)) (fun hHeld2 => ?_)
    clear hK K hHeld
    have hHeld := hHeld2
    clear hHeld2
    try simp only [Act.put, qzG, qzI, qzH]
    refine xAr (rs := [10]) (by kernel_rfl) (by simp) ?_
    refine AllHB.cons (by kernel_rfl) (o := ⟨some 41, _, _, _, _, _⟩) rfl (fun K hK => ?_) AllHB.nil
    go_simp
    have lla := hHeld.out.size
    refine xBj ?_
    intro V10 hV10
    obtain ⟨g10, e10, o10, hb10, l10⟩ := (by first | exact xAn (B := w.heap.size) (enc := eB) (y := false) (n := s.used.length) xBd (by decide) (by omega) (by omega) hV10 (by simp) | exact xAn (W := Y.drew) (B := w.heap.size) (enc := eB) (y := false) (n := s.used.length) xBd (by decide) (by omega) (by show w.heap.size ≤ Y.heap.size; omega) hV10 (by simp) : ∃ g, _)
    try rw [e10]
    try (have e102 : Y.heap.size = g10 := e10; rw [e102])
    try (replace o6 := o6.below hb10)
    try (replace o14 := o14.below hb10)
    clear hV10
    refine hK.out _ _ (qzL (xAa hHeld.out hb10)) (fun hHeld2 => ?_)
    clear hK K hHeld
    have hHeld := hHeld2
    clear hHeld2
    try simp only [Act.put, qzG, qzI, qzH]
    refine xAd (i := 15) (oi := ⟨some 46, _, _, _, _, _⟩) (v := .agg #[.int .i64 s.day, .slice (some ⟨g6, 0, none⟩) s.hol.length s.hol.length, .slice (some ⟨g10, 0, none⟩) s.used.length s.used.length, .slice (some ⟨g14, 0, none⟩) s.marks.length s.marks.length]) hdir hsel hpan rfl (by kernel_rfl) (by kernel_rfl) (by kernel_rfl) (Or.inl ⟨by rfl, fun w hw => by go_simp⟩) (by assumption) ?_
    try simp only [Act.put, qzG, qzI, qzH]
    refine xAd (i := 16) (oi := ⟨some 47, _, _, _, _, _⟩) (v := .agg #[.int .i64 c.par, .slice m.h c.hold.length m.hc, .slice m.u c.un.length m.uc, .slice m.a c.ac.length m.ac, .slice m.k c.cl.length m.kc, .int .i64 c.days, .slice m.o c.off.length m.oc, .int .i64 s.day, .slice (some ⟨g6, 0, none⟩) s.hol.length s.hol.length, .slice (some ⟨g10, 0, none⟩) s.used.length s.used.length, .slice (some ⟨g14, 0, none⟩) s.marks.length s.marks.length]) hdir hsel hpan rfl (by kernel_rfl) (by kernel_rfl) (by kernel_rfl) (Or.inl ⟨by rfl, fun w hw => by go_simp⟩) (by assumption) ?_
    try simp only [Act.put, qzG, qzI, qzH]
    refine xBf (by kernel_rfl) (by kernel_rfl) ?_
    clear hdir hsel hpan
    simp only [xAm, qzA, qzB, qzC, qzD, qzE, qzF]
    go_wp2
    go_meet
    case rel => exact ⟨_, ⟨g6, _, g10, _, g14, _⟩, rfl, qzL (xFz HC.out (xAa hYB.out hHeld.out) nh nu o6 o10 o14 HLM.out), qzL (hHeld.out.alloc hHeld.out.size _), qzL ⟨grY.lt, hHeld.out.size, by show Y.heap.size ≤ g6; first | omega | (have ey : Y.drew.heap.size = Y.heap.size := rfl; omega), by show Y.heap.size ≤ g10; first | omega | (have ey : Y.drew.heap.size = Y.heap.size := rfl; omega), by show Y.heap.size ≤ g14; first | omega | (have ey : Y.drew.heap.size = Y.heap.size := rfl; omega)⟩⟩
   exact AllHB.nil
  refine AllHB.cons (by kernel_rfl) (o := ⟨some 41, _, _, _, _, _⟩) rfl (fun K hK => ?_) ?_
  ·go_simp
   have lla := hHeld.out.size
   refine xBj ?_
   intro V10 hV10
   obtain ⟨g10, e10, o10, hb10, l10⟩ := (by first | exact xAn (B := w.heap.size) (enc := eB) (y := false) (n := s.used.length) xBd (by decide) (by omega) (by omega) hV10 (by simp) | exact xAn (W := Y.drew) (B := w.heap.size) (enc := eB) (y := false) (n := s.used.length) xBd (by decide) (by omega) (by show w.heap.size ≤ Y.heap.size; omega) hV10 (by simp) : ∃ g, _)
   try rw [e10]
   try (have e102 : Y.heap.size = g10 := e10; rw [e102])
   try (replace o6 := o6.below hb10)
   try (replace o14 := o14.below hb10)
   clear hV10
   refine hK.out _ _ (qzL (xAa hHeld.out hb10)) (fun hHeld2 => ?_)
   clear hK K hHeld
   have hHeld := hHeld2
   clear hHeld2
   try simp only [Act.put, qzG, qzI, qzH]
   refine xAr (rs := [6, 14]) (by kernel_rfl) (by simp) ?_
   refine AllHB.cons (by kernel_rfl) (o := ⟨some 37, _, _, _, _, _⟩) rfl (fun K hK => ?_) ?_
   ·go_simp
    have lla := hHeld.out.size
    refine xBj ?_
    intro V6 hV6
    obtain ⟨g6, e6, o6, hb6, l6⟩ := (by first | exact xAn (B := w.heap.size) (enc := eI) (y := 0) (n := s.hol.length) xAz (by decide) (by omega) (by omega) hV6 (by simp) | exact xAn (W := Y.drew) (B := w.heap.size) (enc := eI) (y := 0) (n := s.hol.length) xAz (by decide) (by omega) (by show w.heap.size ≤ Y.heap.size; omega) hV6 (by simp) : ∃ g, _)
    try rw [e6]
    try (have e62 : Y.heap.size = g6 := e6; rw [e62])
    try (replace o10 := o10.below hb6)
    try (replace o14 := o14.below hb6)
    clear hV6
    refine hK.out _ _ (qzL (xAa hHeld.out hb6)) (fun hHeld2 => ?_)
    clear hK K hHeld
    have hHeld := hHeld2
    clear hHeld2
    try simp only [Act.put, qzG, qzI, qzH]
    refine xAr (rs := [14]) (by kernel_rfl) (by simp) ?_
    refine AllHB.cons (by kernel_rfl) (o := ⟨some 45, _, _, _, _, _⟩) rfl (fun K hK => ?_) AllHB.nil
    go_simp
    have lla := hHeld.out.size
    refine xBj ?_
    intro V14 hV14
    obtain ⟨g14, e14, o14, hb14, l14⟩ := (by first | exact xAn (B := w.heap.size) (enc := eM) (y := Mk0) (n := s.marks.length) xA6 (by decide) (by omega) (by omega) hV14 (by simp) | exact xAn (W := Y.drew) (B := w.heap.size) (enc := eM) (y := Mk0) (n := s.marks.length) xA6 (by decide) (by omega) (by show w.heap.size ≤ Y.heap.size; omega) hV14 (by simp) : ∃ g, _)
    try rw [e14]
    try (have e142 : Y.heap.size = g14 := e14; rw [e142])
    try (replace o6 := o6.below hb14)
    try (replace o10 := o10.below hb14)
    clear hV14
    refine hK.out _ _ (qzL (xAa hHeld.out hb14)) (fun hHeld2 => ?_)
    clear hK K hHeld
    have hHeld := hHeld2
    clear hHeld2
    try simp only [Act.put, qzG, qzI, qzH]
    refine xAd (i := 15) (oi := ⟨some 46, _, _, _, _, _⟩) (v := .agg #[.int .i64 s.day, .slice (some ⟨g6, 0, none⟩) s.hol.length s.hol.length, .slice (some ⟨g10, 0, none⟩) s.used.length s.used.length, .slice (some ⟨g14, 0, none⟩) s.marks.length s.marks.length]) hdir hsel hpan rfl (by kernel_rfl) (by kernel_rfl) (by kernel_rfl) (Or.inl ⟨by rfl, fun w hw => by go_simp⟩) (by assumption) ?_
    try simp only [Act.put, qzG, qzI, qzH]
    refine xAd (i := 16) (oi := ⟨some 47, _, _, _, _, _⟩) (v := .agg #[.int .i64 c.par, .slice m.h c.hold.length m.hc, .slice m.u c.un.length m.uc, .slice m.a c.ac.length m.ac, .slice m.k c.cl.length m.kc, .int .i64 c.days, .slice m.o c.off.length m.oc, .int .i64 s.day, .slice (some ⟨g6, 0, none⟩) s.hol.length s.hol.length, .slice (some ⟨g10, 0, none⟩) s.used.length s.used.length, .slice (some ⟨g14, 0, none⟩) s.marks.length s.marks.length]) hdir hsel hpan rfl (by kernel_rfl) (by kernel_rfl) (by kernel_rfl) (Or.inl ⟨by rfl, fun w hw => by go_simp⟩) (by assumption) ?_
    try simp only [Act.put, qzG, qzI, qzH]
    refine xBf (by kernel_rfl) (by kernel_rfl) ?_
    clear hdir hsel hpan
    simp only [xAm, qzA, qzB, qzC, qzD, qzE, qzF]
    go_wp2
    go_meet
    case rel => exact ⟨_, ⟨g6, _, g10, _, g14, _⟩, rfl, qzL (xFz HC.out (xAa hYB.out hHeld.out) nh nu o6 o10 o14 HLM.out), qzL (hHeld.out.alloc hHeld.out.size _), qzL ⟨grY.lt, hHeld.out.size, by show Y.heap.size ≤ g6; first | omega | (have ey : Y.drew.heap.size = Y.heap.size := rfl; omega), by show Y.heap.size ≤ g10; first | omega | (have ey : Y.drew.heap.size = Y.heap.size := rfl; omega), by show Y.heap.size ≤ g14; first | omega | (have ey : Y.drew.heap.size = Y.heap.size := rfl; omega)⟩⟩
   refine AllHB.cons (by kernel_rfl) (o := ⟨some 45, _, _, _, _, _⟩) rfl (fun K hK => ?_) ?_
   ·go_simp
    have lla := hHeld.out.size
    refine xBj ?_
    intro V14 hV14
    obtain ⟨g14, e14, o14, hb14, l14⟩ := (by first | exact xAn (B := w.heap.size) (enc := eM) (y := Mk0) (n := s.marks.length) xA6 (by decide) (by omega) (by omega) hV14 (by simp) | exact xAn (W := Y.drew) (B := w.heap.size) (enc := eM) (y := Mk0) (n := s.marks.length) xA6 (by decide) (by omega) (by show w.heap.size ≤ Y.heap.size; omega) hV14 (by simp) : ∃ g, _)
    try rw [e14]
    try (have e142 : Y.heap.size = g14 := e14; rw [e142])
    try (replace o6 := o6.below hb14)
    try (replace o10 := o10.below hb14)
    clear hV14
    refine hK.out _ _ (qzL (xAa hHeld.out hb14)) (fun hHeld2 => ?_)
    clear hK K hHeld
    have hHeld := hHeld2
    clear hHeld2
    try simp only [Act.put, qzG, qzI, qzH]
    refine xAr (rs := [6]) (by kernel_rfl) (by simp) ?_
    refine AllHB.cons (by kernel_rfl) (o := ⟨some 37, _, _, _, _, _⟩) rfl (fun K hK => ?_) AllHB.nil
    go_simp
    have lla := hHeld.out.size
    refine xBj ?_
    intro V6 hV6
    obtain ⟨g6, e6, o6, hb6, l6⟩ := (by first | exact xAn (B := w.heap.size) (enc := eI) (y := 0) (n := s.hol.length) xAz (by decide) (by omega) (by omega) hV6 (by simp) | exact xAn (W := Y.drew) (B := w.heap.size) (enc := eI) (y := 0) (n := s.hol.length) xAz (by decide) (by omega) (by show w.heap.size ≤ Y.heap.size; omega) hV6 (by simp) : ∃ g, _)
    try rw [e6]
    try (have e62 : Y.heap.size = g6 := e6; rw [e62])
    try (replace o10 := o10.below hb6)
    try (replace o14 := o14.below hb6)
    clear hV6
    refine hK.out _ _ (qzL (xAa hHeld.out hb6)) (fun hHeld2 => ?_)
    clear hK K hHeld
    have hHeld := hHeld2
    clear hHeld2
    try simp only [Act.put, qzG, qzI, qzH]
    refine xAd (i := 15) (oi := ⟨some 46, _, _, _, _, _⟩) (v := .agg #[.int .i64 s.day, .slice (some ⟨g6, 0, none⟩) s.hol.length s.hol.length, .slice (some ⟨g10, 0, none⟩) s.used.length s.used.length, .slice (some ⟨g14, 0, none⟩) s.marks.length s.marks.length]) hdir hsel hpan rfl (by kernel_rfl) (by kernel_rfl) (by kernel_rfl) (Or.inl ⟨by rfl, fun w hw => by go_simp⟩) (by assumption) ?_
    try simp only [Act.put, qzG, qzI, qzH]
    refine xAd (i := 16) (oi := ⟨some 47, _, _, _, _, _⟩) (v := .agg #[.int .i64 c.par, .slice m.h c.hold.length m.hc, .slice m.u c.un.length m.uc, .slice m.a c.ac.length m.ac, .slice m.k c.cl.length m.kc, .int .i64 c.days, .slice m.o c.off.length m.oc, .int .i64 s.day, .slice (some ⟨g6, 0, none⟩) s.hol.length s.hol.length, .slice (some ⟨g10, 0, none⟩) s.used.length s.used.length, .slice (some ⟨g14, 0, none⟩) s.marks.length s.marks.length]) hdir hsel hpan rfl (by kernel_rfl) (by kernel_rfl) (by kernel_rfl) (Or.inl ⟨by rfl, fun w hw => by go_simp⟩) (by assumption) ?_
    try simp only [Act.put, qzG, qzI, qzH]
    refine xBf (by kernel_rfl) (by kernel_rfl) ?_
    clear hdir hsel hpan
    simp only [xAm, qzA, qzB, qzC, qzD, qzE, qzF]
    go_wp2
    go_meet
    case rel => exact ⟨_, ⟨g6, _, g10, _, g14, _⟩, rfl, qzL (xFz HC.out (xAa hYB.out hHeld.out) nh nu o6 o10 o14 HLM.out), qzL (hHeld.out.alloc hHeld.out.size _), qzL ⟨grY.lt, hHeld.out.size, by show Y.heap.size ≤ g6; first | omega | (have ey : Y.drew.heap.size = Y.heap.size := rfl; omega), by show Y.heap.size ≤ g10; first | omega | (have ey : Y.drew.heap.size = Y.heap.size := rfl; omega), by show Y.heap.size ≤ g14; first | omega | (have ey : Y.drew.heap.size = Y.heap.size := rfl; omega)⟩⟩
   exact AllHB.nil
  refine AllHB.cons (by kernel_rfl) (o := ⟨some 45, _, _, _, _, _⟩) rfl (fun K hK => ?_) ?_
  ·go_simp
   have lla := hHeld.out.size
   refine xBj ?_
   intro V14 hV14
   obtain ⟨g14, e14, o14, hb14, l14⟩ := (by first | exact xAn (B := w.heap.size) (enc := eM) (y := Mk0) (n := s.marks.length) xA6 (by decide) (by omega) (by omega) hV14 (by simp) | exact xAn (W := Y.drew) (B := w.heap.size) (enc := eM) (y := Mk0) (n := s.marks.length) xA6 (by decide) (by omega) (by show w.heap.size ≤ Y.heap.size; omega) hV14 (by simp) : ∃ g, _)
   try rw [e14]
   try (have e142 : Y.heap.size = g14 := e14; rw [e142])
   try (replace o6 := o6.below hb14)
   try (replace o10 := o10.below hb14)
   clear hV14
   refine hK.out _ _ (qzL (xAa hHeld.out hb14)) (fun hHeld2 => ?_)
   clear hK K hHeld
   have hHeld := hHeld2
   clear hHeld2
   try simp only [Act.put, qzG, qzI, qzH]
   refine xAr (rs := [6, 10]) (by kernel_rfl) (by simp) ?_
   refine AllHB.cons (by kernel_rfl) (o := ⟨some 37, _, _, _, _, _⟩) rfl (fun K hK => ?_) ?_
   ·go_simp
    have lla := hHeld.out.size
    refine xBj ?_
    intro V6 hV6
    obtain ⟨g6, e6, o6, hb6, l6⟩ := (by first | exact xAn (B := w.heap.size) (enc := eI) (y := 0) (n := s.hol.length) xAz (by decide) (by omega) (by omega) hV6 (by simp) | exact xAn (W := Y.drew) (B := w.heap.size) (enc := eI) (y := 0) (n := s.hol.length) xAz (by decide) (by omega) (by show w.heap.size ≤ Y.heap.size; omega) hV6 (by simp) : ∃ g, _)
    try rw [e6]
    try (have e62 : Y.heap.size = g6 := e6; rw [e62])
    try (replace o10 := o10.below hb6)
    try (replace o14 := o14.below hb6)
    clear hV6
    refine hK.out _ _ (qzL (xAa hHeld.out hb6)) (fun hHeld2 => ?_)
    clear hK K hHeld
    have hHeld := hHeld2
    clear hHeld2
    try simp only [Act.put, qzG, qzI, qzH]
    refine xAr (rs := [10]) (by kernel_rfl) (by simp) ?_
    refine AllHB.cons (by kernel_rfl) (o := ⟨some 41, _, _, _, _, _⟩) rfl (fun K hK => ?_) AllHB.nil
    go_simp
    have lla := hHeld.out.size
    refine xBj ?_
    intro V10 hV10
    obtain ⟨g10, e10, o10, hb10, l10⟩ := (by first | exact xAn (B := w.heap.size) (enc := eB) (y := false) (n := s.used.length) xBd (by decide) (by omega) (by omega) hV10 (by simp) | exact xAn (W := Y.drew) (B := w.heap.size) (enc := eB) (y := false) (n := s.used.length) xBd (by decide) (by omega) (by show w.heap.size ≤ Y.heap.size; omega) hV10 (by simp) : ∃ g, _)
    try rw [e10]
    try (have e102 : Y.heap.size = g10 := e10; rw [e102])
    try (replace o6 := o6.below hb10)
    try (replace o14 := o14.below hb10)
    clear hV10
    refine hK.out _ _ (qzL (xAa hHeld.out hb10)) (fun hHeld2 => ?_)
    clear hK K hHeld
    have hHeld := hHeld2
    clear hHeld2
    try simp only [Act.put, qzG, qzI, qzH]
    refine xAd (i := 15) (oi := ⟨some 46, _, _, _, _, _⟩) (v := .agg #[.int .i64 s.day, .slice (some ⟨g6, 0, none⟩) s.hol.length s.hol.length, .slice (some ⟨g10, 0, none⟩) s.used.length s.used.length, .slice (some ⟨g14, 0, none⟩) s.marks.length s.marks.length]) hdir hsel hpan rfl (by kernel_rfl) (by kernel_rfl) (by kernel_rfl) (Or.inl ⟨by rfl, fun w hw => by go_simp⟩) (by assumption) ?_
    try simp only [Act.put, qzG, qzI, qzH]
    refine xAd (i := 16) (oi := ⟨some 47, _, _, _, _, _⟩) (v := .agg #[.int .i64 c.par, .slice m.h c.hold.length m.hc, .slice m.u c.un.length m.uc, .slice m.a c.ac.length m.ac, .slice m.k c.cl.length m.kc, .int .i64 c.days, .slice m.o c.off.length m.oc, .int .i64 s.day, .slice (some ⟨g6, 0, none⟩) s.hol.length s.hol.length, .slice (some ⟨g10, 0, none⟩) s.used.length s.used.length, .slice (some ⟨g14, 0, none⟩) s.marks.length s.marks.length]) hdir hsel hpan rfl (by kernel_rfl) (by kernel_rfl) (by kernel_rfl) (Or.inl ⟨by rfl, fun w hw => by go_simp⟩) (by assumption) ?_
    try simp only [Act.put, qzG, qzI, qzH]
    refine xBf (by kernel_rfl) (by kernel_rfl) ?_
    clear hdir hsel hpan
    simp only [xAm, qzA, qzB, qzC, qzD, qzE, qzF]
    go_wp2
    go_meet
    case rel => exact ⟨_, ⟨g6, _, g10, _, g14, _⟩, rfl, qzL (xFz HC.out (xAa hYB.out hHeld.out) nh nu o6 o10 o14 HLM.out), qzL (hHeld.out.alloc hHeld.out.size _), qzL ⟨grY.lt, hHeld.out.size, by show Y.heap.size ≤ g6; first | omega | (have ey : Y.drew.heap.size = Y.heap.size := rfl; omega), by show Y.heap.size ≤ g10; first | omega | (have ey : Y.drew.heap.size = Y.heap.size := rfl; omega), by show Y.heap.size ≤ g14; first | omega | (have ey : Y.drew.heap.size = Y.heap.size := rfl; omega)⟩⟩
   refine AllHB.cons (by kernel_rfl) (o := ⟨some 41, _, _, _, _, _⟩) rfl (fun K hK => ?_) ?_
   ·go_simp
    have lla := hHeld.out.size
    refine xBj ?_
    intro V10 hV10
    obtain ⟨g10, e10, o10, hb10, l10⟩ := (by first | exact xAn (B := w.heap.size) (enc := eB) (y := false) (n := s.used.length) xBd (by decide) (by omega) (by omega) hV10 (by simp) | exact xAn (W := Y.drew) (B := w.heap.size) (enc := eB) (y := false) (n := s.used.length) xBd (by decide) (by omega) (by show w.heap.size ≤ Y.heap.size; omega) hV10 (by simp) : ∃ g, _)
    try rw [e10]
    try (have e102 : Y.heap.size = g10 := e10; rw [e102])
    try (replace o6 := o6.below hb10)
    try (replace o14 := o14.below hb10)
    clear hV10
    refine hK.out _ _ (qzL (xAa hHeld.out hb10)) (fun hHeld2 => ?_)
    clear hK K hHeld
    have hHeld := hHeld2
    clear hHeld2
    try simp only [Act.put, qzG, qzI, qzH]
    refine xAr (rs := [6]) (by kernel_rfl) (by simp) ?_
    refine AllHB.cons (by kernel_rfl) (o := ⟨some 37, _, _, _, _, _⟩) rfl (fun K hK => ?_) AllHB.nil
    go_simp
    have lla := hHeld.out.size
    refine xBj ?_
    intro V6 hV6
    obtain ⟨g6, e6, o6, hb6, l6⟩ := (by first | exact xAn (B := w.heap.size) (enc := eI) (y := 0) (n := s.hol.length) xAz (by decide) (by omega) (by omega) hV6 (by simp) | exact xAn (W := Y.drew) (B := w.heap.size) (enc := eI) (y := 0) (n := s.hol.length) xAz (by decide) (by omega) (by show w.heap.size ≤ Y.heap.size; omega) hV6 (by simp) : ∃ g, _)
    try rw [e6]
    try (have e62 : Y.heap.size = g6 := e6; rw [e62])
    try (replace o10 := o10.below hb6)
    try (replace o14 := o14.below hb6)
    clear hV6
    refine hK.out _ _ (qzL (xAa hHeld.out hb6)) (fun hHeld2 => ?_)
    clear hK K hHeld
    have hHeld := hHeld2
    clear hHeld2
    try simp only [Act.put, qzG, qzI, qzH]
    refine xAd (i := 15) (oi := ⟨some 46, _, _, _, _, _⟩) (v := .agg #[.int .i64 s.day, .slice (some ⟨g6, 0, none⟩) s.hol.length s.hol.length, .slice (some ⟨g10, 0, none⟩) s.used.length s.used.length, .slice (some ⟨g14, 0, none⟩) s.marks.length s.marks.length]) hdir hsel hpan rfl (by kernel_rfl) (by kernel_rfl) (by kernel_rfl) (Or.inl ⟨by rfl, fun w hw => by go_simp⟩) (by assumption) ?_
    try simp only [Act.put, qzG, qzI, qzH]
    refine xAd (i := 16) (oi := ⟨some 47, _, _, _, _, _⟩) (v := .agg #[.int .i64 c.par, .slice m.h c.hold.length m.hc, .slice m.u c.un.length m.uc, .slice m.a c.ac.length m.ac, .slice m.k c.cl.length m.kc, .int .i64 c.days, .slice m.o c.off.length m.oc, .int .i64 s.day, .slice (some ⟨g6, 0, none⟩) s.hol.length s.hol.length, .slice (some ⟨g10, 0, none⟩) s.used.length s.used.length, .slice (some ⟨g14, 0, none⟩) s.marks.length s.marks.length]) hdir hsel hpan rfl (by kernel_rfl) (by kernel_rfl) (by kernel_rfl) (Or.inl ⟨by rfl, fun w hw => by go_simp⟩) (by assumption) ?_
    try simp only [Act.put, qzG, qzI, qzH]
    refine xBf (by kernel_rfl) (by kernel_rfl) ?_
    clear hdir hsel hpan
    simp only [xAm, qzA, qzB, qzC, qzD, qzE, qzF]
    go_wp2
    go_meet
    case rel => exact ⟨_, ⟨g6, _, g10, _, g14, _⟩, rfl, qzL (xFz HC.out (xAa hYB.out hHeld.out) nh nu o6 o10 o14 HLM.out), qzL (hHeld.out.alloc hHeld.out.size _), qzL ⟨grY.lt, hHeld.out.size, by show Y.heap.size ≤ g6; first | omega | (have ey : Y.drew.heap.size = Y.heap.size := rfl; omega), by show Y.heap.size ≤ g10; first | omega | (have ey : Y.drew.heap.size = Y.heap.size := rfl; omega), by show Y.heap.size ≤ g14; first | omega | (have ey : Y.drew.heap.size = Y.heap.size := rfl; omega)⟩⟩
   exact AllHB.nil
  exact AllHB.nil
 obtain ⟨b', n, rfl, hW, hYU, hYN⟩ := hcut
 obtain ⟨U, rfl⟩ : ∃ U, U = wc := ⟨_, rfl⟩
 have e1 : s.sz.hol.length = s.hol.length := List.length_replicate
 have e2 : s.sz.used.length = s.used.length := List.length_replicate
 have e3 : s.sz.marks.length = s.marks.length := List.length_replicate
 have H1 := qzL e1
 have H2 := qzL e2
 have H3 := qzL e3
 have hne : Hid (br < Y.heap.size ∧ Y.heap.size ≤ b' ∧ Y.heap.size ≤ n.h ∧ Y.heap.size ≤ n.u ∧ Y.heap.size ≤ n.m) := hYN
 have gsU := gsY.then_ hYU.out
 have grU := grY.then_ hYU.out
 clear e1 e2 e3 gsY grY gaY hYN hm1 hm2 hm3 hi1 hi2 hi3 hz10 hz11 hz12 hz20 hz21 hz22 hz30 hz31 hz32
 have k8 : U.cell? ⟨b', 8, none⟩ = some (.slice (some ⟨n.h, 0, none⟩) s.hol.length n.hc) := by rw [← H1.out]; exact hW.out.g.cell 8
 have s1 : U.cell? ⟨bs, 1, none⟩ = some (.slice q.h s.hol.length q.hc) := gsU.cell 1
 go_upto_region 6 with (fail)
 have rg0 := cR k8
 have rg1 := cR s1
 refine xAe [0, 1, 2, 3, 4, 5, 6] [7] (by kernel_rfl) (by kernel_rfl) pO ?_
 simp only [xAm, qzA, qzB, qzC, qzD, qzE, qzF]
 repeat (go_big_quiet_step (skip))
 refine wpQuiet_nil ?_
 intro U1 hw2
 have hbU1 := xAh hw2
 clear hw2 rg0 rg1
 have hW1 := qzL (hW.out.then_ hbU1)
 have hS1 := qzL ((HS.out.then_ (xAa (xAa hYB.out hYU.out) hbU1)).h)
 have gsU1 := gsU.then_ hbU1
 have grU1 := grU.then_ hbU1
 clear k8 s1 gsU grU hbU1 hW
 go_upto_region 7 with ((refine xB8 rfl (.tmp 53) (.tmp 55) _ _ rfl 3 Tryz.underlying22 1 (by kernel_rfl) (by decide) eI xAz xCu n.h s.hol.length n.hc q.hc q.h s.hol s.sz.hol rfl H1.out rfl rfl w.heap.size 3 (by rw [← H1.out]; exact hW1.out.oh) _ hS1.out ?_; intro U2 hO2 u2; simp only [Act.put, qzG, qzH, qzI]))
 have hW2 : Hid (Wk w U2 b' c m { s.sz with hol := s.hol } n) := hW1.out.newH H1.out.symm u2 (by rw [H1.out]; exact hO2)
 have gsU2 := gsU1.upd u2 (by have := hne.out; have := hls.out; omega)
 have grU2 := grU1.upd u2 (by have := hne.out; omega)
 have hS2 : Hid (Stm U2 s q) := HS.out.then_ (hW2.out.hb)
 clear hO2 u2 hW1 hS1 gsU1 grU1
 have k9 : U2.cell? ⟨b', 9, none⟩ = some (.slice (some ⟨n.u, 0, none⟩) s.used.length n.uc) := by rw [← H2.out]; exact hW2.out.g.cell 9
 have s2 : U2.cell? ⟨bs, 2, none⟩ = some (.slice q.u s.used.length q.uc) := gsU2.cell 2
 have rg0 := cR k9
 have rg1 := cR s2
 refine xAe [0, 1, 2, 3, 4, 5, 6] [7] (by kernel_rfl) (by kernel_rfl) pO ?_
 simp only [xAm, qzA, qzB, qzC, qzD, qzE, qzF]
 repeat (go_big_quiet_step (skip))
 refine wpQuiet_nil ?_
 intro U3 hw2
 have hbU3 := xAh hw2
 clear hw2 rg0 rg1
 have hW3 := qzL (hW2.out.then_ hbU3)
 have hS3 := qzL ((hS2.out.then_ hbU3).u)
 have gsU3 := gsU2.then_ hbU3
 have grU3 := grU2.then_ hbU3
 clear k9 s2 gsU2 grU2 hbU3 hW2 hS2
 go_upto_region 8 with ((refine xB8 rfl (.tmp 61) (.tmp 63) _ _ rfl 4 Tryz.underlying40 1 (by kernel_rfl) (by decide) eB xBd xGy n.u s.used.length n.uc q.uc q.u s.used s.sz.used rfl H2.out rfl rfl w.heap.size 4 (by rw [← H2.out]; exact hW3.out.ou) _ hS3.out ?_; intro U4 hO4 u4; simp only [Act.put, qzG, qzH, qzI]))
 have hW4 : Hid (Wk w U4 b' c m { s.sz with hol := s.hol, used := s.used } n) := hW3.out.newU H2.out.symm u4 (by show Own U4 w.heap.size 4 1 eB (.slice (some ⟨n.u, 0, none⟩) s.sz.used.length n.uc) s.used; rw [H2.out]; exact hO4)
 have gsU4 := gsU3.upd u4 (by have := hne.out; have := hls.out; omega)
 have grU4 := grU3.upd u4 (by have := hne.out; omega)
 have hS4 : Hid (Stm U4 s q) := HS.out.then_ (hW4.out.hb)
 clear hO4 u4 hW3 hS3 gsU3 grU3
 have k10 : U4.cell? ⟨b', 10, none⟩ = some (.slice (some ⟨n.m, 0, none⟩) s.marks.length n.mc) := by rw [← H3.out]; exact hW4.out.g.cell 10
 have s3 : U4.cell? ⟨bs, 3, none⟩ = some (.slice q.m s.marks.length q.mc) := gsU4.cell 3
 have rg0 := cR k10
 have rg1 := cR s3
 refine xAe [0, 1, 2, 3, 4, 5, 6] [7] (by kernel_rfl) (by kernel_rfl) pO ?_
 simp only [xAm, qzA, qzB, qzC, qzD, qzE, qzF]
 repeat (go_big_quiet_step (skip))
 refine wpQuiet_nil ?_
 intro U5 hw2
 have hbU5 := xAh hw2
 clear hw2 rg0 rg1
 have hW5 := qzL (hW4.out.then_ hbU5)
 have hS5 := qzL ((hS4.out.then_ hbU5).m)
 have grU5 := grU4.then_ hbU5
 clear k10 s3 gsU4 grU4 hbU5 hW4 hS4
 go_upto_region 9 with ((refine xB8 rfl (.tmp 69) (.tmp 71) _ _ rfl 46 Tryz.underlying41 5 (by kernel_rfl) (by decide) eM xA6 xGx n.m s.marks.length n.mc q.mc q.m s.marks s.sz.marks rfl H3.out rfl rfl w.heap.size 46 (by rw [← H3.out]; exact hW5.out.om) _ hS5.out ?_; intro U6 hO6 u6; simp only [Act.put, qzG, qzH, qzI]))
 have hW6 : Hid (Wk w U6 b' c m s n) := hW5.out.newM (l := s.marks) H3.out.symm u6 (by show Own U6 w.heap.size 46 5 eM (.slice (some ⟨n.m, 0, none⟩) s.sz.marks.length n.mc) s.marks; rw [H3.out]; exact hO6)
 have grU6 := grU5.upd u6 (by have := hne.out; omega)
 clear hO6 u6 hW5 hS5 grU5
 have fin : ∀ (V : World) (p : Nat → Prop), (∀ x, p x → x = b' ∨ pS n x) → Wk w V b' c m (s.step c x) n → Kept U6 V p → Blk V br 43 zS := fun V p hp hV hk => grU6.kept hk (fun h => by have := hne.out; rcases hp _ h with e | e | e | e <;> omega)
 have FIN := qzL fin
 clear fin
 cases hx : (x == -1) with
 | true =>
  have hxe : x = -1 := eq_of_beq hx
  have hst : Hid (s.step c x = s.tick c) := by unfold Hid Sta.step; rw [if_pos hxe]
  have HT := qzL (tick_any w b' c m s n U6 hW6.out HSO.out.vc HSO.out.h HSO.out.day_bd HSO.out.marks_bd.1)
  clear hxe
  go_upto_region 12 with (go_at_call 54; (with_reducible refine HT.out.mono ?_); rintro e w7 ⟨rfl, h1, h2⟩)
  have hW7 : Hid (Wk w w7 b' c m (s.step c x) n) := by unfold Hid; rw [hst.out]; exact h1
  have gr7 := FIN.out w7 _ (fun x h => by rcases h with h | h; exact .inl h; exact .inr (.inr (.inr h))) hW7.out h2
  clear h1 h2 HT FIN hW6 grU6
  obtain ⟨T, hT⟩ : ∃ T, s.step c x = T := ⟨_, rfl⟩
  rw [hT] at hW7
  have HTT := qzL hT
  clear hT
  have k7 : w7.cell? ⟨b', 7, none⟩ = some (.int .i64 T.day) := hW7.out.g.cell 7
  have k8 : w7.cell? ⟨b', 8, none⟩ = some (.slice (some ⟨n.h, 0, none⟩) T.hol.length n.hc) := hW7.out.g.cell 8
  have k9 : w7.cell? ⟨b', 9, none⟩ = some (.slice (some ⟨n.u, 0, none⟩) T.used.length n.uc) := hW7.out.g.cell 9
  have k10 : w7.cell? ⟨b', 10, none⟩ = some (.slice (some ⟨n.m, 0, none⟩) T.marks.length n.mc) := hW7.out.g.cell 10
  go_wp2_with ((refine xAg rfl 43 _ _ rfl br 43 [] zS.toList [] [.int .i64 T.day, .slice (some ⟨n.h, 0, none⟩) T.hol.length n.hc, .slice (some ⟨n.u, 0, none⟩) T.used.length n.uc, .slice (some ⟨n.m, 0, none⟩) T.marks.length n.mc] rfl rfl gr7 rfl (by kernel_rfl) (by simp [Value.oneCell']) ?_; intro we ge ue))
  refine bodyPost_ret (xBg rfl rfl ge ⟨_, Tryz.underlying43⟩ (by kernel_rfl)) rfl ?_
  rw [hE0.out, hF0.out, HTT.out]
  exact (hW7.out.updG ue (by have := hne.out; omega) lbr.out).ret
 | false =>
  have hxe : x ≠ -1 := by intro e; rw [e] at hx; simp at hx
  obtain ⟨k, hk⟩ : ∃ k : Nat, x = (k : Int) := ⟨x.toNat, by have := HXR.out; omega⟩
  have hst : Hid (s.step c x = s.act c k) := by unfold Hid Sta.step; rw [if_neg hxe, hk, Int.toNat_natCast]
  obtain ⟨a, ha⟩ : ∃ a, c.ac[k]? = some a := ⟨_, qzJ (by have := HXR.out; omega)⟩
  have HT := qzL (wact_any w b' c m s n k a U6 hW6.out HSO.out.vc HSO.out.h HSO.out.u ha HSO.out.marks_bd.2)
  rw [← hk] at HT
  clear hxe hk ha
  go_upto_region 12 with (go_at_call 55; (with_reducible refine HT.out.mono ?_); rintro e w7 ⟨rfl, h1, h2⟩)
  have hW7 : Hid (Wk w w7 b' c m (s.step c x) n) := by unfold Hid; rw [hst.out]; exact h1
  have gr7 := FIN.out w7 _ (fun x h => .inr h) hW7.out h2
  clear h1 h2 HT FIN hW6 grU6
  obtain ⟨T, hT⟩ : ∃ T, s.step c x = T := ⟨_, rfl⟩
  rw [hT] at hW7
  have HTT := qzL hT
  clear hT
  have k7 : w7.cell? ⟨b', 7, none⟩ = some (.int .i64 T.day) := hW7.out.g.cell 7
  have k8 : w7.cell? ⟨b', 8, none⟩ = some (.slice (some ⟨n.h, 0, none⟩) T.hol.length n.hc) := hW7.out.g.cell 8
  have k9 : w7.cell? ⟨b', 9, none⟩ = some (.slice (some ⟨n.u, 0, none⟩) T.used.length n.uc) := hW7.out.g.cell 9
  have k10 : w7.cell? ⟨b', 10, none⟩ = some (.slice (some ⟨n.m, 0, none⟩) T.marks.length n.mc) := hW7.out.g.cell 10
  go_wp2_with ((refine xAg rfl 43 _ _ rfl br 43 [] zS.toList [] [.int .i64 T.day, .slice (some ⟨n.h, 0, none⟩) T.hol.length n.hc, .slice (some ⟨n.u, 0, none⟩) T.used.length n.uc, .slice (some ⟨n.m, 0, none⟩) T.marks.length n.mc] rfl rfl gr7 rfl (by kernel_rfl) (by simp [Value.oneCell']) ?_; intro we ge ue))
  refine bodyPost_ret (xBg rfl rfl ge ⟨_, Tryz.underlying43⟩ (by kernel_rfl)) rfl ?_
  rw [hE0.out, hF0.out, HTT.out]
  exact (hW7.out.updG ue (by have := hne.out; omega) lbr.out).ret
end Go.Proofs.YtginnonjdbpamaaGreatDoor
