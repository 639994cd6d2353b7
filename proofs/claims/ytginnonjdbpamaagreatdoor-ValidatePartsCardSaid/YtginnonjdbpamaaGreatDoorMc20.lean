/- Contracts of functions and plain laws, joined: Sl. -/
import Derived.Test.YtginnonjdbpamaaGreatDoorMc19
/- The walk of system.Start. -/
import Derived.Test.YtginnonjdbpamaaGreatDoorMc1
set_option maxHeartbeats 12800000
set_option maxRecDepth 100000
namespace Go.Proofs.YtginnonjdbpamaaGreatDoor
open Go.RowKit Go.Sort
def xC0 (k : Cla) : Mk := if k.waived then { Mk.idle with st := 5 } else Mk.idle
abbrev Con.s0 (c : Con) : Sta := ⟨0, c.hold, List.replicate c.ac.length false, List.replicate c.cl.length Mk0⟩
def Con.startE (c : Con) : Int := if c.ok then 0 else 1
def Con.startS (c : Con) : Sta := if c.ok then c.first else Sta.zero
theorem own_some {α : Type} {w : World} {B : Nat} {T : TypeId} {size : Nat} {enc : α → List Value} {v : Value} {xs : List α} (h : Own w B T size enc v xs) (hx : 0 < xs.length) : ∃ g cap, v = .slice (some ⟨g, 0, none⟩) xs.length cap ∧ Own w B T size enc (.slice (some ⟨g, 0, none⟩) xs.length cap) xs ∧ B ≤ g := by
 obtain ⟨g, cap, e, h1, _⟩ := h.blk (fun e => by have := lenV_own h; rw [e] at this; simp [lenV] at this; omega)
 subst e
 exact ⟨g, cap, rfl, h, h1⟩
theorem xEf {w V : World} {c : Con} {m : Cm} {g3 c3 g7 g11 : Nat} (hC : Cont w c m) (hB : Below w.heap.size w V)
  (o3 : Own V w.heap.size 3 1 eI (.slice (some ⟨g3, 0, none⟩) c.hold.length c3) c.hold) (o7 : Own V w.heap.size 4 1 eB (.slice (some ⟨g7, 0, none⟩) c.ac.length c.ac.length) (List.replicate c.ac.length false)) (o11 : Own V w.heap.size 46 5 eM (.slice (some ⟨g11, 0, none⟩) c.cl.length c.cl.length) (List.replicate c.cl.length Mk0)) :
  Wk w (V.alloc (.cells #[.int .i64 c.par, .slice m.h c.hold.length m.hc, .slice m.u c.un.length m.uc, .slice m.a c.ac.length m.ac, .slice m.k c.cl.length m.kc, .int .i64 c.days, .slice m.o c.off.length m.oc, .int .i64 0, .slice (some ⟨g3, 0, none⟩) c.hold.length c3, .slice (some ⟨g7, 0, none⟩) c.ac.length c.ac.length, .slice (some ⟨g11, 0, none⟩) c.cl.length c.cl.length] 113)) V.heap.size c m c.s0 ⟨g3, c3, g7, c.ac.length, g11, c.cl.length⟩ := by
 have e2 : c.s0.used.length = c.ac.length := List.length_replicate
 have e3 : c.s0.marks.length = c.cl.length := List.length_replicate
 refine ⟨?_, o3.alloc _, ?_, ?_, xAc hB _, hB.size, hC, e3, hC.nh, by rw [e2]; exact hC.na⟩
 ·unfold wkA
  rw [e2, e3]
  exact Blk.new _ _ _
 ·rw [e2]; exact o7.alloc _
 ·rw [e3]; exact o11.alloc _
theorem mixM_const {f : Cla → Mk} {cl : List Cla} : List.zipWith (fun k _ => f k) cl (List.replicate cl.length Mk0) = cl.map f := by
 refine List.ext_getElem? fun i => ?_
 rw [List.getElem?_zipWith, List.getElem?_map]
 by_cases hi : i < cl.length
 ·rw [qzJ hi, List.getElem?_replicate, if_pos hi]; rfl
 ·rw [List.getElem?_eq_none (by omega)]; simp
structure SL (w w1 W : World) (b : Nat) (c : Con) (m : Cm) (n : Qn) (i : Nat) : Prop where
 wk : Wk w W b c m { c.s0 with marks := mixM (fun k _ => xC0 k) c.cl (List.replicate c.cl.length Mk0) i } n
 k : Kept w1 W (· = n.m)
theorem start0_any (c : Con) (m : Cm) (w : World) (hC : Cont w c m) : Calls Tryz.prog 24 #[.agg (coA c m)] w fun e w' => RetS w c.startS c.startE e w' := by
 obtain ⟨E, hE⟩ : ∃ E, c.startE = E := ⟨_, rfl⟩
 obtain ⟨F, hF⟩ : ∃ F, c.startS = F := ⟨_, rfl⟩
 rw [hE, hF]
 have HE : Hid (E = if c.ok then 0 else 1) := hE.symm
 have HF : Hid (F = if c.ok then c.first else Sta.zero) := hF.symm
 have HC := qzL hC
 have HV := qzL (fun W (hb : Below w.heap.size w W) => xGn c m W (hC.then_ hb))
 have nh := hC.nh
 have na := hC.na
 have nk := hC.nk
 have ch := hC.ch
 clear hE hF hC
 go_enter Tryz.func24, Tryz.ntmps24
 go_upto_region 1 with (fail)
 refine xAf ?_
 intro X hX
 have ga : Blk X w.heap.size 27 (coA c m) := by rw [hX]; exact (xA5 (by simp)).alloc _
 have gr : Blk X (w.heap.size + 1) 43 zS := by rw [hX]; exact xA5 (by simp)
 have HB : Below w.heap.size w X := by rw [hX]; (repeat (first | exact Below.refl _ _ | refine xAc ?_ _))
 obtain ⟨br, ebr⟩ : ∃ b, w.heap.size + 1 = b := ⟨_, rfl⟩
 obtain ⟨ba, eba⟩ : ∃ b, w.heap.size = b := ⟨_, rfl⟩
 have lbr : Hid (w.heap.size ≤ br) := by unfold Hid; omega
 rw [ebr] at gr ⊢
 rw [eba] at ga ⊢
 clear hX ebr eba
 obtain ⟨k0, k1, k2, k3, k4, k5, k6⟩ := coC (c := c) (m := m) ga rfl
 cases hok : c.ok with
 | false =>
  have hz : Hid (E = 1 ∧ F = Sta.zero) := ⟨by rw [HE.out, hok]; rfl, by rw [HF.out, hok]; rfl⟩
  go_wp2_with (first | (go_at_call 50; (with_reducible refine (HV.out _ HB).mono ?_); rintro e w1 ⟨⟨ea, eb, rfl, he⟩, hb1⟩; have hea : (ea == 0) = false := (by cases hq : (ea == 0) with | false => rfl | true => exact absurd (he.1 (eq_of_beq hq)) (by rw [hok]; decide)); have hea' : (ea != 0) = true := (by simp [bne, hea]); have gr1 := gr.then_ hb1; clear he) | (refine xAg rfl 43 _ _ rfl br 43 [] zS.toList [] zS.toList rfl rfl gr1 rfl (by kernel_rfl) (by simp [Value.oneCell']) ?_; intro we ge ue))
  refine bodyPost_ret (xBg rfl rfl ge ⟨_, Tryz.underlying43⟩ (by kernel_rfl)) rfl ?_
  rw [hz.out.1, hz.out.2]
  exact RetS.zero ((xAa HB hb1).trans (ue.b _ lbr.out))
 | true =>
 have hz : Hid (E = 0 ∧ F = c.first) := ⟨by rw [HE.out, hok]; rfl, by rw [HF.out, hok]; rfl⟩
 have HOK := qzL hok
 obtain ⟨_, _, hh0, _⟩ := xGz hok
 clear hok HE HF
 go_upto_region 4 with (go_at_call 50; (with_reducible refine (HV.out _ HB).mono ?_); rintro e w1 ⟨⟨ea, eb, rfl, he⟩, hb1⟩; obtain rfl : ea = 0 := he.2 HOK.out; clear he)
 refine xAf ?_
 intro Y hY
 have gaY : Blk Y ba 27 (coA c m) := by rw [hY]; exact ga.then_ hb1
 have grY : Blk Y br 43 zS := by rw [hY]; exact gr.then_ hb1
 have hYB : Hid (Below w.heap.size w Y) := by rw [hY]; exact xAa HB hb1
 have lwY := hYB.out.size
 clear hY hb1 HB ga gr HV k0 k1 k2 k3 k4 k5 k6
 have HCL : Hid (∀ W, Below Y.heap.size Y W → Calls Tryz.prog 51 #[.slice m.h c.hold.length m.hc] W fun e w' => (∃ g cap, e = .returned (.slice (some ⟨g, 0, none⟩) c.hold.length cap) ∧ Own w' w.heap.size 3 1 eI (.slice (some ⟨g, 0, none⟩) c.hold.length cap) c.hold ∧ Y.heap.size ≤ g) ∧ Below W.heap.size W w') := fun W hb =>
  (xEe m.h m.hc c.hold W nh (HC.out.then_ (xAa hYB.out hb)).h ch).mono fun e w' ⟨⟨v, h1, h2⟩, h3⟩ => by
   obtain ⟨g, cap, h4, h5, h6⟩ := own_some h2 hh0
   subst h4
   exact ⟨⟨g, cap, h1, h5.more (by have := hb.size; omega), by have := hb.size; omega⟩, h3⟩
 obtain ⟨i2, hi2, hz20, hz21, hz22⟩ := info_parts (show (Tryz.prog.info? 4).map (fun i => (i.zero, i.size, i.bytes)) = some (some (.bool false), 1, 1) by kernel_rfl)
 obtain ⟨i3, hi3, hz30, hz31, hz32⟩ := info_parts (show (Tryz.prog.info? 46).map (fun i => (i.zero, i.size, i.bytes)) = some (some (.agg #[.int .i64 0, .int .i64 0, .int .i64 0, .int .i64 0, .bool false]), 5, 40) by kernel_rfl)
 have hm2 : ∀ W : World, (Instr.makeSlice 40 (.int .i64 (c.ac.length : Nat)) (.int .i64 (c.ac.length : Nat))).run Tryz.prog W = _ := fun W => xD7 (enc := eB) (y := false) Tryz.underlying40 hi2 hz20 hz21 hz22 (by omega) rfl (by omega) W
 have hm3 : ∀ W : World, (Instr.makeSlice 41 (.int .i64 (c.cl.length : Nat)) (.int .i64 (c.cl.length : Nat))).run Tryz.prog W = _ := fun W => xD7 (enc := eM) (y := Mk0) Tryz.underlying41 hi3 hz30 hz31 hz32 (by omega) rfl (by omega) W
 go_cut [6] from 17 to 32 (fun v W => ∃ (b' : Nat) (n : Qn), v = .pointer (some ⟨b', 0, none⟩) ∧ Hid (Wk w W b' c m c.s0 n) ∧ Hid (Below Y.heap.size Y W) ∧ Hid (br < Y.heap.size ∧ ba < Y.heap.size ∧ Y.heap.size ≤ b' ∧ Y.heap.size ≤ n.h ∧ Y.heap.size ≤ n.u ∧ Y.heap.size ≤ n.m))
 case first =>
  refine xBo (fun w' => Hid (Below Y.heap.size Y w')) [0, 1, 2, 3, 4, 5, 6, 7, 8, 9, 10, 11, 12, 13] [14, 15] (by kernel_rfl) (by kernel_rfl) pO (qzL (Below.drew (Below.refl _ _))) (fun hdir hsel hpan hHeld => ?_)
  refine xAd (i := 0) (oi := ⟨some 17, _, _, _, _, _⟩) hdir hsel hpan rfl (by kernel_rfl) (by kernel_rfl) (by kernel_rfl) (yieldsIf_row (by rfl) 27 _ rfl ba rfl 27 _ (fun w hw => (gaY.then_ hw.out)) ⟨_, Tryz.underlying27⟩ (by kernel_rfl)) (by assumption) ?_
  try simp only [Act.put, qzG, qzI, qzH]
  refine xAd (i := 1) (oi := ⟨some 18, _, _, _, _, _⟩) (v := .pointer (some ⟨ba, 1, none⟩)) hdir hsel hpan rfl (by kernel_rfl) (by kernel_rfl) (by kernel_rfl) (Or.inl ⟨by rfl, fun w hw => by go_simp⟩) (by assumption) ?_
  try simp only [Act.put, qzG, qzI, qzH]
  refine xAd (i := 2) (oi := ⟨some 19, _, _, _, _, _⟩) (v := .slice m.h c.hold.length m.hc) hdir hsel hpan rfl (by kernel_rfl) (by kernel_rfl) (by kernel_rfl) (Or.inl ⟨by rfl, fun w hw => by have hc := (gaY.then_ hw.out).cell 1; go_simp⟩) (by assumption) ?_
  try simp only [Act.put, qzG, qzI, qzH]
  refine xAd (i := 4) (oi := ⟨some 21, _, _, _, _, _⟩) (v := .pointer (some ⟨ba, 3, none⟩)) hdir hsel hpan rfl (by kernel_rfl) (by kernel_rfl) (by kernel_rfl) (Or.inl ⟨by rfl, fun w hw => by go_simp⟩) (by assumption) ?_
  try simp only [Act.put, qzG, qzI, qzH]
  refine xAd (i := 5) (oi := ⟨some 22, _, _, _, _, _⟩) (v := .slice m.a c.ac.length m.ac) hdir hsel hpan rfl (by kernel_rfl) (by kernel_rfl) (by kernel_rfl) (Or.inl ⟨by rfl, fun w hw => by have hc := (gaY.then_ hw.out).cell 3; go_simp⟩) (by assumption) ?_
  try simp only [Act.put, qzG, qzI, qzH]
  refine xAd (i := 6) (oi := ⟨some 23, _, _, _, _, _⟩) (v := .int .i64 (c.ac.length : Nat)) hdir hsel hpan rfl (by kernel_rfl) (by kernel_rfl) (by kernel_rfl) (Or.inl ⟨by rfl, fun w hw => by go_simp⟩) (by assumption) ?_
  try simp only [Act.put, qzG, qzI, qzH]
  refine xAd (i := 8) (oi := ⟨some 25, _, _, _, _, _⟩) (v := .pointer (some ⟨ba, 4, none⟩)) hdir hsel hpan rfl (by kernel_rfl) (by kernel_rfl) (by kernel_rfl) (Or.inl ⟨by rfl, fun w hw => by go_simp⟩) (by assumption) ?_
  try simp only [Act.put, qzG, qzI, qzH]
  refine xAd (i := 9) (oi := ⟨some 26, _, _, _, _, _⟩) (v := .slice m.k c.cl.length m.kc) hdir hsel hpan rfl (by kernel_rfl) (by kernel_rfl) (by kernel_rfl) (Or.inl ⟨by rfl, fun w hw => by have hc := (gaY.then_ hw.out).cell 4; go_simp⟩) (by assumption) ?_
  try simp only [Act.put, qzG, qzI, qzH]
  refine xAd (i := 10) (oi := ⟨some 27, _, _, _, _, _⟩) (v := .int .i64 (c.cl.length : Nat)) hdir hsel hpan rfl (by kernel_rfl) (by kernel_rfl) (by kernel_rfl) (Or.inl ⟨by rfl, fun w hw => by go_simp⟩) (by assumption) ?_
  try simp only [Act.put, qzG, qzI, qzH]
  refine xAr (rs := [3, 7, 11]) (by kernel_rfl) (by simp) ?_
  refine AllHB.cons (by kernel_rfl) (o := ⟨some 20, _, _, _, _, _⟩) rfl (fun K hK => ?_) ?_
  ·go_simp
   have lla := hHeld.out.size
   (go_at_call 51; (with_reducible refine (HCL.out _ hHeld.out).mono ?_); rintro e V3 ⟨⟨g3, c3, rfl, o3, l3⟩, hb3⟩)
   try (replace o7 := o7.below hb3)
   try (replace o11 := o11.below hb3)
   refine hK.out _ _ (qzL (xAa hHeld.out hb3)) (fun hHeld2 => ?_)
   clear hK K hHeld
   have hHeld := hHeld2
   clear hHeld2
   try simp only [Act.put, qzG, qzI, qzH]
   refine xAr (rs := [7, 11]) (by kernel_rfl) (by simp) ?_
   refine AllHB.cons (by kernel_rfl) (o := ⟨some 24, _, _, _, _, _⟩) rfl (fun K hK => ?_) ?_
   ·go_simp
    have lla := hHeld.out.size
    refine xBj ?_
    intro V7 hV7
    obtain ⟨g7, e7, o7, hb7, l7⟩ := (by first | exact xAn (B := w.heap.size) (enc := eB) (y := false) (n := c.ac.length) xBd (by decide) (by omega) (by omega) hV7 (by simp) | exact xAn (W := Y.drew) (B := w.heap.size) (enc := eB) (y := false) (n := c.ac.length) xBd (by decide) (by omega) (by show w.heap.size ≤ Y.heap.size; omega) hV7 (by simp) : ∃ g, _)
    try rw [e7]
    try (have e72 : Y.heap.size = g7 := e7; rw [e72])
    try (replace o3 := o3.below hb7)
    try (replace o11 := o11.below hb7)
    clear hV7
    refine hK.out _ _ (qzL (xAa hHeld.out hb7)) (fun hHeld2 => ?_)
    clear hK K hHeld
    have hHeld := hHeld2
    clear hHeld2
    try simp only [Act.put, qzG, qzI, qzH]
    refine xAr (rs := [11]) (by kernel_rfl) (by simp) ?_
    refine AllHB.cons (by kernel_rfl) (o := ⟨some 28, _, _, _, _, _⟩) rfl (fun K hK => ?_) AllHB.nil
    go_simp
    have lla := hHeld.out.size
    refine xBj ?_
    intro V11 hV11
    obtain ⟨g11, e11, o11, hb11, l11⟩ := (by first | exact xAn (B := w.heap.size) (enc := eM) (y := Mk0) (n := c.cl.length) xA6 (by decide) (by omega) (by omega) hV11 (by simp) | exact xAn (W := Y.drew) (B := w.heap.size) (enc := eM) (y := Mk0) (n := c.cl.length) xA6 (by decide) (by omega) (by show w.heap.size ≤ Y.heap.size; omega) hV11 (by simp) : ∃ g, _)
    try rw [e11]
    try (have e112 : Y.heap.size = g11 := e11; rw [e112])
    try (replace o3 := o3.below hb11)
    try (replace o7 := o7.below hb11)
    clear hV11
    refine hK.out _ _ (qzL (xAa hHeld.out hb11)) (fun hHeld2 => ?_)
    clear hK K hHeld
    have hHeld := hHeld2
    clear hHeld2
    try simp only [Act.put, qzG, qzI, qzH]
    refine xAd (i := 12) (oi := ⟨some 29, _, _, _, _, _⟩) (v := .agg #[.int .i64 0, .slice (some ⟨g3, 0, none⟩) c.hold.length c3, .slice (some ⟨g7, 0, none⟩) c.ac.length c.ac.length, .slice (some ⟨g11, 0, none⟩) c.cl.length c.cl.length]) hdir hsel hpan rfl (by kernel_rfl) (by kernel_rfl) (by kernel_rfl) (Or.inl ⟨by rfl, fun w hw => by go_simp⟩) (by assumption) ?_
    try simp only [Act.put, qzG, qzI, qzH]
    refine xAd (i := 13) (oi := ⟨some 30, _, _, _, _, _⟩) (v := .agg #[.int .i64 c.par, .slice m.h c.hold.length m.hc, .slice m.u c.un.length m.uc, .slice m.a c.ac.length m.ac, .slice m.k c.cl.length m.kc, .int .i64 c.days, .slice m.o c.off.length m.oc, .int .i64 0, .slice (some ⟨g3, 0, none⟩) c.hold.length c3, .slice (some ⟨g7, 0, none⟩) c.ac.length c.ac.length, .slice (some ⟨g11, 0, none⟩) c.cl.length c.cl.length]) hdir hsel hpan rfl (by kernel_rfl) (by kernel_rfl) (by kernel_rfl) (Or.inl ⟨by rfl, fun w hw => by go_simp⟩) (by assumption) ?_
    try simp only [Act.put, qzG, qzI, qzH]
    refine xBf (by kernel_rfl) (by kernel_rfl) ?_
    clear hdir hsel hpan
    simp only [xAm, qzA, qzB, qzC, qzD, qzE, qzF]
    go_wp2
    go_meet
    case rel => exact ⟨_, ⟨g3, c3, g7, _, g11, _⟩, rfl, qzL (xEf HC.out (xAa hYB.out hHeld.out) o3 o7 o11), qzL (hHeld.out.alloc hHeld.out.size _), qzL ⟨grY.lt, gaY.lt, hHeld.out.size, by show Y.heap.size ≤ g3; first | omega | (have ey : Y.drew.heap.size = Y.heap.size := rfl; omega), by show Y.heap.size ≤ g7; first | omega | (have ey : Y.drew.heap.size = Y.heap.size := rfl; omega), by show Y.heap.size ≤ g11; first | omega | (have ey : Y.drew.heap.size = Y.heap.size := rfl; omega)⟩⟩
   refine AllHB.cons (by kernel_rfl) (o := ⟨some 28, _, _, _, _, _⟩) rfl (fun K hK => ?_) ?_
   ·go_simp
    have lla := hHeld.out.size
    refine xBj ?_
    intro V11 hV11
    obtain ⟨g11, e11, o11, hb11, l11⟩ := (by first | exact xAn (B := w.heap.size) (enc := eM) (y := Mk0) (n := c.cl.length) xA6 (by decide) (by omega) (by omega) hV11 (by simp) | exact xAn (W := Y.drew) (B := w.heap.size) (enc := eM) (y := Mk0) (n := c.cl.length) xA6 (by decide) (by omega) (by show w.heap.size ≤ Y.heap.size; omega) hV11 (by simp) : ∃ g, _)
    try rw [e11]
    try (have e112 : Y.heap.size = g11 := e11; rw [e112])
    try (replace o3 := o3.below hb11)
    try (replace o7 := o7.below hb11)
    clear hV11
    refine hK.out _ _ (qzL (xAa hHeld.out hb11)) (fun hHeld2 => ?_)
    clear hK K hHeld
    have hHeld := hHeld2
    clear hHeld2
    try simp only [Act.put, qzG, qzI, qzH]
    refine xAr (rs := [7]) (by kernel_rfl) (by simp) ?_
    refine AllHB.cons (by kernel_rfl) (o := ⟨some 24, _, _, _, _, _⟩) rfl (fun K hK => ?_) AllHB.nil
    go_simp
    have lla := hHeld.out.size
    refine xBj ?_
    intro V7 hV7
    obtain ⟨g7, e7, o7, hb7, l7⟩ := (by first | exact xAn (B := w.heap.size) (enc := eB) (y := false) (n := c.ac.length) xBd (by decide) (by omega) (by omega) hV7 (by simp) | exact xAn (W := Y.drew) (B := w.heap.size) (enc := eB) (y := false) (n := c.ac.length) xBd (by decide) (by omega) (by show w.heap.size ≤ Y.heap.size; omega) hV7 (by simp) : ∃ g, _)
    try rw [e7]
    try (have e72 : Y.heap.size = g7 := e7; rw [e72])
    try (replace o3 := o3.below hb7)
    try (replace o11 := o11.below hb7)
    clear hV7
    refine hK.out _ _ (qzL (xAa hHeld.out hb7)) (fun hHeld2 => ?_)
    clear hK K hHeld
    have hHeld := hHeld2
    clear hHeld2
    try simp only [Act.put, qzG, qzI, qzH]
    refine xAd (i := 12) (oi := ⟨some 29, _, _, _, _, _⟩) (v := .agg #[.int .i64 0, .slice (some ⟨g3, 0, none⟩) c.hold.length c3, .slice (some ⟨g7, 0, none⟩) c.ac.length c.ac.length, .slice (some ⟨g11, 0, none⟩) c.cl.length c.cl.length]) hdir hsel hpan rfl (by kernel_rfl) (by kernel_rfl) (by kernel_rfl) (Or.inl ⟨by rfl, fun w hw => by go_simp⟩) (by assumption) ?_
    try simp only [Act.put, qzG, qzI, qzH]
    refine xAd (i := 13) (oi := ⟨some 30, _, _, _, _, _⟩) (v := .agg #[.int .i64 c.par, .slice m.h c.hold.length m.hc, .slice m.u c.un.length m.uc, .slice m.a c.ac.length m.ac, .slice m.k c.cl.length m.kc, .int .i64 c.days, .slice m.o c.off.length m.oc, .int .i64 0, .slice (some ⟨g3, 0, none⟩) c.hold.length c3, .slice (some ⟨g7, 0, none⟩) c.ac.length c.ac.length, .slice (some ⟨g11, 0, none⟩) c.cl.length c.cl.length]) hdir hsel hpan rfl (by kernel_rfl) (by kernel_rfl) (by kernel_rfl) (Or.inl ⟨by rfl, fun w hw => by go_simp⟩) (by assumption) ?_
    try simp only [Act.put, qzG, qzI, qzH]
    refine xBf (by kernel_rfl) (by kernel_rfl) ?_
    clear hdir hsel hpan
    simp only [xAm, qzA, qzB, qzC, qzD, qzE, qzF]
    go_wp2
    go_meet
    case rel => exact ⟨_, ⟨g3, c3, g7, _, g11, _⟩, rfl, qzL (xEf HC.out (xAa hYB.out hHeld.out) o3 o7 o11), qzL (hHeld.out.alloc hHeld.out.size _), qzL ⟨grY.lt, gaY.lt, hHeld.out.size, by show Y.heap.size ≤ g3; first | omega | (have ey : Y.drew.heap.size = Y.heap.size := rfl; omega), by show Y.heap.size ≤ g7; first | omega | (have ey : Y.drew.heap.size = Y.heap.size := rfl; omega), by show Y.heap.size ≤ g11; first | omega | (have ey : Y.drew.heap.size = Y.heap.size := rfl; omega)⟩⟩
   exact AllHB.nil
  refine AllHB.cons (by kernel_rfl) (o := ⟨some 24, _, _, _, _, _⟩) rfl (fun K hK => ?_) ?_
  ·go_simp
   have lla := hHeld.out.size
   refine xBj ?_
   intro V7 hV7
   obtain ⟨g7, e7, o7, hb7, l7⟩ := (by first | exact xAn (B := w.heap.size) (enc := eB) (y := false) (n := c.ac.length) xBd (by decide) (by omega) (by omega) hV7 (by simp) | exact xAn (W := Y.drew) (B := w.heap.size) (enc := eB) (y := false) (n := c.ac.length) xBd (by decide) (by omega) (by show w.heap.size ≤ Y.heap.size; omega) hV7 (by simp) : ∃ g, _)
   try rw [e7]
   try (have e72 : Y.heap.size = g7 := e7; rw [e72])
   try (replace o3 := o3.below hb7)
   try (replace o11 := o11.below hb7)
   clear hV7
   refine hK.out _ _ (qzL (xAa hHeld.out hb7)) (fun hHeld2 => ?_)
   clear hK K hHeld
   have hHeld := hHeld2
   clear hHeld2
   try simp only [Act.put, qzG, qzI, qzH]
   refine xAr (rs := [3, 11]) (by kernel_rfl) (by simp) ?_
   refine AllHB.cons (by kernel_rfl) (o := ⟨some 20, _, _, _, _, _⟩) rfl (fun K hK => ?_) ?_
   ·go_simp
    have lla := hHeld.out.size
    (go_at_call 51; (with_reducible refine (HCL.out _ hHeld.out).mono ?_); rintro e V3 ⟨⟨g3, c3, rfl, o3, l3⟩, hb3⟩)
    try (replace o7 := o7.below hb3)
    try (replace o11 := o11.below hb3)
    refine hK.out _ _ (qzL (xAa hHeld.out hb3)) (fun hHeld2 => ?_)
    clear hK K hHeld
    have hHeld := hHeld2
    clear hHeld2
    try simp only [Act.put, qzG, qzI, qzH]
    refine xAr (rs := [11]) (by kernel_rfl) (by simp) ?_
    refine AllHB.cons (by kernel_rfl) (o := ⟨some 28, _, _, _, _, _⟩) rfl (fun K hK => ?_) AllHB.nil
    go_simp
    have lla := hHeld.out.size
    refine xBj ?_
    intro V11 hV11
    obtain ⟨g11, e11, o11, hb11, l11⟩ := (by first | exact xAn (B := w.heap.size) (enc := eM) (y := Mk0) (n := c.cl.length) xA6 (by decide) (by omega) (by omega) hV11 (by simp) | exact xAn (W := Y.drew) (B := w.heap.size) (enc := eM) (y := Mk0) (n := c.cl.length) xA6 (by decide) (by omega) (by show w.heap.size ≤ Y.heap.size; omega) hV11 (by simp) : ∃ g, _)
    try rw [e11]
    try (have e112 : Y.heap.size = g11 := e11; rw [e112])
    try (replace o3 := o3.below hb11)
    try (replace o7 := o7.below hb11)
    clear hV11
    refine hK.out _ _ (qzL (xAa hHeld.out hb11)) (fun hHeld2 => ?_)
    clear hK K hHeld
    have hHeld := hHeld2
    clear hHeld2
    try simp only [Act.put, qzG, qzI, qzH]
    refine xAd (i := 12) (oi := ⟨some 29, _, _, _, _, _⟩) (v := .agg #[.int .i64 0, .slice (some ⟨g3, 0, none⟩) c.hold.length c3, .slice (some ⟨g7, 0, none⟩) c.ac.length c.ac.length, .slice (some ⟨g11, 0, none⟩) c.cl.length c.cl.length]) hdir hsel hpan rfl (by kernel_rfl) (by kernel_rfl) (by kernel_rfl) (Or.inl ⟨by rfl, fun w hw => by go_simp⟩) (by assumption) ?_
    try simp only [Act.put, qzG, qzI, qzH]
    refine xAd (i := 13) (oi := ⟨some 30, _, _, _, _, _⟩) (v := .agg #[.int .i64 c.par, .slice m.h c.hold.length m.hc, .slice m.u c.un.length m.uc, .slice m.a c.ac.length m.ac, .slice m.k c.cl.length m.kc, .int .i64 c.days, .slice m.o c.off.length m.oc, .int .i64 0, .slice (some ⟨g3, 0, none⟩) c.hold.length c3, .slice (some ⟨g7, 0, none⟩) c.ac.length c.ac.length, .slice (some ⟨g11, 0, none⟩) c.cl.length c.cl.length]) hdir hsel hpan rfl (by kernel_rfl) (by kernel_rfl) (by kernel_rfl) (Or.inl ⟨by rfl, fun w hw => by go_simp⟩) (by assumption) ?_
    try simp only [Act.put, qzG, qzI, qzH]
    refine xBf (by kernel_rfl) (by kernel_rfl) ?_
    clear hdir hsel hpan
    simp only [xAm, qzA, qzB, qzC, qzD, qzE, qzF]
    go_wp2
    go_meet
    case rel => exact ⟨_, ⟨g3, c3, g7, _, g11, _⟩, rfl, qzL (xEf HC.out (xAa hYB.out hHeld.out) o3 o7 o11), qzL (hHeld.out.alloc hHeld.out.size _), qzL ⟨grY.lt, gaY.lt, hHeld.out.size, by show Y.heap.size ≤ g3; first | omega | (have ey : Y.drew.heap.size = Y.heap.size := rfl; omega), by show Y.heap.size ≤ g7; first | omega | (have ey : Y.drew.heap.size = Y.heap.size := rfl; omega), by show Y.heap.size ≤ g11; first | omega | (have ey : Y.drew.heap.size = Y.heap.size := rfl; omega)⟩⟩
   refine AllHB.cons (by kernel_rfl) (o := ⟨some 28, _, _, _, _, _⟩) rfl (fun K hK => ?_) ?_
   ·go_simp
    have lla := hHeld.out.size
    refine xBj ?_
    intro V11 hV11
    obtain ⟨g11, e11, o11, hb11, l11⟩ := (by first | exact xAn (B := w.heap.size) (enc := eM) (y := Mk0) (n := c.cl.length) xA6 (by decide) (by omega) (by omega) hV11 (by simp) | exact xAn (W := Y.drew) (B := w.heap.size) (enc := eM) (y := Mk0) (n := c.cl.length) xA6 (by decide) (by omega) (by show w.heap.size ≤ Y.heap.size; omega) hV11 (by simp) : ∃ g, _)
    try rw [e11]
    try (have e112 : Y.heap.size = g11 := e11; rw [e112])
    try (replace o3 := o3.below hb11)
    try (replace o7 := o7.below hb11)
    clear hV11
    refine hK.out _ _ (qzL (xAa hHeld.out hb11)) (fun hHeld2 => ?_)
    clear hK K hHeld
    have hHeld := hHeld2
    clear hHeld2
    try simp only [Act.put, qzG, qzI, qzH]
    refine xAr (rs := [3]) (by kernel_rfl) (by simp) ?_
    refine AllHB.cons (by kernel_rfl) (o := ⟨some 20, _, _, _, _, _⟩) rfl (fun K hK => ?_) AllHB.nil
    go_simp
    have lla := hHeld.out.size
    (go_at_call 51; (with_reducible refine (HCL.out _ hHeld.out).mono ?_); rintro e V3 ⟨⟨g3, c3, rfl, o3, l3⟩, hb3⟩)
    try (replace o7 := o7.below hb3)
    try (replace o11 := o11.below hb3)
    refine hK.out _ _ (qzL (xAa hHeld.out hb3)) (fun hHeld2 => ?_)
    clear hK K hHeld
    have hHeld := hHeld2
    clear hHeld2
    try simp only [Act.put, qzG, qzI, qzH]
    refine xAd (i := 12) (oi := ⟨some 29, _, _, _, _, _⟩) (v := .agg #[.int .i64 0, .slice (some ⟨g3, 0, none⟩) c.hold.length c3, .slice (some ⟨g7, 0, none⟩) c.ac.length c.ac.length, .slice (some ⟨g11, 0, none⟩) c.cl.length c.cl.length]) hdir hsel hpan rfl (by kernel_rfl) (by kernel_rfl) (by kernel_rfl) (Or.inl ⟨by rfl, fun w hw => by go_simp⟩) (by assumption) ?_
    try simp only [Act.put, qzG, qzI, qzH]
    refine xAd (i := 13) (oi := ⟨some 30, _, _, _, _, _⟩) (v := .agg #[.int .i64 c.par, .slice m.h c.hold.length m.hc, .slice m.u c.un.length m.uc, .slice m.a c.ac.length m.ac, .slice m.k c.cl.length m.kc, .int .i64 c.days, .slice m.o c.off.length m.oc, .int .i64 0, .slice (some ⟨g3, 0, none⟩) c.hold.length c3, .slice (some ⟨g7, 0, none⟩) c.ac.length c.ac.length, .slice (some ⟨g11, 0, none⟩) c.cl.length c.cl.length]) hdir hsel hpan rfl (by kernel_rfl) (by kernel_rfl) (by kernel_rfl) (Or.inl ⟨by rfl, fun w hw => by go_simp⟩) (by assumption) ?_
    try simp only [Act.put, qzG, qzI, qzH]
    refine xBf (by kernel_rfl) (by kernel_rfl) ?_
    clear hdir hsel hpan
    simp only [xAm, qzA, qzB, qzC, qzD, qzE, qzF]
    go_wp2
    go_meet
    case rel => exact ⟨_, ⟨g3, c3, g7, _, g11, _⟩, rfl, qzL (xEf HC.out (xAa hYB.out hHeld.out) o3 o7 o11), qzL (hHeld.out.alloc hHeld.out.size _), qzL ⟨grY.lt, gaY.lt, hHeld.out.size, by show Y.heap.size ≤ g3; first | omega | (have ey : Y.drew.heap.size = Y.heap.size := rfl; omega), by show Y.heap.size ≤ g7; first | omega | (have ey : Y.drew.heap.size = Y.heap.size := rfl; omega), by show Y.heap.size ≤ g11; first | omega | (have ey : Y.drew.heap.size = Y.heap.size := rfl; omega)⟩⟩
   exact AllHB.nil
  refine AllHB.cons (by kernel_rfl) (o := ⟨some 28, _, _, _, _, _⟩) rfl (fun K hK => ?_) ?_
  ·go_simp
   have lla := hHeld.out.size
   refine xBj ?_
   intro V11 hV11
   obtain ⟨g11, e11, o11, hb11, l11⟩ := (by first | exact xAn (B := w.heap.size) (enc := eM) (y := Mk0) (n := c.cl.length) xA6 (by decide) (by omega) (by omega) hV11 (by simp) | exact xAn (W := Y.drew) (B := w.heap.size) (enc := eM) (y := Mk0) (n := c.cl.length) xA6 (by decide) (by omega) (by show w.heap.size ≤ Y.heap.size; omega) hV11 (by simp) : ∃ g, _)
   try rw [e11]
   try (have e112 : Y.heap.size = g11 := e11; rw [e112])
   try (replace o3 := o3.below hb11)
   try (replace o7 := o7.below hb11)
   clear hV11
   refine hK.out _ _ (qzL (xAa hHeld.out hb11)) (fun hHeld2 => ?_)
   clear hK K hHeld
   have hHeld := hHeld2
   clear hHeld2
   try simp only [Act.put, qzG, qzI, qzH]
   refine xAr (rs := [3, 7]) (by kernel_rfl) (by simp) ?_
   refine AllHB.cons (by kernel_rfl) (o := ⟨some 20, _, _, _, _, _⟩) rfl (fun K hK => ?_) ?_
   ·go_simp
    have lla := hHeld.out.size
    (go_at_call 51; (with_reducible refine (HCL.out _ hHeld.out).mono ?_); rintro e V3 ⟨⟨g3, c3, rfl, o3, l3⟩, hb3⟩)
    try (replace o7 := o7.below hb3)
    try (replace o11 := o11.below hb3)
    refine hK.out _ _ (qzL (xAa hHeld.out hb3)) (fun hHeld2 => ?_)
    clear hK K hHeld
    have hHeld := hHeld2
    clear hHeld2
    try simp only [Act.put, qzG, qzI, qzH]
    refine xAr (rs := [7]) (by kernel_rfl) (by simp) ?_
    refine AllHB.cons (by kernel_rfl) (o := ⟨some 24, _, _, _, _, _⟩) rfl (fun K hK => ?_) AllHB.nil
    go_simp
    have lla := hHeld.out.size
    refine xBj ?_
    intro V7 hV7
    obtain ⟨g7, e7, o7, hb7, l7⟩ := (by first | exact xAn (B := w.heap.size) (enc := eB) (y := false) (n := c.ac.length) xBd (by decide) (by omega) (by omega) hV7 (by simp) | exact xAn (W := Y.drew) (B := w.heap.size) (enc := eB) (y := false) (n := c.ac.length) xBd (by decide) (by omega) (by show w.heap.size ≤ Y.heap.size; omega) hV7 (by simp) : ∃ g, _)
    try rw [e7]
    try (have e72 : Y.heap.size = g7 := e7; rw [e72])
    try (replace o3 := o3.below hb7)
    try (replace o11 := o11.below hb7)
    clear hV7
    refine hK.out _ _ (qzL (xAa hHeld.out hb7)) (fun hHeld2 => ?_)
    clear hK K hHeld
    have hHeld := hHeld2
    clear hHeld2
    try simp only [Act.put, qzG, qzI, qzH]
    refine xAd (i := 12) (oi := ⟨some 29, _, _, _, _, _⟩) (v := .agg #[.int .i64 0, .slice (some ⟨g3, 0, none⟩) c.hold.length c3, .slice (some ⟨g7, 0, none⟩) c.ac.length c.ac.length, .slice (some ⟨g11, 0, none⟩) c.cl.length c.cl.length]) hdir hsel hpan rfl (by kernel_rfl) (by kernel_rfl) (by kernel_rfl) (Or.inl ⟨by rfl, fun w hw => by go_simp⟩) (by assumption) ?_
    try simp only [Act.put, qzG, qzI, qzH]
    refine xAd (i := 13) (oi := ⟨some 30, _, _, _, _, _⟩) (v := .agg #[.int .i64 c.par, .slice m.h c.hold.length m.hc, .slice m.u c.un.length m.uc, .slice m.a c.ac.length m.ac, .slice m.k c.cl.length m.kc, .int .i64 c.days, .slice m.o c.off.length m.oc, .int .i64 0, .slice (some ⟨g3, 0, none⟩) c.hold.length c3, .slice (some ⟨g7, 0, none⟩) c.ac.length c.ac.length, .slice (some ⟨g11, 0, none⟩) c.cl.length c.cl.length]) hdir hsel hpan rfl (by kernel_rfl) (by kernel_rfl) (by kernel_rfl) (Or.inl ⟨by rfl, fun w hw => by go_simp⟩) (by assumption) ?_
    try simp only [Act.put, qzG, qzI, qzH]
    refine xBf (by kernel_rfl) (by kernel_rfl) ?_
    clear hdir hsel hpan
    simp only [xAm, qzA, qzB, qzC, qzD, qzE, qzF]
    go_wp2
    go_meet
    case rel => exact ⟨_, ⟨g3, c3, g7, _, g11, _⟩, rfl, qzL (xEf HC.out (xAa hYB.out hHeld.out) o3 o7 o11), qzL (hHeld.out.alloc hHeld.out.size _), qzL ⟨grY.lt, gaY.lt, hHeld.out.size, by show Y.heap.size ≤ g3; first | omega | (have ey : Y.drew.heap.size = Y.heap.size := rfl; omega), by show Y.heap.size ≤ g7; first | omega | (have ey : Y.drew.heap.size = Y.heap.size := rfl; omega), by show Y.heap.size ≤ g11; first | omega | (have ey : Y.drew.heap.size = Y.heap.size := rfl; omega)⟩⟩
   refine AllHB.cons (by kernel_rfl) (o := ⟨some 24, _, _, _, _, _⟩) rfl (fun K hK => ?_) ?_
   ·go_simp
    have lla := hHeld.out.size
    refine xBj ?_
    intro V7 hV7
    obtain ⟨g7, e7, o7, hb7, l7⟩ := (by first | exact xAn (B := w.heap.size) (enc := eB) (y := false) (n := c.ac.length) xBd (by decide) (by omega) (by omega) hV7 (by simp) | exact xAn (W := Y.drew) (B := w.heap.size) (enc := eB) (y := false) (n := c.ac.length) xBd (by decide) (by omega) (by show w.heap.size ≤ Y.heap.size; omega) hV7 (by simp) : ∃ g, _)
    try rw [e7]
    try (have e72 : Y.heap.size = g7 := e7; rw [e72])
    try (replace o3 := o3.below hb7)
    try (replace o11 := o11.below hb7)
    clear hV7
    refine hK.out _ _ (qzL (xAa hHeld.out hb7)) (fun hHeld2 => ?_)
    clear hK K hHeld
    have hHeld := hHeld2
    clear hHeld2
    try simp only [Act.put, qzG, qzI, qzH]
    refine xAr (rs := [3]) (by kernel_rfl) (by simp) ?_
    refine AllHB.cons (by kernel_rfl) (o := ⟨some 20, _, _, _, _, _⟩) rfl (fun K hK => ?_) AllHB.nil
    go_simp
    have lla := hHeld.out.size
    (go_at_call 51; (with_reducible refine (HCL.out _ hHeld.out).mono ?_); rintro e V3 ⟨⟨g3, c3, rfl, o3, l3⟩, hb3⟩)
    try (replace o7 := o7.below hb3)
    try (replace o11 := o11.below hb3)
    refine hK.out _ _ (qzL (xAa hHeld.out hb3)) (fun hHeld2 => ?_)
    clear hK K hHeld
    have hHeld := hHeld2
    clear hHeld2
    try simp only [Act.put, qzG, qzI, qzH]
    refine xAd (i := 12) (oi := ⟨some 29, _, _, _, _, _⟩) (v := .agg #[.int .i64 0, .slice (some ⟨g3, 0, none⟩) c.hold.length c3, .slice (some ⟨g7, 0, none⟩) c.ac.length c.ac.length, .slice (some ⟨g11, 0, none⟩) c.cl.length c.cl.length]) hdir hsel hpan rfl (by kernel_rfl) (by kernel_rfl) (by kernel_rfl) (Or.inl ⟨by rfl, fun w hw => by go_simp⟩) (by assumption) ?_
    try simp only [Act.put, qzG, qzI, qzH]
    refine xAd (i := 13) (oi := ⟨some 30, _, _, _, _, _⟩) (v := .agg #[.int .i64 c.par, .slice m.h c.hold.length m.hc, .slice m.u c.un.length m.uc, .slice m.a c.ac.length m.ac, .slice m.k c.cl.length m.kc, .int .i64 c.days, .slice m.o c.off.length m.oc, .int .i64 0, .slice (some ⟨g3, 0, none⟩) c.hold.length c3, .slice (some ⟨g7, 0, none⟩) c.ac.length c.ac.length, .slice (some ⟨g11, 0, none⟩) c.cl.length c.cl.length]) hdir hsel hpan rfl (by kernel_rfl) (by kernel_rfl) (by kernel_rfl) (Or.inl ⟨by rfl, fun w hw => by go_simp⟩) (by assumption) ?_
    try simp only [Act.put, qzG, qzI, qzH]
    refine xBf (by kernel_rfl) (by kernel_rfl) ?_
    clear hdir hsel hpan
    simp only [xAm, qzA, qzB, qzC, qzD, qzE, qzF]
    go_wp2
    go_meet
    case rel => exact ⟨_, ⟨g3, c3, g7, _, g11, _⟩, rfl, qzL (xEf HC.out (xAa hYB.out hHeld.out) o3 o7 o11), qzL (hHeld.out.alloc hHeld.out.size _), qzL ⟨grY.lt, gaY.lt, hHeld.out.size, by show Y.heap.size ≤ g3; first | omega | (have ey : Y.drew.heap.size = Y.heap.size := rfl; omega), by show Y.heap.size ≤ g7; first | omega | (have ey : Y.drew.heap.size = Y.heap.size := rfl; omega), by show Y.heap.size ≤ g11; first | omega | (have ey : Y.drew.heap.size = Y.heap.size := rfl; omega)⟩⟩
   exact AllHB.nil
  exact AllHB.nil
 obtain ⟨b', n, rfl, hW, hYU, hne⟩ := hcut
 obtain ⟨U, rfl⟩ : ∃ U, U = wc := ⟨_, rfl⟩
 have gaU := gaY.then_ hYU.out
 have grU := grY.then_ hYU.out
 clear gaY grY hm2 hm3 hi2 hi3 hz20 hz21 hz22 hz30 hz31 hz32 hh0 HCL
 have k4 : U.cell? ⟨ba, 4, none⟩ = some (.slice m.k c.cl.length m.kc) := gaU.cell 4
 have HL0 : Hid (SL w U U b' c m n 0) := ⟨hW.out, Kept.refl _ _⟩
 go_upto_region 6 with (fail)
 clear k4
 go_loopw [35] (fun y WR => ∃ i : Nat, i ≤ c.cl.length ∧ y = .int .i64 i ∧ Hid (SL w U WR b' c m n i)) (fun y _ => 2000000 - (intOf y).toNat)
 case atStart => exact ⟨0, by omega, rfl, HL0⟩
 case round =>
  obtain ⟨i, hi', rfl, hL⟩ := hrel
  clear HL0
  have hrl : (List.replicate c.cl.length Mk0).length = c.cl.length := List.length_replicate
  have HRL := qzL hrl
  clear hrl
  by_cases hlt : i < c.cl.length
  case neg =>
   have hin : i = c.cl.length := by omega
   have hWE : Hid (Wk w wr b' c m { c.s0 with marks := c.cl.map xC0 } n) := by
    unfold Hid
    have h := hL.out.wk
    rw [hin, xD9 HRL.out, mixM_const] at h
    exact h
   have hKE := qzL hL.out.k
   have grE := grU.kept hL.out.k (by have := hne.out; omega)
   have hfi : Hid (c.first = { c.s0 with marks := xAs c c.hold (c.cl.map xC0) }) := by unfold Hid Con.first; rfl
   have tl : decide ((i : Int) < (c.cl.length : Int)) = false := qzN (by omega)
   have HST := qzL (xDy w b' c m { c.s0 with marks := c.cl.map xC0 } n wr hWE.out HOK.out rfl)
   clear hL hin
   go_upto_region 13 with (go_at_call 52; (with_reducible refine HST.out.mono ?_); rintro e w7 ⟨rfl, h1, h2⟩)
   have hW7 : Hid (Wk w w7 b' c m c.first n) := by unfold Hid; rw [hfi.out]; exact h1
   have gr7 := grE.kept h2 (by have := hne.out; omega)
   clear h1 h2 HST hWE hKE grE
   obtain ⟨T, hT⟩ : ∃ T, c.first = T := ⟨_, rfl⟩
   rw [hT] at hW7
   have HTT := qzL hT
   clear hT
   have k7 : w7.cell? ⟨b', 7, none⟩ = some (.int .i64 T.day) := hW7.out.g.cell 7
   have k8 : w7.cell? ⟨b', 8, none⟩ = some (.slice (some ⟨n.h, 0, none⟩) T.hol.length n.hc) := hW7.out.g.cell 8
   have k9 : w7.cell? ⟨b', 9, none⟩ = some (.slice (some ⟨n.u, 0, none⟩) T.used.length n.uc) := hW7.out.g.cell 9
   have k10 : w7.cell? ⟨b', 10, none⟩ = some (.slice (some ⟨n.m, 0, none⟩) T.marks.length n.mc) := hW7.out.g.cell 10
   go_wp2_with ((refine xAg rfl 43 _ _ rfl br 43 [] zS.toList [] [.int .i64 T.day, .slice (some ⟨n.h, 0, none⟩) T.hol.length n.hc, .slice (some ⟨n.u, 0, none⟩) T.used.length n.uc, .slice (some ⟨n.m, 0, none⟩) T.marks.length n.mc] rfl rfl gr7 rfl (by kernel_rfl) (by simp [Value.oneCell']) ?_; intro we ge ue))
   refine bodyPost_ret (xBg rfl rfl ge ⟨_, Tryz.underlying43⟩ (by kernel_rfl)) rfl ?_
   rw [hz.out.1, hz.out.2, HTT.out]
   exact (hW7.out.updG ue (by have := hne.out; omega) lbr.out).ret
  obtain ⟨k, hk⟩ : ∃ k, c.cl[i]? = some k := ⟨_, qzJ hlt⟩
  obtain ⟨kx, hkx, hkk⟩ := xCv hL.out.wk.cn.e hk
  obtain ⟨b0, o0, eA0, hb0, hc0⟩ := xAx hL.out.wk.cont.k hkx
  have hrg : wr.rangeAt b0 (o0 + i * 16) (kL kx) := fun j v hv => hc0 j v hv
  have hix := fun W => xAq (t := 25) (size := 16) (cap := m.kc) eA0 hlt (by kernel_rfl) (fun W => by kernel_rfl) W
  have tl : decide ((i : Int) < (c.cl.length : Int)) = true := qzO (by omega)
  have hx0 : (List.replicate c.cl.length Mk0)[i]? = some Mk0 := by rw [List.getElem?_replicate, if_pos hlt]
  have hx2 : (mixM (fun k _ => xC0 k) c.cl (List.replicate c.cl.length Mk0) i)[i]? = some Mk0 := (xDs HRL.out hlt).trans hx0
  have hsu : Hid (mixM (fun k _ => xC0 k) c.cl (List.replicate c.cl.length Mk0) (i + 1) = (mixM (fun k _ => xC0 k) c.cl (List.replicate c.cl.length Mk0) i).set i (xC0 k)) := xFk HRL.out hk hx0
  obtain ⟨ms', hms⟩ : ∃ l, mixM (fun k _ => xC0 k) c.cl (List.replicate c.cl.length Mk0) i = l := ⟨_, rfl⟩
  have hWm := hL.out.wk
  rw [hms] at hx2 hsu hWm
  have hil : i < ms'.length := (qzM hx2).1
  have nms : ms'.length ≤ 1000000 := hWm.nm
  have hix4 := fun W => xAy (t := 41) (size := 5) (g := n.m) (cap := n.mc) hil (by kernel_rfl) (fun W => by kernel_rfl) W
  have HX2 := qzL hx2
  have HWM := qzL hWm
  have HK := qzL hk
  clear hms hx0 hx2 hWm hk hkx hc0 eA0
  go_upto_region 8 with (refine xBu 52 el16 _ _ _ _ _ rfl rfl rfl rfl rfl rfl rfl rfl rfl rfl rfl rfl b0 _ rfl (kL kx) rfl hrg (by simp [Value.oneCell']) (by decide) (by decide) (by decide) (by simp) (by simp) (.int .i64 (i : Nat)) rfl ?_; simp only [Act.put, qzG, qzH, qzI])
  refine xAf ?_
  intro Z hZ
  have gk : Blk Z wr.heap.size 52 (kL kx).toArray := by rw [hZ]; exact Blk.new _ _ _
  have hbZ : Hid (Below wr.heap.size wr Z) := by rw [hZ]; exact wa1 _ _
  clear hZ hrg hix
  have hWZ := qzL (HWM.out.then_ hbZ.out)
  have k10 : Z.cell? ⟨b', 10, none⟩ = some (.slice (some ⟨n.m, 0, none⟩) ms'.length n.mc) := hWZ.out.g.cell 10
  have hth : Z.there n.m (i * 5) ([.int .i64 0, .int .i64 0, .int .i64 0, .int .i64 (-1), .bool false] : List Value).length := by have := hWZ.out.om.there xA6 rfl HX2.out (j := 0) (c := 5) (by omega); simpa using this
  go_upto_region 9 with (refine xBx rfl 46 _ _ rfl rfl n.m (i * 5) [.int .i64 0, .int .i64 0, .int .i64 0, .int .i64 (-1), .bool false] rfl rfl (by exact hth) (by kernel_rfl) (by simp [Value.oneCell']) ?_)
  refine xAf ?_
  intro Q hQ
  have hWQ : Hid (Wk w Q b' c m { c.s0 with marks := ms'.set i Mk.idle } n) := by unfold Hid; rw [hQ]; exact hWZ.out.setWhole Mk.idle HX2.out
  have hKQ : Hid (Kept wr Q (· = n.m)) := by unfold Hid; rw [hQ]; exact (Kept.of_below hbZ.out).trans (Kept.of_upd (Upd.setCells _ _ _ (Upd.refl _ _)) rfl)
  have uQ : Upd Z Q n.m := by rw [hQ]; exact Upd.setCells _ _ _ (Upd.refl _ _)
  have gkQ := gk.upd uQ (by have := HWM.out.bnd; omega)
  clear hQ uQ hth k10 hWZ gk
  obtain ⟨wv, hwv⟩ : ∃ z, k.waived = z := ⟨_, rfl⟩
  have HWV := qzL hwv
  have c15 : Q.cell? ⟨wr.heap.size, 15, none⟩ = some (.bool wv) := by rw [← hwv, ← hkk]; exact gkQ.cell 15
  clear hwv
  cases wv with
  | false =>
   have hin : Hid (xC0 k = Mk.idle) := by unfold Hid xC0; rw [HWV.out]; rfl
   have hN : Hid (SL w U Q b' c m n (i + 1)) := ⟨by rw [hsu.out, hin.out]; exact hWQ.out, hL.out.k.trans hKQ.out⟩
   clear hL
   go_wp2
   go_roundw
   case rel => exact ⟨i + 1, by omega, by simp, hN⟩
   case measure => simp [intOf]; omega
  | true =>
   have hin : Hid (xC0 k = { Mk.idle with st := 5 }) := by unfold Hid xC0; rw [HWV.out]; rfl
   have hxq : (ms'.set i Mk.idle)[i]? = some Mk.idle := List.getElem?_set_self hil
   have k10 : Q.cell? ⟨b', 10, none⟩ = some (.slice (some ⟨n.m, 0, none⟩) ms'.length n.mc) := by rw [← show (ms'.set i Mk.idle).length = ms'.length from List.length_set]; exact hWQ.out.g.cell 10
   obtain ⟨m0, f0⟩ := (hWQ.out.mark hxq).1
   have HXQ := qzL hxq
   clear hxq
   go_wp2
   have h9 := hWQ.out.setM (j := 0) (y := { Mk.idle with st := 5 }) (v := .int .i64 5) HXQ.out (by omega) rfl
   have hN : Hid (SL w U (Q.setCell ⟨n.m, i * 5, none⟩ (.int .i64 5)) b' c m n (i + 1)) := ⟨by rw [hsu.out, hin.out]; simpa using h9, (hL.out.k.trans hKQ.out).setCell rfl⟩
   go_roundw
   case rel => exact ⟨i + 1, by omega, by simp, hN⟩
   case measure => simp [intOf]; omega
end Go.Proofs.YtginnonjdbpamaaGreatDoor
