/- Contracts of functions and plain laws, joined: Sl, So, Ua, VaE. -/
import Derived.Test.YtffceokjeonpcaaGreatDoorMb9
import Derived.Test.YtffceokjeonpcaaGreatDoorMb2
import Derived.Test.YtffceokjeonpcaaGreatDoorMb1
set_option maxHeartbeats 12800000
set_option maxRecDepth 100000
namespace Go.Proofs.YtffceokjeonpcaaGreatDoor
open Go.RowKit Go.Sort
def xC4 (k : Cla) : Mk := if k.waived then { Mk.idle with st := 5 } else Mk.idle
abbrev Con.s0 (c : Con) : Sta := ⟨0, c.hold, List.replicate c.ac.length false, List.replicate c.cl.length Mk0⟩
def Con.startE (c : Con) : Int := if c.ok then 0 else 1
def Con.startS (c : Con) : Sta := if c.ok then c.first else Sta.zero
theorem own_some {α : Type} {w : World} {B : Nat} {T : TypeId} {size : Nat} {enc : α → List Value} {v : Value} {xs : List α} (h : Own w B T size enc v xs) (hx : 0 < xs.length) : ∃ g cap, v = .slice (some ⟨g, 0, none⟩) xs.length cap ∧ Own w B T size enc (.slice (some ⟨g, 0, none⟩) xs.length cap) xs ∧ B ≤ g := by
 obtain ⟨g, cap, e, h1, _⟩ := h.blk (fun e => by have := lenV_own h; rw [e] at this; simp [lenV] at this; omega)
 subst e
 exact ⟨g, cap, rfl, h, h1⟩
theorem xEq {w V : World} {c : Con} {m : Cm} {g3 c3 g7 g11 : Nat} (hC : Cont w c m) (hB : Below w.heap.size w V)
  (o3 : Own V w.heap.size 3 1 eI (.slice (some ⟨g3, 0, none⟩) c.hold.length c3) c.hold) (o7 : Own V w.heap.size 4 1 eB (.slice (some ⟨g7, 0, none⟩) c.ac.length c.ac.length) (List.replicate c.ac.length false)) (o11 : Own V w.heap.size 61 5 eM (.slice (some ⟨g11, 0, none⟩) c.cl.length c.cl.length) (List.replicate c.cl.length Mk0)) :
  Wk w (V.alloc (.cells #[.int .i64 c.par, .slice m.h c.hold.length m.hc, .slice m.u c.un.length m.uc, .slice m.a c.ac.length m.ac, .slice m.k c.cl.length m.kc, .int .i64 c.days, .slice m.o c.off.length m.oc, .int .i64 0, .slice (some ⟨g3, 0, none⟩) c.hold.length c3, .slice (some ⟨g7, 0, none⟩) c.ac.length c.ac.length, .slice (some ⟨g11, 0, none⟩) c.cl.length c.cl.length] 101)) V.heap.size c m c.s0 ⟨g3, c3, g7, c.ac.length, g11, c.cl.length⟩ := by
 have e2 : c.s0.used.length = c.ac.length := List.length_replicate
 have e3 : c.s0.marks.length = c.cl.length := List.length_replicate
 refine ⟨?_, o3.alloc _, ?_, ?_, xAc hB _, hB.size, hC, e3, hC.nh, by rw [e2]; exact hC.na⟩
 ·unfold wkA
  rw [e2, e3]
  exact Blk.new _ _ _
 ·rw [e2]; exact o7.alloc _
 ·rw [e3]; exact o11.alloc _
theorem mixM_const {f : Cla → Mk} {cl : List Cla} : List.zipWith (fun k _ => f k) cl (List.replicate cl.length Mk0) = cl.map f := by
 refine List.ext_getElem? fun i => ?_
 rw [List.getElem?_zipWith, List.getElem?_map]
 by_cases hi : i < cl.length
 ·rw [qzJ hi, List.getElem?_replicate, if_pos hi]; rfl
 ·rw [List.getElem?_eq_none (by omega)]; simp
structure SL (w w1 W : World) (b : Nat) (c : Con) (m : Cm) (n : Qn) (i : Nat) : Prop where
 wk : Wk w W b c m { c.s0 with marks := mixM (fun k _ => xC4 k) c.cl (List.replicate c.cl.length Mk0) i } n
 k : Kept w1 W (· = n.m)
theorem xCm (c : Con) (m : Cm) (w : World) (hC : Cont w c m) : Calls Tryz.prog 21 #[.agg (coA c m)] w fun e w' => RetS w c.startS c.startE e w' := by
 obtain ⟨E, hE⟩ : ∃ E, c.startE = E := ⟨_, rfl⟩
 obtain ⟨F, hF⟩ : ∃ F, c.startS = F := ⟨_, rfl⟩
 rw [hE, hF]
 have HE : Hid (E = if c.ok then 0 else 1) := hE.symm
 have HF : Hid (F = if c.ok then c.first else Sta.zero) := hF.symm
 have HC := qzL hC
 have HV := qzL (fun W (hb : Below w.heap.size w W) => xIh c m W (hC.then_ hb))
 have nh := hC.nh
 have na := hC.na
 have nk := hC.nk
 have ch := hC.ch
 clear hE hF hC
 go_enter Tryz.func21, Tryz.ntmps21
 go_upto_region 1 with (fail)
 refine xAi ?_
 intro X hX
 have ga : Blk X w.heap.size 27 (coA c m) := by rw [hX]; exact (xA0 (by simp)).alloc _
 have gr : Blk X (w.heap.size + 1) 47 zS := by rw [hX]; exact xA0 (by simp)
 have HB : Below w.heap.size w X := by rw [hX]; (repeat (first | exact Below.refl _ _ | refine xAc ?_ _))
 obtain ⟨br, ebr⟩ : ∃ b, w.heap.size + 1 = b := ⟨_, rfl⟩
 obtain ⟨ba, eba⟩ : ∃ b, w.heap.size = b := ⟨_, rfl⟩
 have lbr : Hid (w.heap.size ≤ br) := by unfold Hid; omega
 rw [ebr] at gr ⊢
 rw [eba] at ga ⊢
 clear hX ebr eba
 obtain ⟨k0, k1, k2, k3, k4, k5, k6⟩ := coC (c := c) (m := m) ga rfl
 cases hok : c.ok with
 | false =>
  have hz : Hid (E = 1 ∧ F = Sta.zero) := ⟨by rw [HE.out, hok]; rfl, by rw [HF.out, hok]; rfl⟩
  go_wp2_with (first | (go_at_call 44; (with_reducible refine (HV.out _ HB).mono ?_); rintro e w1 ⟨⟨ea, eb, rfl, he⟩, hb1⟩; have hea : (ea == 0) = false := (by cases hq : (ea == 0) with | false => rfl | true => exact absurd (he.1 (eq_of_beq hq)) (by rw [hok]; decide)); have hea' : (ea != 0) = true := (by simp [bne, hea]); have gr1 := gr.then_ hb1; clear he) | (refine xAh rfl 47 _ _ rfl br 47 [] zS.toList [] zS.toList rfl rfl gr1 rfl (by kernel_rfl) (by simp [Value.oneCell']) ?_; intro we ge ue))
  refine bodyPost_ret (xBp rfl rfl ge ⟨_, Tryz.underlying47⟩ (by kernel_rfl)) rfl ?_
  rw [hz.out.1, hz.out.2]
  exact RetS.zero ((xAa HB hb1).trans (ue.b _ lbr.out))
 | true =>
 have hz : Hid (E = 0 ∧ F = c.first) := ⟨by rw [HE.out, hok]; rfl, by rw [HF.out, hok]; rfl⟩
 have HOK := qzL hok
 obtain ⟨_, _, hh0, _⟩ := xGj hok
 clear hok HE HF
 go_upto_region 4 with (go_at_call 44; (with_reducible refine (HV.out _ HB).mono ?_); rintro e w1 ⟨⟨ea, eb, rfl, he⟩, hb1⟩; obtain rfl : ea = 0 := he.2 HOK.out; clear he)
 refine xAi ?_
 intro Y hY
 have gaY : Blk Y ba 27 (coA c m) := by rw [hY]; exact ga.then_ hb1
 have grY : Blk Y br 47 zS := by rw [hY]; exact gr.then_ hb1
 have hYB : Hid (Below w.heap.size w Y) := by rw [hY]; exact xAa HB hb1
 have lwY := hYB.out.size
 clear hY hb1 HB ga gr HV k0 k1 k2 k3 k4 k5 k6
 have HCL : Hid (∀ W, Below Y.heap.size Y W → Calls Tryz.prog 45 #[.slice m.h c.hold.length m.hc] W fun e w' => (∃ g cap, e = .returned (.slice (some ⟨g, 0, none⟩) c.hold.length cap) ∧ Own w' w.heap.size 3 1 eI (.slice (some ⟨g, 0, none⟩) c.hold.length cap) c.hold ∧ Y.heap.size ≤ g) ∧ Below W.heap.size W w') := fun W hb =>
  (xH8 m.h m.hc c.hold W nh (HC.out.then_ (xAa hYB.out hb)).h ch).mono fun e w' ⟨⟨v, h1, h2⟩, h3⟩ => by
   obtain ⟨g, cap, h4, h5, h6⟩ := own_some h2 hh0
   subst h4
   exact ⟨⟨g, cap, h1, h5.more (by have := hb.size; omega), by have := hb.size; omega⟩, h3⟩
 obtain ⟨i2, hi2, hz20, hz21, hz22⟩ := info_parts (show (Tryz.prog.info? 4).map (fun i => (i.zero, i.size, i.bytes)) = some (some (.bool false), 1, 1) by kernel_rfl)
 obtain ⟨i3, hi3, hz30, hz31, hz32⟩ := info_parts (show (Tryz.prog.info? 61).map (fun i => (i.zero, i.size, i.bytes)) = some (some (.agg #[.int .i64 0, .int .i64 0, .int .i64 0, .int .i64 0, .bool false]), 5, 40) by kernel_rfl)
 have hm2 : ∀ W : World, (Instr.makeSlice 44 (.int .i64 (c.ac.length : Nat)) (.int .i64 (c.ac.length : Nat))).run Tryz.prog W = _ := fun W => xEh (enc := eB) (y := false) Tryz.underlying44 hi2 hz20 hz21 hz22 (by omega) rfl (by omega) W
 have hm3 : ∀ W : World, (Instr.makeSlice 45 (.int .i64 (c.cl.length : Nat)) (.int .i64 (c.cl.length : Nat))).run Tryz.prog W = _ := fun W => xEh (enc := eM) (y := Mk0) Tryz.underlying45 hi3 hz30 hz31 hz32 (by omega) rfl (by omega) W
 go_cut [6] from 17 to 32 (fun v W => ∃ (b' : Nat) (n : Qn), v = .pointer (some ⟨b', 0, none⟩) ∧ Hid (Wk w W b' c m c.s0 n) ∧ Hid (Below Y.heap.size Y W) ∧ Hid (br < Y.heap.size ∧ ba < Y.heap.size ∧ Y.heap.size ≤ b' ∧ Y.heap.size ≤ n.h ∧ Y.heap.size ≤ n.u ∧ Y.heap.size ≤ n.m))
 case first =>
  refine xBf (fun w' => Hid (Below Y.heap.size Y w')) [0, 1, 2, 3, 4, 5, 6, 7, 8, 9, 10, 11, 12, 13] [14, 15] (by kernel_rfl) (by kernel_rfl) pO (qzL (Below.drew (Below.refl _ _))) (fun hdir hsel hpan hHeld => ?_)
  refine xAd (i := 0) (oi := ⟨some 17, _, _, _, _, _⟩) hdir hsel hpan rfl (by kernel_rfl) (by kernel_rfl) (by kernel_rfl) (yieldsIf_row (by rfl) 27 _ rfl ba rfl 27 _ (fun w hw => (gaY.then_ hw.out)) ⟨_, Tryz.underlying27⟩ (by kernel_rfl)) (by assumption) ?_
  try simp only [Act.put, qzG, qzI, qzH]
  refine xAd (i := 1) (oi := ⟨some 18, _, _, _, _, _⟩) (v := .pointer (some ⟨ba, 1, none⟩)) hdir hsel hpan rfl (by kernel_rfl) (by kernel_rfl) (by kernel_rfl) (Or.inl ⟨by rfl, fun w hw => by go_simp⟩) (by assumption) ?_
  try simp only [Act.put, qzG, qzI, qzH]
  refine xAd (i := 2) (oi := ⟨some 19, _, _, _, _, _⟩) (v := .slice m.h c.hold.length m.hc) hdir hsel hpan rfl (by kernel_rfl) (by kernel_rfl) (by kernel_rfl) (Or.inl ⟨by rfl, fun w hw => by have hc := (gaY.then_ hw.out).cell 1; go_simp⟩) (by assumption) ?_
  try simp only [Act.put, qzG, qzI, qzH]
  refine xAd (i := 4) (oi := ⟨some 21, _, _, _, _, _⟩) (v := .pointer (some ⟨ba, 3, none⟩)) hdir hsel hpan rfl (by kernel_rfl) (by kernel_rfl) (by kernel_rfl) (Or.inl ⟨by rfl, fun w hw => by go_simp⟩) (by assumption) ?_
  try simp only [Act.put, qzG, qzI, qzH]
  refine xAd (i := 5) (oi := ⟨some 22, _, _, _, _, _⟩) (v := .slice m.a c.ac.length m.ac) hdir hsel hpan rfl (by kernel_rfl) (by kernel_rfl) (by kernel_rfl) (Or.inl ⟨by rfl, fun w hw => by have hc := (gaY.then_ hw.out).cell 3; go_simp⟩) (by assumption) ?_
  try simp only [Act.put, qzG, qzI, qzH]
  refine xAd (i := 6) (oi := ⟨some 23, _, _, _, _, _⟩) (v := .int .i64 (c.ac.length : Nat)) hdir hsel hpan rfl (by kernel_rfl) (by kernel_rfl) (by kernel_rfl) (Or.inl ⟨by rfl, fun w hw => by go_simp⟩) (by assumption) ?_
  try simp only [Act.put, qzG, qzI, qzH]
  refine xAd (i := 8) (oi := ⟨some 25, _, _, _, _, _⟩) (v := .pointer (some ⟨ba, 4, none⟩)) hdir hsel hpan rfl (by kernel_rfl) (by kernel_rfl) (by kernel_rfl) (Or.inl ⟨by rfl, fun w hw => by go_simp⟩) (by assumption) ?_
  try simp only [Act.put, qzG, qzI, qzH]
  refine xAd (i := 9) (oi := ⟨some 26, _, _, _, _, _⟩) (v := .slice m.k c.cl.length m.kc) hdir hsel hpan rfl (by kernel_rfl) (by kernel_rfl) (by kernel_rfl) (Or.inl ⟨by rfl, fun w hw => by have hc := (gaY.then_ hw.out).cell 4; go_simp⟩) (by assumption) ?_
  try simp only [Act.put, qzG, qzI, qzH]
  refine xAd (i := 10) (oi := ⟨some 27, _, _, _, _, _⟩) (v := .int .i64 (c.cl.length : Nat)) hdir hsel hpan rfl (by kernel_rfl) (by kernel_rfl) (by kernel_rfl) (Or.inl ⟨by rfl, fun w hw => by go_simp⟩) (by assumption) ?_
  try simp only [Act.put, qzG, qzI, qzH]
  refine xAt (rs := [3, 7, 11]) (by kernel_rfl) (by simp) ?_
  refine AllHB.cons (by kernel_rfl) (o := ⟨some 20, _, _, _, _, _⟩) rfl (fun K hK => ?_) ?_
  ·go_simp
   have lla := hHeld.out.size
   (go_at_call 45; (with_reducible refine (HCL.out _ hHeld.out).mono ?_); rintro e V3 ⟨⟨g3, c3, rfl, o3, l3⟩, hb3⟩)
   try (replace o7 := o7.below hb3)
   try (replace o11 := o11.below hb3)
   refine hK.out _ _ (qzL (xAa hHeld.out hb3)) (fun hHeld2 => ?_)
   clear hK K hHeld
   have hHeld := hHeld2
   clear hHeld2
   try simp only [Act.put, qzG, qzI, qzH]
   refine xAt (rs := [7, 11]) (by kernel_rfl) (by simp) ?_
   refine AllHB.cons (by kernel_rfl) (o := ⟨some 24, _, _, _, _, _⟩) rfl (fun K hK => ?_) ?_
   ·go_simp
    have lla := hHeld.out.size
    refine xBi ?_
    intro V7 hV7
    obtain ⟨g7, e7, o7, hb7, l7⟩ := (by first | exact xAo (B := w.heap.size) (enc := eB) (y := false) (n := c.ac.length) xBj (by decide) (by omega) (by omega) hV7 (by simp) | exact xAo (W := Y.drew) (B := w.heap.size) (enc := eB) (y := false) (n := c.ac.length) xBj (by decide) (by omega) (by show w.heap.size ≤ Y.heap.size; omega) hV7 (by simp) : ∃ g, _)
    try rw [e7]
    try (have e72 : Y.heap.size = g7 := e7; rw [e72])
    try (replace o3 := o3.below hb7)
    try (replace o11 := o11.below hb7)
    clear hV7
    refine hK.out _ _ (qzL (xAa hHeld.out hb7)) (fun hHeld2 => ?_)
    clear hK K hHeld
    have hHeld := hHeld2
    clear hHeld2
    try simp only [Act.put, qzG, qzI, qzH]
    refine xAt (rs := [11]) (by kernel_rfl) (by simp) ?_
    refine AllHB.cons (by kernel_rfl) (o := ⟨some 28, _, _, _, _, _⟩) rfl (fun K hK => ?_) AllHB.nil
    go_simp
    have lla := hHeld.out.size
    refine xBi ?_
    intro V11 hV11
    obtain ⟨g11, e11, o11, hb11, l11⟩ := (by first | exact xAo (B := w.heap.size) (enc := eM) (y := Mk0) (n := c.cl.length) xBg (by decide) (by omega) (by omega) hV11 (by simp) | exact xAo (W := Y.drew) (B := w.heap.size) (enc := eM) (y := Mk0) (n := c.cl.length) xBg (by decide) (by omega) (by show w.heap.size ≤ Y.heap.size; omega) hV11 (by simp) : ∃ g, _)
    try rw [e11]
    try (have e112 : Y.heap.size = g11 := e11; rw [e112])
    try (replace o3 := o3.below hb11)
    try (replace o7 := o7.below hb11)
    clear hV11
    refine hK.out _ _ (qzL (xAa hHeld.out hb11)) (fun hHeld2 => ?_)
    clear hK K hHeld
    have hHeld := hHeld2
    clear hHeld2
    try simp only [Act.put, qzG, qzI, qzH]
    refine xAd (i := 12) (oi := ⟨some 29, _, _, _, _, _⟩) (v := .agg #[.int .i64 0, .slice (some ⟨g3, 0, none⟩) c.hold.length c3, .slice (some ⟨g7, 0, none⟩) c.ac.length c.ac.length, .slice (some ⟨g11, 0, none⟩) c.cl.length c.cl.length]) hdir hsel hpan rfl (by kernel_rfl) (by kernel_rfl) (by kernel_rfl) (Or.inl ⟨by rfl, fun w hw => by go_simp⟩) (by assumption) ?_
    try simp only [Act.put, qzG, qzI, qzH]
    refine xAd (i := 13) (oi := ⟨some 30, _, _, _, _, _⟩) (v := .agg #[.int .i64 c.par, .slice m.h c.hold.length m.hc, .slice m.u c.un.length m.uc, .slice m.a c.ac.length m.ac, .slice m.k c.cl.length m.kc, .int .i64 c.days, .slice m.o c.off.length m.oc, .int .i64 0, .slice (some ⟨g3, 0, none⟩) c.hold.length c3, .slice (some ⟨g7, 0, none⟩) c.ac.length c.ac.length, .slice (some ⟨g11, 0, none⟩) c.cl.length c.cl.length]) hdir hsel hpan rfl (by kernel_rfl) (by kernel_rfl) (by kernel_rfl) (Or.inl ⟨by rfl, fun w hw => by go_simp⟩) (by assumption) ?_
    try simp only [Act.put, qzG, qzI, qzH]
    refine xA6 (by kernel_rfl) (by kernel_rfl) ?_
    clear hdir hsel hpan
    simp only [xAn, qzA, qzB, qzC, qzD, qzE, qzF]
    go_wp2
    go_meet
    case rel => exact ⟨_, ⟨g3, c3, g7, _, g11, _⟩, rfl, qzL (xEq HC.out (xAa hYB.out hHeld.out) o3 o7 o11), qzL (hHeld.out.alloc hHeld.out.size _), qzL ⟨grY.lt, gaY.lt, hHeld.out.size, by show Y.heap.size ≤ g3; first | omega | (have ey : Y.drew.heap.size = Y.heap.size := rfl; omega), by show Y.heap.size ≤ g7; first | omega | (have ey : Y.drew.heap.size = Y.heap.size := rfl; omega), by show Y.heap.size ≤ g11; first | omega | (have ey : Y.drew.heap.size = Y.heap.size := rfl; omega)⟩⟩
   refine AllHB.cons (by kernel_rfl) (o := ⟨some 28, _, _, _, _, _⟩) rfl (fun K hK => ?_) ?_
   ·go_simp
    have lla := hHeld.out.size
    refine xBi ?_
    intro V11 hV11
    obtain ⟨g11, e11, o11, hb11, l11⟩ := (by first | exact xAo (B := w.heap.size) (enc := eM) (y := Mk0) (n := c.cl.length) xBg (by decide) (by omega) (by omega) hV11 (by simp) | exact xAo (W := Y.drew) (B := w.heap.size) (enc := eM) (y := Mk0) (n := c.cl.length) xBg (by decide) (by omega) (by show w.heap.size ≤ Y.heap.size; omega) hV11 (by simp) : ∃ g, _)
    try rw [e11]
    try (have e112 : Y.heap.size = g11 := e11; rw [e112])
    try (replace o3 := o3.below hb11)
    try (replace o7 := o7.below hb11)
    clear hV11
    refine hK.out _ _ (qzL (xAa hHeld.out hb11)) (fun hHeld2 => ?_)
    clear hK K hHeld
    have hHeld := hHeld2
    clear hHeld2
    try simp only [Act.put, qzG, qzI, qzH]
    refine xAt (rs := [7]) (by kernel_rfl) (by simp) ?_
    refine AllHB.cons (by kernel_rfl) (o := ⟨some 24, _, _, _, _, _⟩) rfl (fun K hK => ?_) AllHB.nil
    go_simp
    have lla := hHeld.out.size
    refine xBi ?_
    intro V7 hV7
    obtain ⟨g7, e7, o7, hb7, l7⟩ := (by first | exact xAo (B := w.heap.size) (enc := eB) (y := false) (n := c.ac.length) xBj (by decide) (by omega) (by omega) hV7 (by simp) | exact xAo (W := Y.drew) (B := w.heap.size) (enc := eB) (y := false) (n := c.ac.length) xBj (by decide) (by omega) (by show w.heap.size ≤ Y.heap.size; omega) hV7 (by simp) : ∃ g, _)
    try rw [e7]
    try (have e72 : Y.heap.size = g7 := e7; rw [e72])
    try (replace o3 := o3.below hb7)
    try (replace o11 := o11.below hb7)
    clear hV7
    refine hK.out _ _ (qzL (xAa hHeld.out hb7)) (fun hHeld2 => ?_)
    clear hK K hHeld
    have hHeld := hHeld2
    clear hHeld2
    try simp only [Act.put, qzG, qzI, qzH]
    refine xAd (i := 12) (oi := ⟨some 29, _, _, _, _, _⟩) (v := .agg #[.int .i64 0, .slice (some ⟨g3, 0, none⟩) c.hold.length c3, .slice (some ⟨g7, 0, none⟩) c.ac.length c.ac.length, .slice (some ⟨g11, 0, none⟩) c.cl.length c.cl.length]) hdir hsel hpan rfl (by kernel_rfl) (by kernel_rfl) (by kernel_rfl) (Or.inl ⟨by rfl, fun w hw => by go_simp⟩) (by assumption) ?_
    try simp only [Act.put, qzG, qzI, qzH]
    refine xAd (i := 13) (oi := ⟨some 30, _, _, _, _, _⟩) (v := .agg #[.int .i64 c.par, .slice m.h c.hold.length m.hc, .slice m.u c.un.length m.uc, .slice m.a c.ac.length m.ac, .slice m.k c.cl.length m.kc, .int .i64 c.days, .slice m.o c.off.length m.oc, .int .i64 0, .slice (some ⟨g3, 0, none⟩) c.hold.length c3, .slice (some ⟨g7, 0, none⟩) c.ac.length c.ac.length, .slice (some ⟨g11, 0, none⟩) c.cl.length c.cl.length]) hdir hsel hpan rfl (by kernel_rfl) (by kernel_rfl) (by kernel_rfl) (Or.inl ⟨by rfl, fun w hw => by go_simp⟩) (by assumption) ?_
    try simp only [Act.put, qzG, qzI, qzH]
    refine xA6 (by kernel_rfl) (by kernel_rfl) ?_
    clear hdir hsel hpan
    simp only [xAn, qzA, qzB, qzC, qzD, qzE, qzF]
    go_wp2
    go_meet
    case rel => exact ⟨_, ⟨g3, c3, g7, _, g11, _⟩, rfl, qzL (xEq HC.out (xAa hYB.out hHeld.out) o3 o7 o11), qzL (hHeld.out.alloc hHeld.out.size _), qzL ⟨grY.lt, gaY.lt, hHeld.out.size, by show Y.heap.size ≤ g3; first | omega | (have ey : Y.drew.heap.size = Y.heap.size := rfl; omega), by show Y.heap.size ≤ g7; first | omega | (have ey : Y.drew.heap.size = Y.heap.size := rfl; omega), by show Y.heap.size ≤ g11; first | omega | (have ey : Y.drew.heap.size = Y.heap.size := rfl; omega)⟩⟩
   exact AllHB.nil
  refine AllHB.cons (by kernel_rfl) (o := ⟨some 24, _, _, _, _, _⟩) rfl (fun K hK => ?_) ?_
  ·go_simp
   have lla := hHeld.out.size
   refine xBi ?_
   intro V7 hV7
   obtain ⟨g7, e7, o7, hb7, l7⟩ := (by first | exact xAo (B := w.heap.size) (enc := eB) (y := false) (n := c.ac.length) xBj (by decide) (by omega) (by omega) hV7 (by simp) | exact xAo (W := Y.drew) (B := w.heap.size) (enc := eB) (y := false) (n := c.ac.length) xBj (by decide) (by omega) (by show w.heap.size ≤ Y.heap.size; omega) hV7 (by simp) : ∃ g, _)
   try rw [e7]
   try (have e72 : Y.heap.size = g7 := e7; rw [e72])
   try (replace o3 := o3.below hb7)
   try (replace o11 := o11.below hb7)
   clear hV7
   refine hK.out _ _ (qzL (xAa hHeld.out hb7)) (fun hHeld2 => ?_)
   clear hK K hHeld
   have hHeld := hHeld2
   clear hHeld2
   try simp only [Act.put, qzG, qzI, qzH]
   refine xAt (rs := [3, 11]) (by kernel_rfl) (by simp) ?_
   refine AllHB.cons (by kernel_rfl) (o := ⟨some 20, _, _, _, _, _⟩) rfl (fun K hK => ?_) ?_
   ·go_simp
    have lla := hHeld.out.size
    (go_at_call 45; (with_reducible refine (HCL.out _ hHeld.out).mono ?_); rintro e V3 ⟨⟨g3, c3, rfl, o3, l3⟩, hb3⟩)
    try (replace o7 := o7.below hb3)
    try (replace o11 := o11.below hb3)
    refine hK.out _ _ (qzL (xAa hHeld.out hb3)) (fun hHeld2 => ?_)
    clear hK K hHeld
    have hHeld := hHeld2
    clear hHeld2
    try simp only [Act.put, qzG, qzI, qzH]
    refine xAt (rs := [11]) (by kernel_rfl) (by simp) ?_
    refine AllHB.cons (by kernel_rfl) (o := ⟨some 28, _, _, _, _, _⟩) rfl (fun K hK => ?_) AllHB.nil
    go_simp
    have lla := hHeld.out.size
    refine xBi ?_
    intro V11 hV11
    obtain ⟨g11, e11, o11, hb11, l11⟩ := (by first | exact xAo (B := w.heap.size) (enc := eM) (y := Mk0) (n := c.cl.length) xBg (by decide) (by omega) (by omega) hV11 (by simp) | exact xAo (W := Y.drew) (B := w.heap.size) (enc := eM) (y := Mk0) (n := c.cl.length) xBg (by decide) (by omega) (by show w.heap.size ≤ Y.heap.size; omega) hV11 (by simp) : ∃ g, _)
    try rw [e11]
    try (have e112 : Y.heap.size = g11 := e11; rw [e112])
    try (replace o3 := o3.below hb11)
    try (replace o7 := o7.below hb11)
    clear hV11
    refine hK.out _ _ (qzL (xAa hHeld.out hb11)) (fun hHeld2 => ?_)
    clear hK K hHeld
    have hHeld := hHeld2
    clear hHeld2
    try simp only [Act.put, qzG, qzI, qzH]
    refine xAd (i := 12) (oi := ⟨some 29, _, _, _, _, _⟩) (v := .agg #[.int .i64 0, .slice (some ⟨g3, 0, none⟩) c.hold.length c3, .slice (some ⟨g7, 0, none⟩) c.ac.length c.ac.length, .slice (some ⟨g11, 0, none⟩) c.cl.length c.cl.length]) hdir hsel hpan rfl (by kernel_rfl) (by kernel_rfl) (by kernel_rfl) (Or.inl ⟨by rfl, fun w hw => by go_simp⟩) (by assumption) ?_
    try simp only [Act.put, qzG, qzI, qzH]
    refine xAd (i := 13) (oi := ⟨some 30, _, _, _, _, _⟩) (v := .agg #[.int .i64 c.par, .slice m.h c.hold.length m.hc, .slice m.u c.un.length m.uc, .slice m.a c.ac.length m.ac, .slice m.k c.cl.length m.kc, .int .i64 c.days, .slice m.o c.off.length m.oc, .int .i64 0, .slice (some ⟨g3, 0, none⟩) c.hold.length c3, .slice (some ⟨g7, 0, none⟩) c.ac.length c.ac.length, .slice (some ⟨g11, 0, none⟩) c.cl.length c.cl.length]) hdir hsel hpan rfl (by kernel_rfl) (by kernel_rfl) (by kernel_rfl) (Or.inl ⟨by rfl, fun w hw => by go_simp⟩) (by assumption) ?_
    try simp only [Act.put, qzG, qzI, qzH]
    refine xA6 (by kernel_rfl) (by kernel_rfl) ?_
    clear hdir hsel hpan
    simp only [xAn, qzA, qzB, qzC, qzD, qzE, qzF]
    go_wp2
    go_meet
    case rel => exact ⟨_, ⟨g3, c3, g7, _, g11, _⟩, rfl, qzL (xEq HC.out (xAa hYB.out hHeld.out) o3 o7 o11), qzL (hHeld.out.alloc hHeld.out.size _), qzL ⟨grY.lt, gaY.lt, hHeld.out.size, by show Y.heap.size ≤ g3; first | omega | (have ey : Y.drew.heap.size = Y.heap.size := rfl; omega), by show Y.heap.size ≤ g7; first | omega | (have ey : Y.drew.heap.size = Y.heap.size := rfl; omega), by show Y.heap.size ≤ g11; first | omega | (have ey : Y.drew.heap.size = Y.heap.size := rfl; omega)⟩⟩
   refine AllHB.cons (by kernel_rfl) (o := ⟨some 28, _, _, _, _, _⟩) rfl (fun K hK => ?_) ?_
   ·go_simp
    have lla := hHeld.out.size
    refine xBi ?_
    intro V11 hV11
    obtain ⟨g11, e11, o11, hb11, l11⟩ := (by first | exact xAo (B := w.heap.size) (enc := eM) (y := Mk0) (n := c.cl.length) xBg (by decide) (by omega) (by omega) hV11 (by simp) | exact xAo (W := Y.drew) (B := w.heap.size) (enc := eM) (y := Mk0) (n := c.cl.length) xBg (by decide) (by omega) (by show w.heap.size ≤ Y.heap.size; omega) hV11 (by simp) : ∃ g, _)
    try rw [e11]
    try (have e112 : Y.heap.size = g11 := e11; rw [e112])
    try (replace o3 := o3.below hb11)
    try (replace o7 := o7.below hb11)
    clear hV11
    refine hK.out _ _ (qzL (xAa hHeld.out hb11)) (fun hHeld2 => ?_)
    clear hK K hHeld
    have hHeld := hHeld2
    clear hHeld2
    try simp only [Act.put, qzG, qzI, qzH]
    refine xAt (rs := [3]) (by kernel_rfl) (by simp) ?_
    refine AllHB.cons (by kernel_rfl) (o := ⟨some 20, _, _, _, _, _⟩) rfl (fun K hK => ?_) AllHB.nil
    go_simp
    have lla := hHeld.out.size
    (go_at_call 45; (with_reducible refine (HCL.out _ hHeld.out).mono ?_); rintro e V3 ⟨⟨g3, c3, rfl, o3, l3⟩, hb3⟩)
    try (replace o7 := o7.below hb3)
    try (replace o11 := o11.below hb3)
    refine hK.out _ _ (qzL (xAa hHeld.out hb3)) (fun hHeld2 => ?_)
    clear hK K hHeld
    have hHeld := hHeld2
    clear hHeld2
    try simp only [Act.put, qzG, qzI, qzH]
    refine xAd (i := 12) (oi := ⟨some 29, _, _, _, _, _⟩) (v := .agg #[.int .i64 0, .slice (some ⟨g3, 0, none⟩) c.hold.length c3, .slice (some ⟨g7, 0, none⟩) c.ac.length c.ac.length, .slice (some ⟨g11, 0, none⟩) c.cl.length c.cl.length]) hdir hsel hpan rfl (by kernel_rfl) (by kernel_rfl) (by kernel_rfl) (Or.inl ⟨by rfl, fun w hw => by go_simp⟩) (by assumption) ?_
    try simp only [Act.put, qzG, qzI, qzH]
    refine xAd (i := 13) (oi := ⟨some 30, _, _, _, _, _⟩) (v := .agg #[.int .i64 c.par, .slice m.h c.hold.length m.hc, .slice m.u c.un.length m.uc, .slice m.a c.ac.length m.ac, .slice m.k c.cl.length m.kc, .int .i64 c.days, .slice m.o c.off.length m.oc, .int .i64 0, .slice (some ⟨g3, 0, none⟩) c.hold.length c3, .slice (some ⟨g7, 0, none⟩) c.ac.length c.ac.length, .slice (some ⟨g11, 0, none⟩) c.cl.length c.cl.length]) hdir hsel hpan rfl (by kernel_rfl) (by kernel_rfl) (by kernel_rfl) (Or.inl ⟨by rfl, fun w hw => by go_simp⟩) (by assumption) ?_
    try simp only [Act.put, qzG, qzI, qzH]
    refine xA6 (by kernel_rfl) (by kernel_rfl) ?_
    clear hdir hsel hpan
    simp only [xAn, qzA, qzB, qzC, qzD, qzE, qzF]
    go_wp2
    go_meet
    case rel => exact ⟨_, ⟨g3, c3, g7, _, g11, _⟩, rfl, qzL (xEq HC.out (xAa hYB.out hHeld.out) o3 o7 o11), qzL (hHeld.out.alloc hHeld.out.size _), qzL ⟨grY.lt, gaY.lt, hHeld.out.size, by show Y.heap.size ≤ g3; first | omega | (have ey : Y.drew.heap.size = Y.heap.size := rfl; omega), by show Y.heap.size ≤ g7; first | omega | (have ey : Y.drew.heap.size = Y.heap.size := rfl; omega), by show Y.heap.size ≤ g11; first | omega | (have ey : Y.drew.heap.size = Y.heap.size := rfl; omega)⟩⟩
   exact AllHB.nil
  refine AllHB.cons (by kernel_rfl) (o := ⟨some 28, _, _, _, _, _⟩) rfl (fun K hK => ?_) ?_
  ·go_simp
   have lla := hHeld.out.size
   refine xBi ?_
   intro V11 hV11
   obtain ⟨g11, e11, o11, hb11, l11⟩ := (by first | exact xAo (B := w.heap.size) (enc := eM) (y := Mk0) (n := c.cl.length) xBg (by decide) (by omega) (by omega) hV11 (by simp) | exact xAo (W := Y.drew) (B := w.heap.size) (enc := eM) (y := Mk0) (n := c.cl.length) xBg (by decide) (by omega) (by show w.heap.size ≤ Y.heap.size; omega) hV11 (by simp) : ∃ g, _)
   try rw [e11]
   try (have e112 : Y.heap.size = g11 := e11; rw [e112])
   try (replace o3 := o3.below hb11)
   try (replace o7 := o7.below hb11)
   clear hV11
   refine hK.out _ _ (qzL (xAa hHeld.out hb11)) (fun hHeld2 => ?_)
   clear hK K hHeld
   have hHeld := hHeld2
   clear hHeld2
   try simp only [Act.put, qzG, qzI, qzH]
   refine xAt (rs := [3, 7]) (by kernel_rfl) (by simp) ?_
   refine AllHB.cons (by kernel_rfl) (o := ⟨some 20, _, _, _, _, _⟩) rfl (fun K hK => ?_) ?_
   ·go_simp
    have lla := hHeld.out.size
    (go_at_call 45; (with_reducible refine (HCL.out _ hHeld.out).mono ?_); rintro e V3 ⟨⟨g3, c3, rfl, o3, l3⟩, hb3⟩)
    try (replace o7 := o7.below hb3)
    try (replace o11 := o11.below hb3)
    refine hK.out _ _ (qzL (xAa hHeld.out hb3)) (fun hHeld2 => ?_)
    clear hK K hHeld
    have hHeld := hHeld2
    clear hHeld2
    try simp only [Act.put, qzG, qzI, qzH]
    refine xAt (rs := [7]) (by kernel_rfl) (by simp) ?_
    refine AllHB.cons (by kernel_rfl) (o := ⟨some 24, _, _, _, _, _⟩) rfl (fun K hK => ?_) AllHB.nil
    go_simp
    have lla := hHeld.out.size
    refine xBi ?_
    intro V7 hV7
    obtain ⟨g7, e7, o7, hb7, l7⟩ := (by first | exact xAo (B := w.heap.size) (enc := eB) (y := false) (n := c.ac.length) xBj (by decide) (by omega) (by omega) hV7 (by simp) | exact xAo (W := Y.drew) (B := w.heap.size) (enc := eB) (y := false) (n := c.ac.length) xBj (by decide) (by omega) (by show w.heap.size ≤ Y.heap.size; omega) hV7 (by simp) : ∃ g, _)
    try rw [e7]
    try (have e72 : Y.heap.size = g7 := e7; rw [e72])
    try (replace o3 := o3.below hb7)
    try (replace o11 := o11.below hb7)
    clear hV7
    refine hK.out _ _ (qzL (xAa hHeld.out hb7)) (fun hHeld2 => ?_)
    clear hK K hHeld
    have hHeld := hHeld2
    clear hHeld2
    try simp only [Act.put, qzG, qzI, qzH]
    refine xAd (i := 12) (oi := ⟨some 29, _, _, _, _, _⟩) (v := .agg #[.int .i64 0, .slice (some ⟨g3, 0, none⟩) c.hold.length c3, .slice (some ⟨g7, 0, none⟩) c.ac.length c.ac.length, .slice (some ⟨g11, 0, none⟩) c.cl.length c.cl.length]) hdir hsel hpan rfl (by kernel_rfl) (by kernel_rfl) (by kernel_rfl) (Or.inl ⟨by rfl, fun w hw => by go_simp⟩) (by assumption) ?_
    try simp only [Act.put, qzG, qzI, qzH]
    refine xAd (i := 13) (oi := ⟨some 30, _, _, _, _, _⟩) (v := .agg #[.int .i64 c.par, .slice m.h c.hold.length m.hc, .slice m.u c.un.length m.uc, .slice m.a c.ac.length m.ac, .slice m.k c.cl.length m.kc, .int .i64 c.days, .slice m.o c.off.length m.oc, .int .i64 0, .slice (some ⟨g3, 0, none⟩) c.hold.length c3, .slice (some ⟨g7, 0, none⟩) c.ac.length c.ac.length, .slice (some ⟨g11, 0, none⟩) c.cl.length c.cl.length]) hdir hsel hpan rfl (by kernel_rfl) (by kernel_rfl) (by kernel_rfl) (Or.inl ⟨by rfl, fun w hw => by go_simp⟩) (by assumption) ?_
    try simp only [Act.put, qzG, qzI, qzH]
    refine xA6 (by kernel_rfl) (by kernel_rfl) ?_
    clear hdir hsel hpan
    simp only [xAn, qzA, qzB, qzC, qzD, qzE, qzF]
    go_wp2
    go_meet
    case rel => exact ⟨_, ⟨g3, c3, g7, _, g11, _⟩, rfl, qzL (xEq HC.out (xAa hYB.out hHeld.out) o3 o7 o11), qzL (hHeld.out.alloc hHeld.out.size _), qzL ⟨grY.lt, gaY.lt, hHeld.out.size, by show Y.heap.size ≤ g3; first | omega | (have ey : Y.drew.heap.size = Y.heap.size := rfl; omega), by show Y.heap.size ≤ g7; first | omega | (have ey : Y.drew.heap.size = Y.heap.size := rfl; omega), by show Y.heap.size ≤ g11; first | omega | (have ey : Y.drew.heap.size = Y.heap.size := rfl; omega)⟩⟩
   refine AllHB.cons (by kernel_rfl) (o := ⟨some 24, _, _, _, _, _⟩) rfl (fun K hK => ?_) ?_
   ·go_simp
    have lla := hHeld.out.size
    refine xBi ?_
    intro V7 hV7
    obtain ⟨g7, e7, o7, hb7, l7⟩ := (by first | exact xAo (B := w.heap.size) (enc := eB) (y := false) (n := c.ac.length) xBj (by decide) (by omega) (by omega) hV7 (by simp) | exact xAo (W := Y.drew) (B := w.heap.size) (enc := eB) (y := false) (n := c.ac.length) xBj (by decide) (by omega) (by show w.heap.size ≤ Y.heap.size; omega) hV7 (by simp) : ∃ g, _)
    try rw [e7]
    try (have e72 : Y.heap.size = g7 := e7; rw [e72])
    try (replace o3 := o3.below hb7)
    try (replace o11 := o11.below hb7)
    clear hV7
    refine hK.out _ _ (qzL (xAa hHeld.out hb7)) (fun hHeld2 => ?_)
    clear hK K hHeld
    have hHeld := hHeld2
    clear hHeld2
    try simp only [Act.put, qzG, qzI, qzH]
    refine xAt (rs := [3]) (by kernel_rfl) (by simp) ?_
    refine AllHB.cons (by kernel_rfl) (o := ⟨some 20, _, _, _, _, _⟩) rfl (fun K hK => ?_) AllHB.nil
    go_simp
    have lla := hHeld.out.size
    (go_at_call 45; (with_reducible refine (HCL.out _ hHeld.out).mono ?_); rintro e V3 ⟨⟨g3, c3, rfl, o3, l3⟩, hb3⟩)
    try (replace o7 := o7.below hb3)
    try (replace o11 := o11.below hb3)
    refine hK.out _ _ (qzL (xAa hHeld.out hb3)) (fun hHeld2 => ?_)
    clear hK K hHeld
    have hHeld := hHeld2
    clear hHeld2
    try simp only [Act.put, qzG, qzI, qzH]
    refine xAd (i := 12) (oi := ⟨some 29, _, _, _, _, _⟩) (v := .agg #[.int .i64 0, .slice (some ⟨g3, 0, none⟩) c.hold.length c3, .slice (some ⟨g7, 0, none⟩) c.ac.length c.ac.length, .slice (some ⟨g11, 0, none⟩) c.cl.length c.cl.length]) hdir hsel hpan rfl (by kernel_rfl) (by kernel_rfl) (by kernel_rfl) (Or.inl ⟨by rfl, fun w hw => by go_simp⟩) (by assumption) ?_
    try simp only [Act.put, qzG, qzI, qzH]
    refine xAd (i := 13) (oi := ⟨some 30, _, _, _, _, _⟩) (v := .agg #[.int .i64 c.par, .slice m.h c.hold.length m.hc, .slice m.u c.un.length m.uc, .slice m.a c.ac.length m.ac, .slice m.k c.cl.length m.kc, .int .i64 c.days, .slice m.o c.off.length m.oc, .int .i64 0, .slice (some ⟨g3, 0, none⟩) c.hold.length c3, .slice (some ⟨g7, 0, none⟩) c.ac.length c.ac.length, .slice (some ⟨g11, 0, none⟩) c.cl.length c.cl.length]) hdir hsel hpan rfl (by kernel_rfl) (by kernel_rfl) (by kernel_rfl) (Or.inl ⟨by rfl, fun w hw => by go_simp⟩) (by assumption) ?_
    try simp only [Act.put, qzG, qzI, qzH]
    refine xA6 (by kernel_rfl) (by kernel_rfl) ?_
    clear hdir hsel hpan
    simp only [xAn, qzA, qzB, qzC, qzD, qzE, qzF]
    go_wp2
    go_meet
    case rel => exact ⟨_, ⟨g3, c3, g7, _, g11, _⟩, rfl, qzL (xEq HC.out (xAa hYB.out hHeld.out) o3 o7 o11), qzL (hHeld.out.alloc hHeld.out.size _), qzL ⟨grY.lt, gaY.lt, hHeld.out.size, by show Y.heap.size ≤ g3; first | omega | (have ey : Y.drew.heap.size = Y.heap.size := rfl; omega), by show Y.heap.size ≤ g7; first | omega | (have ey : Y.drew.heap.size = Y.heap.size := rfl; omega), by show Y.heap.size ≤ g11; first | omega | (have ey : Y.drew.heap.size = Y.heap.size := rfl; omega)⟩⟩
   exact AllHB.nil
  exact AllHB.nil
 obtain ⟨b', n, rfl, hW, hYU, hne⟩ := hcut
 obtain ⟨U, rfl⟩ : ∃ U, U = wc := ⟨_, rfl⟩
 have gaU := gaY.then_ hYU.out
 have grU := grY.then_ hYU.out
 clear gaY grY hm2 hm3 hi2 hi3 hz20 hz21 hz22 hz30 hz31 hz32 hh0 HCL
 have k4 : U.cell? ⟨ba, 4, none⟩ = some (.slice m.k c.cl.length m.kc) := gaU.cell 4
 have HL0 : Hid (SL w U U b' c m n 0) := ⟨hW.out, Kept.refl _ _⟩
 go_upto_region 6 with (fail)
 clear k4
 go_loopw [35] (fun y WR => ∃ i : Nat, i ≤ c.cl.length ∧ y = .int .i64 i ∧ Hid (SL w U WR b' c m n i)) (fun y _ => 2000000 - (intOf y).toNat)
 case atStart => exact ⟨0, by omega, rfl, HL0⟩
 case round =>
  obtain ⟨i, hi', rfl, hL⟩ := hrel
  clear HL0
  have hrl : (List.replicate c.cl.length Mk0).length = c.cl.length := List.length_replicate
  have HRL := qzL hrl
  clear hrl
  by_cases hlt : i < c.cl.length
  case neg =>
   have hin : i = c.cl.length := by omega
   have hWE : Hid (Wk w wr b' c m { c.s0 with marks := c.cl.map xC4 } n) := by
    unfold Hid
    have h := hL.out.wk
    rw [hin, xEj HRL.out, mixM_const] at h
    exact h
   have hKE := qzL hL.out.k
   have grE := grU.kept hL.out.k (by have := hne.out; omega)
   have hfi : Hid (c.first = { c.s0 with marks := xAs c c.hold (c.cl.map xC4) }) := by unfold Hid Con.first; rfl
   have tl : decide ((i : Int) < (c.cl.length : Int)) = false := qzN (by omega)
   have HST := qzL (xEc w b' c m { c.s0 with marks := c.cl.map xC4 } n wr hWE.out HOK.out rfl)
   clear hL hin
   go_upto_region 13 with (go_at_call 46; (with_reducible refine HST.out.mono ?_); rintro e w7 ⟨rfl, h1, h2⟩)
   have hW7 : Hid (Wk w w7 b' c m c.first n) := by unfold Hid; rw [hfi.out]; exact h1
   have gr7 := grE.kept h2 (by have := hne.out; omega)
   clear h1 h2 HST hWE hKE grE
   obtain ⟨T, hT⟩ : ∃ T, c.first = T := ⟨_, rfl⟩
   rw [hT] at hW7
   have HTT := qzL hT
   clear hT
   have k7 : w7.cell? ⟨b', 7, none⟩ = some (.int .i64 T.day) := hW7.out.g.cell 7
   have k8 : w7.cell? ⟨b', 8, none⟩ = some (.slice (some ⟨n.h, 0, none⟩) T.hol.length n.hc) := hW7.out.g.cell 8
   have k9 : w7.cell? ⟨b', 9, none⟩ = some (.slice (some ⟨n.u, 0, none⟩) T.used.length n.uc) := hW7.out.g.cell 9
   have k10 : w7.cell? ⟨b', 10, none⟩ = some (.slice (some ⟨n.m, 0, none⟩) T.marks.length n.mc) := hW7.out.g.cell 10
   go_wp2_with ((refine xAh rfl 47 _ _ rfl br 47 [] zS.toList [] [.int .i64 T.day, .slice (some ⟨n.h, 0, none⟩) T.hol.length n.hc, .slice (some ⟨n.u, 0, none⟩) T.used.length n.uc, .slice (some ⟨n.m, 0, none⟩) T.marks.length n.mc] rfl rfl gr7 rfl (by kernel_rfl) (by simp [Value.oneCell']) ?_; intro we ge ue))
   refine bodyPost_ret (xBp rfl rfl ge ⟨_, Tryz.underlying47⟩ (by kernel_rfl)) rfl ?_
   rw [hz.out.1, hz.out.2, HTT.out]
   exact (hW7.out.updG ue (by have := hne.out; omega) lbr.out).ret
  obtain ⟨k, hk⟩ : ∃ k, c.cl[i]? = some k := ⟨_, qzJ hlt⟩
  obtain ⟨kx, hkx, hkk⟩ := xC3 hL.out.wk.cn.e hk
  obtain ⟨b0, o0, eA0, hb0, hc0⟩ := xAv hL.out.wk.cont.k hkx
  have hrg : wr.rangeAt b0 (o0 + i * 16) (kL kx) := fun j v hv => hc0 j v hv
  have hix := fun W => xAp (t := 25) (size := 16) (cap := m.kc) eA0 hlt (by kernel_rfl) (fun W => by kernel_rfl) W
  have tl : decide ((i : Int) < (c.cl.length : Int)) = true := qzO (by omega)
  have hx0 : (List.replicate c.cl.length Mk0)[i]? = some Mk0 := by rw [List.getElem?_replicate, if_pos hlt]
  have hx2 : (mixM (fun k _ => xC4 k) c.cl (List.replicate c.cl.length Mk0) i)[i]? = some Mk0 := (xD6 HRL.out hlt).trans hx0
  have hsu : Hid (mixM (fun k _ => xC4 k) c.cl (List.replicate c.cl.length Mk0) (i + 1) = (mixM (fun k _ => xC4 k) c.cl (List.replicate c.cl.length Mk0) i).set i (xC4 k)) := xFj HRL.out hk hx0
  obtain ⟨ms', hms⟩ : ∃ l, mixM (fun k _ => xC4 k) c.cl (List.replicate c.cl.length Mk0) i = l := ⟨_, rfl⟩
  have hWm := hL.out.wk
  rw [hms] at hx2 hsu hWm
  have hil : i < ms'.length := (qzM hx2).1
  have nms : ms'.length ≤ 1000000 := hWm.nm
  have hix4 := fun W => xA4 (t := 45) (size := 5) (g := n.m) (cap := n.mc) hil (by kernel_rfl) (fun W => by kernel_rfl) W
  have HX2 := qzL hx2
  have HWM := qzL hWm
  have HK := qzL hk
  clear hms hx0 hx2 hWm hk hkx hc0 eA0
  go_upto_region 8 with (refine xBt 95 el16 _ _ _ _ _ rfl rfl rfl rfl rfl rfl rfl rfl rfl rfl rfl rfl b0 _ rfl (kL kx) rfl hrg (by simp [Value.oneCell']) (by decide) (by decide) (by decide) (by simp) (by simp) (.int .i64 (i : Nat)) rfl ?_; simp only [Act.put, qzG, qzH, qzI])
  refine xAi ?_
  intro Z hZ
  have gk : Blk Z wr.heap.size 95 (kL kx).toArray := by rw [hZ]; exact Blk.new _ _ _
  have hbZ : Hid (Below wr.heap.size wr Z) := by rw [hZ]; exact wa1 _ _
  clear hZ hrg hix
  have hWZ := qzL (HWM.out.then_ hbZ.out)
  have k10 : Z.cell? ⟨b', 10, none⟩ = some (.slice (some ⟨n.m, 0, none⟩) ms'.length n.mc) := hWZ.out.g.cell 10
  have hth : Z.there n.m (i * 5) ([.int .i64 0, .int .i64 0, .int .i64 0, .int .i64 (-1), .bool false] : List Value).length := by have := hWZ.out.om.there xBg rfl HX2.out (j := 0) (c := 5) (by omega); simpa using this
  go_upto_region 9 with (refine xBz rfl 61 _ _ rfl rfl n.m (i * 5) [.int .i64 0, .int .i64 0, .int .i64 0, .int .i64 (-1), .bool false] rfl rfl (by exact hth) (by kernel_rfl) (by simp [Value.oneCell']) ?_)
  refine xAi ?_
  intro Q hQ
  have hWQ : Hid (Wk w Q b' c m { c.s0 with marks := ms'.set i Mk.idle } n) := by unfold Hid; rw [hQ]; exact hWZ.out.setWhole Mk.idle HX2.out
  have hKQ : Hid (Kept wr Q (· = n.m)) := by unfold Hid; rw [hQ]; exact (Kept.of_below hbZ.out).trans (Kept.of_upd (Upd.setCells _ _ _ (Upd.refl _ _)) rfl)
  have uQ : Upd Z Q n.m := by rw [hQ]; exact Upd.setCells _ _ _ (Upd.refl _ _)
  have gkQ := gk.upd uQ (by have := HWM.out.bnd; omega)
  clear hQ uQ hth k10 hWZ gk
  obtain ⟨wv, hwv⟩ : ∃ z, k.waived = z := ⟨_, rfl⟩
  have HWV := qzL hwv
  have c15 : Q.cell? ⟨wr.heap.size, 15, none⟩ = some (.bool wv) := by rw [← hwv, ← hkk]; exact gkQ.cell 15
  clear hwv
  cases wv with
  | false =>
   have hin : Hid (xC4 k = Mk.idle) := by unfold Hid xC4; rw [HWV.out]; rfl
   have hN : Hid (SL w U Q b' c m n (i + 1)) := ⟨by rw [hsu.out, hin.out]; exact hWQ.out, hL.out.k.trans hKQ.out⟩
   clear hL
   go_wp2
   go_roundw
   case rel => exact ⟨i + 1, by omega, by simp, hN⟩
   case measure => simp [intOf]; omega
  | true =>
   have hin : Hid (xC4 k = { Mk.idle with st := 5 }) := by unfold Hid xC4; rw [HWV.out]; rfl
   have hxq : (ms'.set i Mk.idle)[i]? = some Mk.idle := List.getElem?_set_self hil
   have k10 : Q.cell? ⟨b', 10, none⟩ = some (.slice (some ⟨n.m, 0, none⟩) ms'.length n.mc) := by rw [← show (ms'.set i Mk.idle).length = ms'.length from List.length_set]; exact hWQ.out.g.cell 10
   obtain ⟨m0, f0⟩ := (hWQ.out.mark hxq).1
   have HXQ := qzL hxq
   clear hxq
   go_wp2
   have h9 := hWQ.out.setM (j := 0) (y := { Mk.idle with st := 5 }) (v := .int .i64 5) HXQ.out (by omega) rfl
   have hN : Hid (SL w U (Q.setCell ⟨n.m, i * 5, none⟩ (.int .i64 5)) b' c m n (i + 1)) := ⟨by rw [hsu.out, hin.out]; simpa using h9, (hL.out.k.trans hKQ.out).setCell rfl⟩
   go_roundw
   case rel => exact ⟨i + 1, by omega, by simp, hN⟩
   case measure => simp [intOf]; omega
def runE (c : Con) : Sta → List Int → Int
 | _, [] => 0
 | s, x :: l => if s.stepE c x = 0 then runE c (s.step c x) l else s.stepE c x
def xBv (c : Con) : Sta → List Int → List Sta
 | s, [] => [s]
 | s, x :: l => s :: xBv c (s.step c x) l
def Con.runE (c : Con) (l : List Int) : Int := if c.startE ≠ 0 then c.startE else if 4000 < l.length then 3 else YtffceokjeonpcaaGreatDoor.runE c c.first l
def Con.runS (c : Con) (l : List Int) : List Sta := if c.runE l = 0 then xBv c c.first l else []
def eQ (x : Sta × Qm) : List Value := [.int .i64 x.1.day, .slice x.2.h x.1.hol.length x.2.hc, .slice x.2.u x.1.used.length x.2.uc, .slice x.2.m x.1.marks.length x.2.mc]
theorem xCh (x : Sta × Qm) : (eQ x).length = 4 := rfl
theorem xD5 (y : Sta × Qm) : ∀ u ∈ eQ y, u.oneCell' = true := by
 intro u hu
 simp only [eQ, List.mem_cons, List.not_mem_nil, or_false] at hu
 rcases hu with rfl | rfl | rfl | rfl <;> rfl
theorem elQ : ElT Tryz.prog 47 4 := ⟨⟨_, Tryz.underlying47⟩, by kernel_rfl, ⟨.agg #[.int .i64 0, .slice none 0 0, .slice none 0 0, .slice none 0 0], rfl, fun w => by kernel_rfl⟩⟩
theorem xC7 (c : Con) : ∀ (l : List Int) (s : Sta), (xBv c s l).length = l.length + 1
 | [], _ => rfl
 | x :: l, s => by rw [xBv, List.length_cons, xC7 c l, List.length_cons]
structure Stq (B : Nat) (w : World) (s : Sta) (q : Qm) : Prop where
 m : Stm w s q
 o : SOff (B ≤ ·) q
 t : STy w q
theorem SOff.more {B B' : Nat} {q : Qm} (h : SOff (B ≤ ·) q) (hB : B' ≤ B) : SOff (B' ≤ ·) q := ⟨fun a e => Nat.le_trans hB (h.h a e), fun a e => Nat.le_trans hB (h.u a e), fun a e => Nat.le_trans hB (h.m a e)⟩
theorem STy.then_ {w w' : World} {q : Qm} (h : STy w q) (hb : Below w.heap.size w w') : STy w' q :=
 ⟨fun a e => (h.h a e).imp fun _ h => h.then_ hb, fun a e => (h.u a e).imp fun _ h => h.then_ hb, fun a e => (h.m a e).imp fun _ h => h.then_ hb⟩
theorem Stq.then_ {B : Nat} {w w' : World} {s : Sta} {q : Qm} (h : Stq B w s q) (hb : Below w.heap.size w w') : Stq B w' s q := ⟨h.m.then_ hb, h.o, h.t.then_ hb⟩
theorem Blk.ne_of {w : World} {g g' : Nat} {t t' : TypeId} {cs cs' : Array Value} (h : Blk w g t cs) (h' : Blk w g' t' cs') (ht : t ≠ t') : g ≠ g' := by
 rintro rfl
 have h2 := h.symm.trans h'
 injection h2 with h2
 injection h2 with _ h3 _
 exact ht h3
theorem xDo {α : Type} {w w' : World} {size : Nat} {enc : α → List Value} {A : Option Addr} {xs : List α} (h : Seg w w.heap.size size enc A xs) (hs : w.heap.size ≤ w'.heap.size) (hk : ∀ a, A = some a → w'.heap[a.block]? = w.heap[a.block]?) : Seg w' w'.heap.size size enc A xs := fun k x hx => by
 obtain ⟨b, off, e, hb, hc⟩ := h k x hx
 exact ⟨b, off, e, by omega, fun j v hv => (World.cell?_of_block (w := w) (w' := w') (a := ⟨b, off + k * size + j, none⟩) (show w'.heap[b]? = w.heap[b]? from hk _ e)).trans (hc j v hv)⟩
theorem Stq.keep {B : Nat} {w w' : World} {s : Sta} {q : Qm} (h : Stq B w s q) (hs : w.heap.size ≤ w'.heap.size) {p : Nat → Prop} (hp : ∀ x, p x → w'.heap[x]? = w.heap[x]?) (hq : ∀ x (t : TypeId) cs, Blk w x t cs → (t = 3 ∨ t = 4 ∨ t = 61) → p x) : Stq B w' s q := by
 have kh : ∀ a, q.h = some a → w'.heap[a.block]? = w.heap[a.block]? := fun a e => by obtain ⟨cs, hb⟩ := h.t.h a e; exact hp _ (hq _ _ _ hb (.inl rfl))
 have ku : ∀ a, q.u = some a → w'.heap[a.block]? = w.heap[a.block]? := fun a e => by obtain ⟨cs, hb⟩ := h.t.u a e; exact hp _ (hq _ _ _ hb (.inr (.inl rfl)))
 have km : ∀ a, q.m = some a → w'.heap[a.block]? = w.heap[a.block]? := fun a e => by obtain ⟨cs, hb⟩ := h.t.m a e; exact hp _ (hq _ _ _ hb (.inr (.inr rfl)))
 exact ⟨⟨xDo h.m.h hs kh, xDo h.m.u hs ku, xDo h.m.m hs km, h.m.nh, h.m.nu, h.m.nm, h.m.ch, h.m.cu, h.m.cm⟩, h.o,
  ⟨fun a e => (h.t.h a e).imp fun _ hb => (kh a e).trans hb, fun a e => (h.t.u a e).imp fun _ hb => (ku a e).trans hb, fun a e => (h.t.m a e).imp fun _ hb => (km a e).trans hb⟩⟩
theorem Stq.updT {B g : Nat} {w w' : World} {s : Sta} {q : Qm} {t : TypeId} {cs : Array Value} (h : Stq B w s q) (u : Upd w w' g) (hb : Blk w g t cs) (ht : t ≠ 3 ∧ t ≠ 4 ∧ t ≠ 61) : Stq B w' s q :=
 h.keep (by rw [u.s]; exact Nat.le_refl _) u.f fun x t' cs' hb' e => Blk.ne_of hb' hb (by rcases e with rfl | rfl | rfl <;> first | exact ht.1.symm | exact ht.2.1.symm | exact ht.2.2.symm)
theorem Stq.grown {B B' size : Nat} {w w' : World} {s : Sta} {q : Qm} {α : Type} {enc : α → List Value} {v : Value} {xs : List α} {T : TypeId} (h : Stq B w s q) (hO : Own w B' T size enc v xs) (hg : w.grownBy w' v.ownBlock) (ht : T ≠ 3 ∧ T ≠ 4 ∧ T ≠ 61) : Stq B w' s q :=
 h.keep (p := fun x => x < w.heap.size ∧ some x ≠ v.ownBlock) hg.size (fun x hx => hg.block x hx.1 hx.2) fun x t' cs' hb' e => ⟨hb'.lt, fun e' => by
  rcases hO.2 with ⟨e2, _⟩ | ⟨g', cap', cur', e2, _, hh', _⟩
  ·rw [e2] at e'; cases e'
  ·rw [e2] at e'
   obtain rfl : x = g' := Option.some.inj e'
   exact Blk.ne_of hb' (show Blk w x T cur' from hh') (by rcases e with rfl | rfl | rfl <;> first | exact ht.1.symm | exact ht.2.1.symm | exact ht.2.2.symm) rfl⟩
structure Rws (B : Nat) (w : World) (v : Value) (rows : List (Sta × Qm)) : Prop where
 o : Own w B 47 4 eQ v rows
 r : ∀ x ∈ rows, Stq B w x.1 x.2
theorem Rws.then_ {B : Nat} {w w' : World} {v : Value} {rows : List (Sta × Qm)} (h : Rws B w v rows) (hb : Below w.heap.size w w') : Rws B w' v rows := ⟨h.o.below hb, fun x hx => (h.r x hx).then_ hb⟩
def RetL (w : World) (L : List Sta) (E : Int) (e : Ending) (w' : World) : Prop :=
 (∃ v rows, e = .returned (.tuple #[v, .int .i64 E]) ∧ rows.map (·.1) = L ∧ Rws w.heap.size w' v rows ∧ rows.length ≤ 1000000) ∧ Below w.heap.size w w'
theorem RetL.none {w w' : World} {E : Int} (h : Below w.heap.size w w') : RetL w [] E (.returned (.tuple #[.slice none 0 0, .int .i64 E])) w' :=
 ⟨⟨_, [], rfl, rfl, ⟨Own.nil _ _ _ _ _, fun x hx => by cases hx⟩, by decide⟩, h⟩
structure RL (w W : World) (c : Con) (m : Cm) (l : List Int) (ba bs : Nat) (i : Nat) (v : Value) (rows : List (Sta × Qm)) (s : Sta) (q : Qm) : Prop where
 ga : Blk W ba 27 (coA c m)
 gs : Blk W bs 47 (stA s q)
 st : Stq w.heap.size W s q
 o : Own W (bs + 1) 47 4 eQ v rows
 r : ∀ x ∈ rows, Stq w.heap.size W x.1 x.2
 b : Below w.heap.size w W
 p : ∃ pre, rows.map (·.1) = pre ++ [s] ∧ pre ++ xBv c s (l.drop i) = xBv c c.first l
 e : runE c s (l.drop i) = runE c c.first l
 n : rows.length = i + 1
 lb : w.heap.size ≤ bs ∧ ba < bs
theorem RL.step {w W W1 we w2 : World} {c : Con} {m : Cm} {l : List Int} {ba bs i : Nat} {v v' : Value} {rows : List (Sta × Qm)} {s : Sta} {q q1 : Qm} {x : Int} {cs : Array Value} (h : RL w W c m l ba bs i v rows s q) (hx : l[i]? = some x) (hE : s.stepE c x = 0)
  (hb1 : Below W.heap.size W W1) (h1 : Stq W.heap.size W1 (s.step c x) q1) (ue : Upd W1 we bs) (ge : Blk we bs 47 (stA (s.step c x) q1))
  (hO : Own w2 (bs + 1) 47 4 eQ v' (rows ++ [(s.step c x, q1)])) (hb2 : Below (bs + 1) (we.alloc (.cells cs 47)) w2) (hg2 : (we.alloc (.cells cs 47)).grownBy w2 v.ownBlock) : RL w w2 c m l ba bs (i + 1) v' (rows ++ [(s.step c x, q1)]) (s.step c x) q1 := by
 have gs1 := h.gs.then_ hb1
 have lW := h.b.size
 have o1 : Own (we.alloc (.cells cs 47)) (bs + 1) 47 4 eQ v rows := ((h.o.below hb1).upd ue (h.o.ne_ (by omega))).alloc _
 have up : ∀ y r, Stq w.heap.size W1 y r → Stq w.heap.size w2 y r := fun y r k => ((k.updT ue gs1 (by decide)).then_ (wa1 _ _)).grown o1 hg2 (by decide)
 have hd : l.drop i = x :: l.drop (i + 1) := by
  obtain ⟨hi, e⟩ := qzM hx
  rw [List.drop_eq_getElem_cons hi, e]
 have hst := up _ _ ⟨h1.m, h1.o.more lW, h1.t⟩
 refine ⟨?_, ?_, hst, hO, ?_, ?_, ?_, ?_, by rw [List.length_append, h.n]; rfl, h.lb⟩
 ·exact (((h.ga.then_ hb1).upd ue (by have := h.lb; omega)).alloc _).below hb2 (by have := h.lb; omega)
 ·exact (ge.alloc _).below hb2 (by omega)
 ·intro y hy
  rcases List.mem_append.1 hy with hy | hy
  ·exact up _ _ ((h.r y hy).then_ hb1)
  ·rw [List.mem_singleton.1 hy]; exact hst
 ·refine ((xAa h.b hb1).trans (ue.b _ h.lb.1)).trans (Below.trans ((Below.refl _ _).alloc ?_ _) (hb2.mono (by have := h.lb; omega)))
  have := hb1.size
  have := ue.s
  omega
 ·obtain ⟨pre, e1, e2⟩ := h.p
  refine ⟨pre ++ [s], by rw [List.map_append, e1]; rfl, ?_⟩
  rw [← e2, hd, xBv, List.append_assoc]
  rfl
 ·rw [← h.e, hd, runE, if_pos hE]
theorem run_any (c : Con) (m : Cm) (l : List Int) (A : Option Addr) (cap : Nat) (w : World) (hC : Cont w c m) (hA : Seg w w.heap.size 1 eI A l) (nl : l.length ≤ 1000000) :
  Calls Tryz.prog 8 #[.agg (coA c m), .slice A l.length cap] w fun e w' => RetL w (c.runS l) (c.runE l) e w' := by
 obtain ⟨E, hE⟩ : ∃ E, c.runE l = E := ⟨_, rfl⟩
 obtain ⟨F, hF⟩ : ∃ F, c.runS l = F := ⟨_, rfl⟩
 rw [hE, hF]
 have HE : Hid (E = if c.startE ≠ 0 then c.startE else if 4000 < l.length then 3 else YtffceokjeonpcaaGreatDoor.runE c c.first l) := hE.symm
 have HF : Hid (F = if E = 0 then xBv c c.first l else []) := by unfold Hid; rw [← hF, ← hE]; rfl
 have HC := qzL hC
 have HA := qzL hA
 obtain ⟨ri, hi1, hz10, hz11, hz12⟩ := info_parts (show (Tryz.prog.info? 47).map (fun i => (i.zero, i.size, i.bytes)) = some (some (.agg #[.int .i64 0, .slice none 0 0, .slice none 0 0, .slice none 0 0]), 4, 80) by kernel_rfl)
 have HST := qzL (fun W (hb : Below w.heap.size w W) => xCm c m W (hC.then_ hb))
 have HSP := qzL (fun W s q x (hb : Below w.heap.size w W) (h : Stm W s q) => xD9 c m s q x W (hC.then_ hb) h)
 clear hE hF hC hA
 go_enter Tryz.func8, Tryz.ntmps8
 go_upto_region 1 with (fail)
 refine xAi ?_
 intro X hX
 have ga : Blk X w.heap.size 27 (coA c m) := by rw [hX]; exact Blk.new _ _ _
 have HB : Below w.heap.size w X := by rw [hX]; (repeat (first | exact Below.refl _ _ | refine xAc ?_ _))
 obtain ⟨ba, eba⟩ : ∃ b, w.heap.size = b := ⟨_, rfl⟩
 have lba : Hid (w.heap.size ≤ ba) := by unfold Hid; omega
 rw [eba] at ga ⊢
 clear hX eba
 obtain ⟨SE, hSE⟩ : ∃ E, c.startE = E := ⟨_, rfl⟩
 obtain ⟨SS, hSS⟩ : ∃ E, c.startS = E := ⟨_, rfl⟩
 rw [hSE] at HE
 have HST' := HST.out
 rw [hSE, hSS] at HST'
 have HST := qzL HST'
 have HSE := qzL hSE
 have HSS := qzL hSS
 clear HST' hSE hSS
 go_upto_region 2 with (first | (refine xAf (by rfl) 27 _ rfl ba rfl 27 _ ga ⟨_, Tryz.underlying27⟩ (by kernel_rfl) ?_; simp only [Act.put, qzG, qzH, qzI]) | (go_at_call 21; (with_reducible refine (HST.out _ HB).mono ?_); rintro e w1 ⟨⟨q0, rfl, hs0, ho0, ht0⟩, hb1⟩) | (refine xAh rfl 47 _ _ rfl w1.heap.size 47 [] zS.toList [] (stA SS q0).toList rfl rfl (Blk.new _ _ _) rfl (by kernel_rfl) (by simp [Value.oneCell']) ?_; intro w2 g2 u2))
 obtain ⟨bs, ebs⟩ : ∃ b, w1.heap.size = b := ⟨_, rfl⟩
 have h12 : Below X.heap.size X w2 := (xAc hb1 _).trans (u2.b _ hb1.size)
 have lX := HB.size
 have lX1 := hb1.size
 have st2 : Stq w.heap.size w2 SS q0 := ((Stq.then_ (w' := w1.alloc (.cells zS 47)) ⟨hs0, ho0.more lX, ht0⟩ (wa1 _ _)).updT u2 (Blk.new _ _ _) (by decide))
 have ga2 := qzL (ga.then_ h12)
 have gs2 := qzL (show Blk w2 bs 47 (stA SS q0) by rw [← ebs]; exact g2)
 have HB2 := qzL (xAa HB h12)
 have ST2 := qzL st2
 have lbs : Hid (w.heap.size ≤ bs ∧ bs < w2.heap.size ∧ ba < bs) := ⟨by omega, gs2.out.lt, by have := ga.lt; omega⟩
 rw [ebs]
 clear HB ga hb1 hs0 ho0 ht0 g2 u2 h12 st2 lX lX1 ebs
 by_cases h1 : SE = 0
 case neg =>
  have t1 : (SE != 0) = true := by simpa using h1
  have H1 := qzL h1
  clear h1
  go_wp2
  refine bodyPost_ret (results_tmp2 rfl _ _ _) rfl ?_
  have e1 : E = SE := by rw [HE.out, if_pos H1.out]
  have e2 : F = [] := by rw [HF.out, e1, if_neg H1.out]
  rw [e1, e2]
  exact RetL.none HB2.out
 have t1 : (SE != 0) = false := by simpa using h1
 have H1 := qzL h1
 clear h1
 by_cases h2 : 4000 < l.length
 case pos =>
  have t2 : decide ((4000 : Int) < (l.length : Int)) = true := qzO (by omega)
  have H2 := qzL h2
  go_wp2
  refine bodyPost_ret (results_tmp2 rfl _ _ _) rfl ?_
  have e1 : E = 3 := by rw [HE.out, if_neg (by simp [H1.out]), if_pos h2]
  have e2 : F = [] := by rw [HF.out, e1]; rfl
  rw [e1, e2]
  exact RetL.none HB2.out
 have t2 : decide ((4000 : Int) < (l.length : Int)) = false := qzN (by omega)
 have HE2 : Hid (E = YtffceokjeonpcaaGreatDoor.runE c c.first l) := by unfold Hid; rw [HE.out, if_neg (by simp [H1.out]), if_neg h2]
 have ef : SS = c.first := by
  have a := HSE.out
  have b := HSS.out
  rw [H1.out] at a
  unfold Con.startE at a
  unfold Con.startS at b
  cases hok : c.ok with
  | true => rw [hok] at b; exact b.symm
  | false => rw [hok] at a; exact absurd a (by decide)
 subst ef
 clear HST HSE HSS HE
 have gsb := gs2.out
 go_upto_region 7 with (first | (refine xAf (by rfl) 47 _ rfl bs rfl 47 _ gsb ⟨_, Tryz.underlying47⟩ (by kernel_rfl) ?_; simp only [Act.put, qzG, qzH, qzI]))
 clear gsb
 refine xAi ?_
 intro X2 hX2
 have h0 : Hid (RL w X2 c m l ba bs 0 (.slice (some ⟨w2.heap.size, 0, none⟩) 1 1) [(c.first, q0)] c.first q0) := by
  have hb : Below w2.heap.size w2 X2 := by rw [hX2]; exact wa1 _ _
  refine ⟨ga2.out.then_ hb, gs2.out.then_ hb, ST2.out.then_ hb, ?_, ?_, xAa HB2.out hb, ⟨[], rfl, rfl⟩, rfl, rfl, by have := lbs.out; omega⟩
  ·refine ⟨rfl, .inr ⟨w2.heap.size, 1, (eQ (c.first, q0)).toArray, rfl, by have := lbs.out; omega, by rw [hX2]; exact Blk.new _ _ _, Nat.le_refl _, by unfold maxLen; omega, rfl, rfl⟩⟩
  ·intro x hx
   rw [List.mem_singleton.1 hx]
   exact ST2.out.then_ hb
 clear hX2 ga2 gs2 HB2 ST2 t1 t2
 go_upto_region 8 with (fail)
 go_loopw [8, 26] (fun v y WR => ∃ (i : Nat) (rows : List (Sta × Qm)) (s : Sta) (q : Qm), y = .int .i64 i ∧ i ≤ l.length ∧ Hid (RL w WR c m l ba bs i v rows s q)) (fun _ y _ => 2000000 - (intOf y).toNat)
 case atStart => exact ⟨0, _, _, _, rfl, by omega, h0⟩
 case round =>
  clear h0
  obtain ⟨i, rows, s, q, rfl, hi, hR⟩ := hrel
  by_cases hlt : i < l.length
  case neg =>
   have tl : decide ((i : Int) < (l.length : Int)) = false := qzN (by omega)
   go_wp2
   go_ret2
   have hR := hR.out
   have hd : l.drop i = [] := List.drop_of_length_le (by omega)
   have e0 := hR.e
   rw [hd] at e0
   have e1 : E = 0 := by rw [HE2.out, ← e0]; rfl
   have e2 : F = xBv c c.first l := by rw [HF.out, if_pos e1]
   obtain ⟨pre, p1, p2⟩ := hR.p
   rw [hd] at p2
   rw [e1, e2]
   exact ⟨⟨_, rows, rfl, by rw [p1, ← p2]; rfl, ⟨hR.o.more (by have := lbs.out; omega), hR.r⟩, by have := hR.n; omega⟩, hR.b⟩
  obtain ⟨x, hx⟩ : ∃ x, l[i]? = some x := ⟨_, qzJ hlt⟩
  obtain ⟨b0, o0, e0, hb0, hc0⟩ := xAv (HA.out.below hR.out.b) hx
  have hix := fun W => xAp (t := 22) (size := 1) (cap := cap) (len := l.length) e0 hlt (by kernel_rfl) (fun W => by kernel_rfl) W
  have x0 : wr.cell? ⟨b0, o0 + i, none⟩ = some (.int .i64 x) := by have := hc0 0 _ rfl; simpa using this
  have tl : decide ((i : Int) < (l.length : Int)) = true := qzO (by omega)
  have HX := qzL hx
  have gaR := hR.out.ga
  have gsR := hR.out.gs
  clear hx hc0 e0
  obtain ⟨SE1, hSE⟩ : ∃ E, s.stepE c x = E := ⟨_, rfl⟩
  obtain ⟨SS1, hSS⟩ : ∃ E, s.stepS c x = E := ⟨_, rfl⟩
  have HSX := HSP.out wr s q x hR.out.b hR.out.st.m
  rw [hSE, hSS] at HSX
  have HSX := qzL HSX
  have HSE := qzL hSE
  have HSS := qzL hSS
  clear hSE hSS
  go_upto_region 11 with (first | (refine xAf (by rfl) 27 _ rfl ba rfl 27 _ gaR ⟨_, Tryz.underlying27⟩ (by kernel_rfl) ?_; simp only [Act.put, qzG, qzH, qzI]) | (refine xAf (by rfl) 47 _ rfl bs rfl 47 _ gsR ⟨_, Tryz.underlying47⟩ (by kernel_rfl) ?_; simp only [Act.put, qzG, qzH, qzI]) | (go_at_call 22; (with_reducible refine HSX.out.mono ?_); rintro e w1 ⟨⟨q1, rfl, hs1, ho1, ht1⟩, hb1⟩) | (refine xAh rfl 47 _ _ rfl bs 47 [] (stA s q).toList [] (stA SS1 q1).toList rfl rfl (gsR.then_ hb1) rfl (by kernel_rfl) (by simp [Value.oneCell']) ?_; intro we ge ue))
  by_cases h1 : SE1 = 0
  case neg =>
   have t1 : (SE1 != 0) = true := by simpa using h1
   have H1 := qzL h1
   have hB := qzL ((xAa hR.out.b hb1).trans (ue.b _ lbs.out.1))
   clear h1 hb1
   go_wp2
   go_ret2
   have hd : l.drop i = x :: l.drop (i + 1) := by
    obtain ⟨hi, e⟩ := qzM HX.out
    rw [List.drop_eq_getElem_cons hi, e]
   have e1 : E = SE1 := by rw [HE2.out, ← hR.out.e, hd, YtffceokjeonpcaaGreatDoor.runE, if_neg (by rw [HSE.out]; exact H1.out), HSE.out]
   have e2 : F = [] := by rw [HF.out, e1, if_neg H1.out]
   rw [e1, e2]
   exact RetL.none hB.out
  have t1 : (SE1 != 0) = false := by simpa using h1
  have e9 : SS1 = s.step c x := by
   have a := HSS.out
   unfold Sta.stepS at a
   rw [HSE.out, if_pos h1] at a
   exact a.symm
  subst e9
  have H1 := qzL h1
  clear h1
  have oR := (((hR.out.o.below hb1).upd ue (hR.out.o.ne_ (by omega))).alloc (.cells (eQ (s.step c x, q1)).toArray 47))
  have nR : rows.length ≤ 1000000 := by have := hR.out.n; omega
  have lwe : bs + 1 ≤ we.heap.size := by have := ge.lt; omega
  have HB1 := qzL hb1
  have HS1 := qzL hs1
  have HO1 := qzL ho1
  have HT1 := qzL ht1
  clear hb1 hs1 ho1 ht1 HSX x0 hix gsR gaR
  go_upto_region 14 with (first | (refine xAf (by rfl) 47 _ rfl bs rfl 47 _ ge ⟨_, Tryz.underlying47⟩ (by kernel_rfl) ?_; simp only [Act.put, qzG, qzH, qzI]) | (at_builtin; refine xBh _ rfl (.tmp 40) (.tmp 42) _ rfl (bs + 1) 47 ri _ 4 80 Tryz.underlying31 hi1 hz10 hz11 hz12 rfl (by omega) (by omega) eQ xCh xD5 _ rows rfl oR nR _ 1 (s.step c x, q1) rfl (Blk.new _ _ _) (by simp; omega) ?_; intro v' w3 hO2 hb2 hg2))
  have hN := qzL (hR.out.step HX.out (by rw [HSE.out]; exact H1.out) HB1.out ⟨HS1.out, HO1.out, HT1.out⟩ ue ge hO2 hb2 hg2)
  clear hR ge ue oR hO2 hb2 hg2 HB1 HS1 HO1 HT1 HSE HSS tl t1
  go_wp2
  go_roundw
  case rel => exact ⟨i + 1, _, _, _, by simp, by omega, hN⟩
  case measure => simp [intOf]; omega
def chkL (c : Con) : Int → List Int → Int
 | _, [] => 0
 | d, x :: l => if x < -1 ∨ (c.ac.length : Int) ≤ x then 1 else if d = c.days then 13 else chkL c (if x = -1 then d + 1 else d) l
def Con.chk (c : Con) (l : List Int) : Int := if c.ok = false then 1 else if 4000 < l.length then 3 else chkL c 0 l
structure CkL (w W : World) (c : Con) (m : Cm) (l : List Int) (ba i : Nat) (d : Int) : Prop where
 ga : Blk W ba 27 (coA c m)
 b : Below w.heap.size w W
 e : chkL c d (l.drop i) = chkL c 0 l
 d0 : 0 ≤ d
 d1 : d ≤ i
theorem check_any (c : Con) (m : Cm) (l : List Int) (A : Option Addr) (cap : Nat) (w : World) (hC : Cont w c m) (hA : Seg w w.heap.size 1 eI A l) (nl : l.length ≤ 1000000) :
  Calls Tryz.prog 42 #[.agg (coA c m), .slice A l.length cap] w fun e w' => e = .returned (.int .i64 (c.chk l)) ∧ Below w.heap.size w w' := by
 obtain ⟨E, hE⟩ : ∃ E, c.chk l = E := ⟨_, rfl⟩
 rw [hE]
 have HE : Hid (E = if c.ok = false then 1 else if 4000 < l.length then 3 else chkL c 0 l) := hE.symm
 have HC := qzL hC
 have HA := qzL hA
 have HV := qzL (fun W (hb : Below w.heap.size w W) => xIh c m W (hC.then_ hb))
 have na := hC.na
 clear hE hC hA
 go_enter Tryz.func42, Tryz.ntmps42
 go_upto_region 1 with (fail)
 refine xAi ?_
 intro X hX
 have ga : Blk X w.heap.size 27 (coA c m) := by rw [hX]; exact Blk.new _ _ _
 have HB : Below w.heap.size w X := by rw [hX]; (repeat (first | exact Below.refl _ _ | refine xAc ?_ _))
 obtain ⟨ba, eba⟩ : ∃ b, w.heap.size = b := ⟨_, rfl⟩
 rw [eba] at ga ⊢
 clear hX eba
 go_upto_region 2 with (first | (refine xAf (by rfl) 27 _ rfl ba rfl 27 _ ga ⟨_, Tryz.underlying27⟩ (by kernel_rfl) ?_; simp only [Act.put, qzG, qzH, qzI]) | (go_at_call 44; (with_reducible refine (HV.out _ HB).mono ?_); rintro e w1 ⟨⟨ea, eb, rfl, he⟩, hb1⟩))
 have h0 : Hid (CkL w w1 c m l ba 0 0) := ⟨ga.then_ hb1, xAa HB hb1, rfl, Int.le_refl _, Int.le_refl _⟩
 clear ga HB hb1
 cases hok : c.ok with
 | false =>
  have hea : (ea == 0) = false := by cases hq : (ea == 0) with | false => rfl | true => exact absurd (he.1 (eq_of_beq hq)) (by rw [hok]; decide)
  have t1 : (ea != 0) = true := by simp [bne, hea]
  have e1 : Hid (E = 1) := by unfold Hid; rw [HE.out, if_pos hok]
  clear he hok hea
  go_wp2
  go_ret
  rw [e1.out]
  exact ⟨rfl, h0.out.b⟩
 | true =>
 obtain rfl : ea = 0 := he.2 hok
 have hno : ¬ (c.ok = false) := by rw [hok]; decide
 have HNO := qzL hno
 clear he hok hno
 by_cases h2 : 4000 < l.length
 case pos =>
  have t2 : decide ((4000 : Int) < (l.length : Int)) = true := qzO (by omega)
  have e1 : Hid (E = 3) := by unfold Hid; rw [HE.out, if_neg HNO.out, if_pos h2]
  go_wp2
  go_ret
  rw [e1.out]
  exact ⟨rfl, h0.out.b⟩
 have t2 : decide ((4000 : Int) < (l.length : Int)) = false := qzN (by omega)
 have HE2 : Hid (E = chkL c 0 l) := by unfold Hid; rw [HE.out, if_neg HNO.out, if_neg h2]
 clear HE HNO HV
 go_upto_region 8 with (fail)
 go_loopw [7, 22] (fun v y WR => ∃ (i : Nat) (d : Int), v = .int .i64 d ∧ y = .int .i64 i ∧ i ≤ l.length ∧ Hid (CkL w WR c m l ba i d)) (fun _ y _ => 2000000 - (intOf y).toNat)
 case atStart => exact ⟨0, 0, rfl, rfl, by omega, h0⟩
 case round =>
  clear h0
  obtain ⟨i, d, rfl, rfl, hi, hR⟩ := hrel
  by_cases hlt : i < l.length
  case neg =>
   have tl : decide ((i : Int) < (l.length : Int)) = false := qzN (by omega)
   have hd : l.drop i = [] := List.drop_of_length_le (by omega)
   have e1 : Hid (E = 0) := by unfold Hid; rw [HE2.out, ← hR.out.e, hd]; rfl
   clear hd
   go_wp2
   go_ret
   rw [e1.out]
   exact ⟨rfl, hR.out.b⟩
  obtain ⟨x, hx⟩ : ∃ x, l[i]? = some x := ⟨_, qzJ hlt⟩
  obtain ⟨b0, o0, e0, hb0, hc0⟩ := xAv (HA.out.below hR.out.b) hx
  have hix := fun W => xAp (t := 22) (size := 1) (cap := cap) (len := l.length) e0 hlt (by kernel_rfl) (fun W => by kernel_rfl) W
  have x0 : wr.cell? ⟨b0, o0 + i, none⟩ = some (.int .i64 x) := by have := hc0 0 _ rfl; simpa using this
  have tl : decide ((i : Int) < (l.length : Int)) = true := qzO (by omega)
  have k3 : wr.cell? ⟨ba, 3, none⟩ = some (.slice m.a c.ac.length m.ac) := hR.out.ga.cell 3
  have k5 : wr.cell? ⟨ba, 5, none⟩ = some (.int .i64 c.days) := hR.out.ga.cell 5
  have hd : Hid (chkL c d (x :: l.drop (i + 1)) = E) := by
   obtain ⟨hi, e⟩ := qzM hx
   unfold Hid
   rw [HE2.out, ← hR.out.e, List.drop_eq_getElem_cons hi, e]
  have d0 := hR.out.d0
  have d1 := hR.out.d1
  clear hx hc0 e0
  by_cases h1 : x < -1
  case pos =>
   have t3 := qzO h1
   have e1 : Hid (E = 1) := by unfold Hid; rw [← hd.out, chkL, if_pos (.inl h1)]
   go_wp2
   go_ret
   rw [e1.out]
   exact ⟨rfl, hR.out.b⟩
  have t3 := qzN h1
  by_cases h4 : (c.ac.length : Int) ≤ x
  case pos =>
   have t4 := qzO h4
   have e1 : Hid (E = 1) := by unfold Hid; rw [← hd.out, chkL, if_pos (.inr h4)]
   go_wp2
   go_ret
   rw [e1.out]
   exact ⟨rfl, hR.out.b⟩
  have t4 := qzN h4
  have H14 : Hid (¬ (x < -1 ∨ (c.ac.length : Int) ≤ x)) := by unfold Hid; omega
  by_cases h5 : d = c.days
  case pos =>
   have t5 : (d == c.days) = true := by simpa using h5
   have e1 : Hid (E = 13) := by unfold Hid; rw [← hd.out, chkL, if_neg H14.out, if_pos h5]
   clear h5
   go_wp2
   go_ret
   rw [e1.out]
   exact ⟨rfl, hR.out.b⟩
  have t5 : (d == c.days) = false := by simpa using h5
  have H5 := qzL h5
  clear h5
  cases h6 : (x == -1) with
  | true =>
   have hn : Hid (CkL w wr c m l ba (i + 1) (d + 1)) := ⟨hR.out.ga, hR.out.b, by
    have h := hd.out
    rw [chkL, if_neg H14.out, if_neg H5.out, if_pos (by simpa using h6)] at h
    rw [h, HE2.out], by omega, by push_cast; omega⟩
   clear hd
   go_wp2
   go_roundw
   case rel => exact ⟨i + 1, d + 1, rfl, by simp, by omega, hn⟩
   case measure => simp [intOf]; omega
  | false =>
   have hn : Hid (CkL w wr c m l ba (i + 1) d) := ⟨hR.out.ga, hR.out.b, by
    have h := hd.out
    rw [chkL, if_neg H14.out, if_neg H5.out, if_neg (by simpa using h6)] at h
    rw [h, HE2.out], by omega, by push_cast; omega⟩
   clear hd
   go_wp2
   go_roundw
   case rel => exact ⟨i + 1, d, rfl, by simp, by omega, hn⟩
   case measure => simp [intOf]; omega
end Go.Proofs.YtffceokjeonpcaaGreatDoor
namespace Go.Proofs.YtffceokjeonpcaaGreatDoor
abbrev Rd.bump (r : Rd) : Rd := { r with steps := r.steps + 1 }
def Rd.tickW (c : Con) (r : Rd) : Rd := { r with day := r.day + 1, oc := List.zipWith (xBr (decide (r.day ∈ c.off)) r.steps) c.cl r.oc }
def Atc.takes (a : Atc) (r : Rd) (n : Nat) : Bool := a.kind == 1 || !r.hap.getD n false
def Rd.actA (c : Con) (r : Rd) (n : Nat) (a : Atc) : Rd := { r with hap := r.hap.set n true, oc := List.zipWith (actP n (xA9 a r.hol) r.steps (a.takes r n)) c.cl r.oc }
def Rd.actW (c : Con) (r : Rd) (n : Nat) (a : Atc) : Rd :=
 if a.takes r n = false ∨ a.kind = 1 then r.actA c n a
 else { r.actA c n a with hol := r.hol.set a.give.toNat a.to_, oc := if a.kind = 3 then List.zipWith (xBa a) c.cl (r.actA c n a).oc else (r.actA c n a).oc }
theorem tick_W (c : Con) (r : Rd) : r.tick c = (r.bump.tickW c).startR c := rfl
theorem act_W {c : Con} {r : Rd} {n : Nat} {a : Atc} (ha : c.ac[n]? = some a) : r.act c n = (r.bump.actW c n a).startR c := by
 unfold Rd.act Rd.actW
 rw [ha]
 simp only
 by_cases h : (a.takes r.bump n = false ∨ a.kind = 1)
 ·rw [if_pos h, if_pos (show (a.kind == 1 || !r.hap.getD n false) = false ∨ a.kind = 1 from h)]
  rfl
 ·rw [if_neg h, if_neg (show ¬ ((a.kind == 1 || !r.hap.getD n false) = false ∨ a.kind = 1) from h)]
  rfl
structure Pst (r r' : Rd) : Prop where
 len : r'.oc.length = r.oc.length
 fr : ∀ (j : Nat) p p', r.oc[j]? = some p → r'.oc[j]? = some p' → p'.1.from_ = p.1.from_
 st : ∀ (j : Nat) p p', r.oc[j]? = some p → r'.oc[j]? = some p' → p.1.runs = false → p'.1.st = p.1.st
 nz : ∀ (j : Nat) p p', r.oc[j]? = some p → r'.oc[j]? = some p' → p.1.runs = true → p'.1.st ≠ 0
theorem Pst.zip {c : Con} {r r' : Rd} {f : Cla → Out × Cnt → Out × Cnt} (h : RInv c r) (ho : r'.oc = List.zipWith f c.cl r.oc)
  (hf : ∀ k p, k ∈ c.cl → InvO k p.1 p.2 → (f k p).1.from_ = p.1.from_ ∧ (p.1.runs = false → (f k p).1.st = p.1.st) ∧ (p.1.runs = true → (f k p).1.st ≠ 0)) : Pst r r' := by
 have key : ∀ (j : Nat) p p', r.oc[j]? = some p → r'.oc[j]? = some p' → ∃ k, k ∈ c.cl ∧ InvO k p.1 p.2 ∧ p' = f k p := by
  intro j p p' h1 h2
  obtain ⟨k, hk⟩ : ∃ k, c.cl[j]? = some k := ⟨_, qzJ (by rw [← h.len]; exact (qzM h1).1)⟩
  rw [ho, List.getElem?_zipWith, hk, h1] at h2
  cases h2
  exact ⟨k, qzK hk, (h.inv j k p hk h1).1, rfl⟩
 refine ⟨by rw [ho, List.length_zipWith, h.len, Nat.min_self], ?_, ?_, ?_⟩ <;> intro j p p' h1 h2
 ·obtain ⟨k, g1, g2, rfl⟩ := key j p p' h1 h2; exact (hf k p g1 g2).1
 ·obtain ⟨k, g1, g2, rfl⟩ := key j p p' h1 h2; exact (hf k p g1 g2).2.1
 ·obtain ⟨k, g1, g2, rfl⟩ := key j p p' h1 h2; exact (hf k p g1 g2).2.2
theorem Pst.trans {r a r' : Rd} (h : Pst r a) (k : Pst a r') (hr : ∀ (j : Nat) p p', r.oc[j]? = some p → a.oc[j]? = some p' → p.1.runs = false → p'.1.runs = false) (hz : ∀ (j : Nat) p p', a.oc[j]? = some p → r'.oc[j]? = some p' → p'.1.st = 0 → p.1.st = 0) : Pst r r' := by
 have key : ∀ (j : Nat) p', r'.oc[j]? = some p' → ∃ q, a.oc[j]? = some q := fun j p' h2 => ⟨_, qzJ (by rw [← k.len]; exact (qzM h2).1)⟩
 refine ⟨k.len.trans h.len, ?_, ?_, ?_⟩ <;> intro j p p' h1 h2 <;> obtain ⟨q, hq⟩ := key j p' h2
 ·exact (k.fr j q p' hq h2).trans (h.fr j p q h1 hq)
 ·exact fun e => (k.st j q p' hq h2 (hr j p q h1 hq e)).trans (h.st j p q h1 hq e)
 ·exact fun e e2 => h.nz j p q h1 hq e (hz j q p' hq h2 e2)
theorem Pst.finv {c : Con} {r r' : Rd} (h : Pst r r') (f : FInv c r) : FInv c r' := by
 have key : ∀ (j : Nat) p', r'.oc[j]? = some p' → ∃ q, r.oc[j]? = some q := fun j p' h2 => ⟨_, qzJ (by rw [← h.len]; exact (qzM h2).1)⟩
 refine ⟨fun j k p' hk hp hw hf => ?_, fun j k p' hk hp hs => ?_⟩ <;> obtain ⟨p, hq⟩ := key j p' hp
 ·have e := h.fr j p p' hq hp
  have hr : p.1.runs = false := by unfold Out.runs; rw [qzN (by omega), Bool.false_and]
  rw [h.st j p p' hq hp hr]
  exact f.f0 j k p hk hq hw (by omega)
 ·cases hr : p.1.runs with
  | true => exact absurd hs (h.nz j p p' hq hp hr)
  | false =>
   rw [h.st j p p' hq hp hr] at hs
   rw [h.fr j p p' hq hp]
   exact f.f1 j k p hk hq hs
theorem Pst.wi {c : Con} {r r' : Rd} {wl : Int → List Int} (h : Pst r r') (hw : WI c r wl) : WI c r' wl := by
 refine ⟨hw.a, fun n k p' h1 h2 h3 => ?_⟩
 obtain ⟨p, hq⟩ : ∃ q, r.oc[n]? = some q := ⟨_, qzJ (by rw [← h.len]; exact (qzM h2).1)⟩
 cases hr : p.1.runs with
 | true => exact absurd h3 (h.nz n p p' hq h2 hr)
 | false => exact hw.b n k p h1 hq (by rw [← h.st n p p' hq h2 hr]; exact h3)
structure EndL (c : Con) (r r' : Rd) (l : List Int) : Prop where
 m : ∀ (j : Nat) p p', r.oc[j]? = some p → r'.oc[j]? = some p' → p.1.runs = true → p'.1.runs = false → (j : Int) ∈ l
 b : ∀ i ∈ l, ∃ n : Nat, i = (n : Int) ∧ n < c.cl.length
 n : l.length ≤ c.cl.length
theorem cond_run {st st' is : Int} (h : st = 1 ∨ st = 2) (h' : st' = 1 ∨ st' = 2) : xA2 is st = xA2 is st' := by
 unfold xA2
 rcases h with rfl | rfl <;> rcases h' with rfl | rfl <;> simp
theorem Pst.ji {c : Con} {r r' : Rd} {l : List Int} (h : Pst r r') (hi : RInv c r) (hi' : RInv c r') (hcs : xEy c) (hS : Shut c (r.marks c)) (he : EndL c r r' l) : JI c r' l := by
 intro n hr
 obtain ⟨k, p', g1, g2, g3, g4, g5⟩ := (xGi hi').1 hr
 obtain ⟨p, hq⟩ : ∃ q, r.oc[n]? = some q := ⟨_, qzJ (by rw [← h.len]; exact (qzM g2).1)⟩
 have g3' : p.1.st = 0 := by
  cases hr : p.1.runs with
  | true => exact absurd g3 (h.nz n p p' hq g2 hr)
  | false => rw [← h.st n p p' hq g2 hr]; exact g3
 have hno : xCw r k = false := by
  cases hb : xCw r k with
  | false => rfl
  | true => exact absurd ((xGi hi).2 ⟨k, p, g1, hq, g3', g4, hb⟩) (by rw [hS n]; decide)
 unfold xCw at hno g5
 rw [List.all_eq_false] at hno
 obtain ⟨x, hx, hx2⟩ := hno
 have hx3 := List.all_eq_true.1 g5 x hx
 obtain ⟨x0, x1⟩ := hcs k (qzK g1) x hx
 refine ⟨k, x.1, g1, .inr ⟨x, hx, rfl⟩, ?_⟩
 have hjl : x.1.toNat < r.oc.length := by rw [hi.len]; omega
 obtain ⟨u, hu⟩ : ∃ q, r.oc[x.1.toNat]? = some q := ⟨_, qzJ hjl⟩
 obtain ⟨u', hu'⟩ : ∃ q, r'.oc[x.1.toNat]? = some q := ⟨_, qzJ (by rw [h.len]; exact hjl)⟩
 obtain ⟨ku, hku⟩ : ∃ q, c.cl[x.1.toNat]? = some q := ⟨_, qzJ (by omega)⟩
 unfold stR at hx2 hx3
 rw [hu] at hx2
 rw [hu'] at hx3
 simp only at hx2 hx3
 have iu := (hi.inv _ ku u hku hu).1
 have iu' := (hi'.inv _ ku u' hku hu').1
 cases hr1 : u.1.runs with
 | false => rw [h.st _ u u' hu hu' hr1] at hx3; exact absurd hx3 hx2
 | true =>
  cases hr2 : u'.1.runs with
  | true => rw [cond_run (iu.run.1 hr1) (iu'.run.1 hr2)] at hx2; exact absurd hx3 hx2
  | false =>
   have := he.m _ u u' hu hu' hr1 hr2
   rwa [Int.toNat_of_nonneg x0] at this
theorem xEd {c : Con} {r : Rd} (h : RInv c r) : RInv c r.bump := ⟨h.len, by have := h.s0; show 0 ≤ r.steps + 1; omega, h.inv⟩
theorem finv_bump {c : Con} {r : Rd} (h : FInv c r) : FInv c r.bump := ⟨h.f0, h.f1⟩
theorem xG2 {c : Con} {r : Rd} (hc : CGood c) (h : RInv c r) : RInv c (r.tickW c) ∧ Pst r (r.tickW c) := by
 refine ⟨(xCn (f := xBr (decide (r.day ∈ c.off)) r.steps) (g := xBd (decide (r.day ∈ c.off))) (r.tickW c) rfl h.s0 h
  (fun k p hk hi hg ht => by
   obtain ⟨a, b⟩ := tick_mk (free := decide (r.day ∈ c.off)) (hc.k k hk) h.s0 hi
   obtain ⟨d, e⟩ := xG3 (decide (r.day ∈ c.off)) r.steps k p.1 p.2 (hc.k k hk) h.s0 hi hg ht
   exact ⟨a, b, d, e⟩)).2, Pst.zip h rfl fun k p _ hi => ?_⟩
 show (xB7 _ _ k p.1 p.2).1.from_ = _ ∧ (_ → (xB7 _ _ k p.1 p.2).1.st = _) ∧ (_ → (xB7 _ _ k p.1 p.2).1.st ≠ 0)
 cases hr : p.1.runs with
 | false =>
  unfold xB7
  rw [if_pos (.inl hr)]
  exact ⟨rfl, fun _ => rfl, fun e => (by cases e)⟩
 | true =>
  have h0 : p.1.st ≠ 0 := by rcases hi.run.1 hr with e | e <;> omega
  unfold xB7
  repeat' split
  all_goals refine ⟨rfl, fun e => (by cases e), fun _ => ?_⟩
  all_goals first | exact h0 | (simp; done) | (show (if k.kind = 1 then (4 : Int) else if k.kind = 2 then 3 else 5) ≠ 0; repeat' split) <;> simp
theorem xH7 {doer steps : Int} {k : Cla} {o : Out} {n : Cnt} (h : o.st ≠ 0) : (xAr doer steps k o n).st ≠ 0 ∧ (xAr doer steps k o n).from_ = o.from_ := by
 unfold xAr
 repeat' split
 all_goals first | exact ⟨h, rfl⟩ | exact ⟨by simp, rfl⟩
theorem actP_pst {act doer steps : Int} {takes : Bool} {k : Cla} {p : Out × Cnt} (hi : InvO k p.1 p.2) : (actP act doer steps takes k p).1.from_ = p.1.from_ ∧ (p.1.runs = false → (actP act doer steps takes k p).1.st = p.1.st) ∧ (p.1.runs = true → (actP act doer steps takes k p).1.st ≠ 0) := by
 show (actO _ _ _ _ k p.1 p.2).1.from_ = _ ∧ (_ → (actO _ _ _ _ k p.1 p.2).1.st = _) ∧ (_ → (actO _ _ _ _ k p.1 p.2).1.st ≠ 0)
 cases hr : p.1.runs with
 | false =>
  unfold actO
  rw [if_pos hr]
  exact ⟨rfl, fun _ => rfl, fun e => (by cases e)⟩
 | true =>
  have h0 : p.1.st ≠ 0 := by rcases hi.run.1 hr with e | e <;> omega
  unfold actO
  rw [if_neg (by rw [hr]; decide)]
  show (if takes = true ∧ k.act = act then xAr doer steps k p.1 p.2 else p.1).from_ = _ ∧ (_ → (if takes = true ∧ k.act = act then xAr doer steps k p.1 p.2 else p.1).st = _) ∧ (_ → (if takes = true ∧ k.act = act then xAr doer steps k p.1 p.2 else p.1).st ≠ 0)
  split
  ·exact ⟨(xH7 h0).2, fun e => (by cases e), fun _ => (xH7 h0).1⟩
  ·exact ⟨rfl, fun e => (by cases e), fun _ => h0⟩
theorem actA_inv {c : Con} {r : Rd} {n : Nat} {a : Atc} (hc : CGood c) (hp : CPause c) (h : RInv c r) (ha : c.ac[n]? = some a) : RInv c (r.actA c n a) ∧ Pst r (r.actA c n a) := by
 refine ⟨?_, Pst.zip h rfl fun k p _ hi => actP_pst hi⟩
 cases ht : a.takes r n with
 | true =>
  exact (xCn (f := actP (n : Int) (xA9 a r.hol) r.steps true) (g := fun k m => xAy (n : Int) (xA9 a r.hol) k (xA1 (n : Int) k m)) (r.actA c n a) (by unfold Rd.actA; rw [ht]) h.s0 h
   (fun k p hk hi hg ht => by
    obtain ⟨x1, x2, x3⟩ := act_mk (doer := xA9 a r.hol) (hc.k k hk) (hp n a ha k hk).1 h.s0 hi hg
    exact ⟨x1, x2, x3, actO_to hi ht⟩)).2
 | false =>
  have h1 : a.kind ≠ 1 := by intro e; unfold Atc.takes at ht; rw [e] at ht; simp at ht
  refine (xCn (f := actP (n : Int) (xA9 a r.hol) r.steps false) (g := fun _ m => m) (r.actA c n a) (by unfold Rd.actA; rw [ht]) h.s0 h
   (fun k p hk hi hg ht => ?_)).2
  have e : actP (n : Int) (xA9 a r.hol) r.steps false k p = p := by
   obtain ⟨q1, q2⟩ := (hp n a ha k hk).2 h1
   show actO (n : Int) (xA9 a r.hol) r.steps false k p.1 p.2 = p
   unfold actO
   split
   ·rfl
   ·simp
  rw [e]
  exact ⟨rfl, hi, hg, ht⟩
theorem novP_pst {a : Atc} {k : Cla} {p : Out × Cnt} : (xBa a k p).1.from_ = p.1.from_ ∧ (xBa a k p).1.st = p.1.st ∧ (xBa a k p).1.to_ = p.1.to_ := by
 unfold xBa
 split <;> exact ⟨rfl, rfl, rfl⟩
theorem novW_oc {c : Con} {oc : List (Out × Cnt)} {a : Atc} {j : Nat} {p' : Out × Cnt} (h : (List.zipWith (xBa a) c.cl oc)[j]? = some p') : ∃ k p, c.cl[j]? = some k ∧ oc[j]? = some p ∧ p' = xBa a k p := by
 rw [List.getElem?_zipWith] at h
 cases hk : c.cl[j]? with
 | none => rw [hk] at h; simp at h
 | some k =>
  cases hp : oc[j]? with
  | none => rw [hk, hp] at h; simp at h
  | some p => rw [hk, hp] at h; cases h; exact ⟨k, p, rfl, rfl, rfl⟩
theorem xGw {c : Con} {r : Rd} {n : Nat} {a : Atc} (hc : CGood c) (hp : CPause c) (h : RInv c r) (ha : c.ac[n]? = some a) : RInv c (r.actW c n a) ∧ Pst r (r.actW c n a) ∧ ∀ l, EndL c r (r.actA c n a) l → EndL c r (r.actW c n a) l := by
 obtain ⟨h1, h2⟩ := actA_inv hc hp h ha
 unfold Rd.actW
 split
 ·exact ⟨h1, h2, fun _ h => h⟩
 ·by_cases h3 : a.kind = 3
  ·rw [if_pos h3]
   have hz := xCn (f := xBa a) (g := xBb a) { r.actA c n a with hol := r.hol.set a.give.toNat a.to_, oc := List.zipWith (xBa a) c.cl (r.actA c n a).oc } rfl h1.s0 h1 (fun k p hk hi hg ht => xHn hi hg ht)
   have hlen : (List.zipWith (xBa a) c.cl (r.actA c n a).oc).length = r.oc.length := by rw [List.length_zipWith, h1.len, Nat.min_self, h.len]
   refine ⟨hz.2, ⟨hlen, fun j p p' e1 e2 => ?_, fun j p p' e1 e2 => ?_, fun j p p' e1 e2 => ?_⟩, fun l hl => ⟨fun j p p' e1 e2 => ?_, hl.b, hl.n⟩⟩
   all_goals
    obtain ⟨k, q, q1, q2, rfl⟩ := novW_oc e2
    obtain ⟨v1, v2, v3⟩ := @novP_pst a k q
   ·rw [v1]; exact h2.fr j p q e1 q2
   ·intro e; rw [v2]; exact h2.st j p q e1 q2 e
   ·intro e; rw [v2]; exact h2.nz j p q e1 q2 e
   ·intro e e3
    refine hl.m j p q e1 q2 e ?_
    unfold Out.runs at e3 ⊢
    rwa [v1, v3] at e3
  ·rw [if_neg h3]
   exact ⟨⟨h1.len, h1.s0, h1.inv⟩, ⟨h2.len, h2.fr, h2.st, h2.nz⟩, fun l hl => ⟨hl.m, hl.b, hl.n⟩⟩
theorem step_day {c : Con} {s : Sta} {x : Int} (_hx : -1 ≤ x) : (s.step c x).day = if x = -1 then s.day + 1 else s.day := by
 unfold Sta.step
 split
 ·rfl
 ·unfold Sta.act
  repeat' split
  all_goals rfl
theorem runE_chk {c : Con} : ∀ (l : List Int) (s : Sta), SOk c s → runE c s l = chkL c s.day l := by
 intro l
 induction l with
 | nil => intro s _; rfl
 | cons x l ih =>
  intro s hs
  have hok : s.ok c = true := xDu.2 hs
  unfold runE chkL
  by_cases h1 : x < -1 ∨ (c.ac.length : Int) ≤ x
  ·have e : s.stepE c x = 1 := by unfold Sta.stepE; rw [if_pos (.inr h1)]
   rw [e, if_neg (by decide), if_pos h1]
  ·have h1' : ¬ (s.ok c = false ∨ x < -1 ∨ (c.ac.length : Int) ≤ x) := by rw [hok]; simpa using h1
   by_cases h2 : s.day = c.days
   ·have e : s.stepE c x = 13 := by unfold Sta.stepE; rw [if_neg h1', if_pos h2]
    rw [e, if_neg (by decide), if_neg h1, if_pos h2]
   ·have e : s.stepE c x = 0 := by unfold Sta.stepE; rw [if_neg h1', if_neg h2]
    rw [e, if_pos rfl, if_neg h1, if_neg h2, ih _ (xCo hs e), step_day (by omega)]
theorem run_chk (c : Con) (l : List Int) : c.runE l = c.chk l := by
 unfold Con.runE Con.chk Con.startE
 cases hok : c.ok with
 | false => simp
 | true =>
  simp only [if_true, ne_eq, not_true_eq_false, if_false, Bool.true_eq_false]
  split
  ·rfl
  ·exact runE_chk l c.first (xDe hok)
end Go.Proofs.YtffceokjeonpcaaGreatDoor
