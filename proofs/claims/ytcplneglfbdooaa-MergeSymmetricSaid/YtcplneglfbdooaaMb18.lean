/- Contracts of functions and plain laws, joined: Kbq, Kbn, Kbr. -/
import Derived.Test.YtcplneglfbdooaaMb17
import Derived.Test.YtcplneglfbdooaaMb14
/- The walk of merge.copied. -/
namespace Go.Proofs.Ytcplneglfbdooaa
open Go.RowKit

/-- lists of elements of different types lie in different blocks -/
theorem own_ty_ne {α β : Type} {w : World} {B B' : Nat} {T T' : TypeId} {size size' : Nat} {enc : α → List Value} {enc' : β → List Value} {v : Value} {xs : List α} {ys : List β} {g n cap : Nat} (h : Own w B T size enc v xs) (h' : Own w B' T' size' enc' (.slice (some ⟨g, 0, none⟩) n cap) ys) (hT : T ≠ T') : ∀ k, v.ownBlock = some k → k ≠ g := by
  intro k hk e
  rcases h.2 with ⟨h4, _⟩ | ⟨g4, cap4, cur4, hv4, _, hh4, _⟩
  · rw [h4] at hk; cases hk
  · rcases h'.2 with ⟨h5, _⟩ | ⟨g5, cap5, cur5, hv5, _, hh5, _⟩
    · cases h5
    · rw [hv4] at hk
      cases hk
      injection hv5 with h6 _ _
      injection h6 with h6
      injection h6 with h6 _ _
      have e4 : g4 = g := e
      rw [e4, h6, hh5] at hh4
      injection hh4 with hh4
      injection hh4 with _ h7
      exact hT h7.symm
set_option maxRecDepth 100000 in
set_option maxHeartbeats 6400000 in
theorem copied_con (c : Con) (m : Cm) (w : World) (h : Cont w c m) :
    Calls Try.prog 28 #[.agg (coA c m)] w fun e w' => (∃ m', e = .returned (.agg (coA c m')) ∧ Cont w' c m' ∧ Off (w.heap.size ≤ ·) c m') ∧ Below w.heap.size w w' := by
  have HC := Lib.hid h
  have nk := h.nk
  have hlk : m.ks.length = c.cl.length := by have := congrArg List.length h.e; simpa using this
  clear h
  go_enter Try.func28, Try.ntmps28
  go_upto_region 1 with (fail)
  refine name_wp ?_
  intro X hX
  have gbc : Blk X w.heap.size 27 (coA c m) := by rw [hX]; exact (blk_at (by simp)).alloc _
  have gbr : Blk X (w.heap.size + 1) 27 (coZ) := by rw [hX]; exact blk_at (by simp)
  have HB : Below w.heap.size w X := by rw [hX]; (repeat (first | with_reducible assumption | with_reducible exact Below.refl _ _ | with_reducible refine below_drewN ?_ _ | with_reducible refine Below.drew ?_ | with_reducible refine below_alloc ?_ _ | with_reducible refine Below.setCell ?_ (by first | omega | (simp; done) | (simp; omega)) _ | with_reducible refine below_then ?_ (by with_reducible assumption) | (refine below_then (a := World.drew _) ?_ (by with_reducible assumption))))
  clear hX
  obtain ⟨br, ebr⟩ : ∃ b, w.heap.size + 1 = b := ⟨_, rfl⟩
  obtain ⟨bc, ebc⟩ : ∃ b, w.heap.size = b := ⟨_, rfl⟩
  have lbc : w.heap.size ≤ bc := by omega
  have lbr : w.heap.size ≤ br := by omega
  have nbcbr : bc ≠ br := by omega
  rw [ebr] at gbr ⊢
  rw [ebc] at gbc ⊢
  clear ebc ebr
  have g0 := gbc
  have gr0 := gbr
  have HB0 := Lib.hid HB
  clear gbc gbr HB
  have HCL := clone_int m.h m.hc c.hold X HC.out.nh ((HC.out.h.below HB0.out).more HB0.out.size) HC.out.ch
  have HCL := Lib.hid HCL
  have d0 : X.cell? ⟨bc, 1, none⟩ = some (.slice m.h c.hold.length m.hc) := g0.cell 1
  go_upto_region 2 with (go_at_call 39; (with_reducible refine HCL.out.mono ?_); rintro e w1 ⟨⟨v, rfl, hO⟩, hb⟩; obtain ⟨A1, c1, ev, hc1, _⟩ := hO.seg eI_len; subst ev; have e1 : w1.cell? ⟨bc, 1, none⟩ = some (.slice m.h c.hold.length m.hc) := (g0.then_ hb).cell 1; have f1 : w1.frozen? ⟨bc, 1, none⟩ = false := (g0.then_ hb).frozen 1)
  refine name_wp ?_
  intro V1 hV
  have g1 : Blk V1 bc 27 (coA c ⟨A1, c1, m.u, m.uc, m.a, m.ac, m.k, m.kc, m.o, m.oc, m.ks⟩) := by rw [hV]; exact (g0.then_ hb).set_ 1 _
  have gr1 : Blk V1 br 27 coZ := by rw [hV]; exact (gr0.then_ hb).far (by simp; omega) _
  obtain ⟨B1, eB1⟩ : ∃ b, X.heap.size = b := ⟨_, rfl⟩
  have lB1 : bc < B1 ∧ br < B1 ∧ w.heap.size ≤ B1 := by have := g0.lt; have := gr0.lt; have := HB0.out.size; omega
  have HO1 : Hid (Own V1 B1 3 1 eI (.slice A1 c.hold.length c1) c.hold) := by rw [hV, ← eB1]; exact hO.setBelow (p := ⟨bc, 1, none⟩) (by rw [eB1]; exact lB1.1) _
  have HB1 : Hid (Below w.heap.size w V1) := by rw [hV]; exact (below_then HB0.out hb).setCell (p := ⟨bc, 1, none⟩) lbc _
  have lS1 : B1 ≤ V1.heap.size := by rw [hV, ← eB1]; have := hb.size; simpa using this
  clear hV hO hb d0 e1 f1 HCL g0 gr0 eB1 HB0
  have HCL := clone_uni m.u m.uc c.un V1 HC.out.nu ((HC.out.u.below HB1.out).more HB1.out.size) HC.out.cu
  have HCL := Lib.hid HCL
  have d0 : V1.cell? ⟨bc, 2, none⟩ = some (.slice m.u c.un.length m.uc) := g1.cell 2
  go_upto_region 3 with (go_at_call 40; (with_reducible refine HCL.out.mono ?_); rintro e w1 ⟨⟨v, rfl, hO⟩, hb⟩; obtain ⟨A2, c2, ev, hc2, _⟩ := hO.seg eU_len; subst ev; have e1 : w1.cell? ⟨bc, 2, none⟩ = some (.slice m.u c.un.length m.uc) := (g1.then_ hb).cell 2; have f1 : w1.frozen? ⟨bc, 2, none⟩ = false := (g1.then_ hb).frozen 2)
  refine name_wp ?_
  intro V2 hV
  have g2 : Blk V2 bc 27 (coA c ⟨A1, c1, A2, c2, m.a, m.ac, m.k, m.kc, m.o, m.oc, m.ks⟩) := by rw [hV]; exact (g1.then_ hb).set_ 2 _
  have gr2 : Blk V2 br 27 coZ := by rw [hV]; exact (gr1.then_ hb).far (by simp; omega) _
  obtain ⟨B2, eB2⟩ : ∃ b, V1.heap.size = b := ⟨_, rfl⟩
  have lB2 : bc < B2 ∧ br < B2 ∧ w.heap.size ≤ B2 := by have := g1.lt; have := gr1.lt; have := HB1.out.size; omega
  have HO2 : Hid (Own V2 B2 67 5 eU (.slice A2 c.un.length c2) c.un) := by rw [hV, ← eB2]; exact hO.setBelow (p := ⟨bc, 2, none⟩) (by rw [eB2]; exact lB2.1) _
  have HO1 : Hid (Own V2 B1 3 1 eI (.slice A1 c.hold.length c1) c.hold) := by rw [hV]; exact (HO1.out.below hb).setBelow (p := ⟨bc, 2, none⟩) lB1.1 _
  have HB2 : Hid (Below w.heap.size w V2) := by rw [hV]; exact (below_then HB1.out hb).setCell (p := ⟨bc, 2, none⟩) lbc _
  have lS2 : B2 ≤ V2.heap.size := by rw [hV, ← eB2]; have := hb.size; simpa using this
  clear hV hO hb d0 e1 f1 HCL g1 gr1 eB2 HB1
  have HCL := clone_atc m.a m.ac c.ac V2 HC.out.na ((HC.out.a.below HB2.out).more HB2.out.size) HC.out.ca
  have HCL := Lib.hid HCL
  have d0 : V2.cell? ⟨bc, 3, none⟩ = some (.slice m.a c.ac.length m.ac) := g2.cell 3
  go_upto_region 4 with (go_at_call 41; (with_reducible refine HCL.out.mono ?_); rintro e w1 ⟨⟨v, rfl, hO⟩, hb⟩; obtain ⟨A3, c3, ev, hc3, _⟩ := hO.seg eA_len; subst ev; have e1 : w1.cell? ⟨bc, 3, none⟩ = some (.slice m.a c.ac.length m.ac) := (g2.then_ hb).cell 3; have f1 : w1.frozen? ⟨bc, 3, none⟩ = false := (g2.then_ hb).frozen 3)
  refine name_wp ?_
  intro V3 hV
  have g3 : Blk V3 bc 27 (coA c ⟨A1, c1, A2, c2, A3, c3, m.k, m.kc, m.o, m.oc, m.ks⟩) := by rw [hV]; exact (g2.then_ hb).set_ 3 _
  have gr3 : Blk V3 br 27 coZ := by rw [hV]; exact (gr2.then_ hb).far (by simp; omega) _
  obtain ⟨B3, eB3⟩ : ∃ b, V2.heap.size = b := ⟨_, rfl⟩
  have lB3 : bc < B3 ∧ br < B3 ∧ w.heap.size ≤ B3 := by have := g2.lt; have := gr2.lt; have := HB2.out.size; omega
  have HO3 : Hid (Own V3 B3 69 7 eA (.slice A3 c.ac.length c3) c.ac) := by rw [hV, ← eB3]; exact hO.setBelow (p := ⟨bc, 3, none⟩) (by rw [eB3]; exact lB3.1) _
  have HO1 : Hid (Own V3 B1 3 1 eI (.slice A1 c.hold.length c1) c.hold) := by rw [hV]; exact (HO1.out.below hb).setBelow (p := ⟨bc, 3, none⟩) lB1.1 _
  have HO2 : Hid (Own V3 B2 67 5 eU (.slice A2 c.un.length c2) c.un) := by rw [hV]; exact (HO2.out.below hb).setBelow (p := ⟨bc, 3, none⟩) lB2.1 _
  have HB3 : Hid (Below w.heap.size w V3) := by rw [hV]; exact (below_then HB2.out hb).setCell (p := ⟨bc, 3, none⟩) lbc _
  have lS3 : B3 ≤ V3.heap.size := by rw [hV, ← eB3]; have := hb.size; simpa using this
  clear hV hO hb d0 e1 f1 HCL g2 gr2 eB3 HB2
  have HCL := clone_int m.o m.oc c.off V3 HC.out.no ((HC.out.o.below HB3.out).more HB3.out.size) HC.out.co
  have HCL := Lib.hid HCL
  have d0 : V3.cell? ⟨bc, 6, none⟩ = some (.slice m.o c.off.length m.oc) := g3.cell 6
  go_upto_region 5 with (go_at_call 39; (with_reducible refine HCL.out.mono ?_); rintro e w1 ⟨⟨v, rfl, hO⟩, hb⟩; obtain ⟨A4, c4, ev, hc4, _⟩ := hO.seg eI_len; subst ev; have e1 : w1.cell? ⟨bc, 6, none⟩ = some (.slice m.o c.off.length m.oc) := (g3.then_ hb).cell 6; have f1 : w1.frozen? ⟨bc, 6, none⟩ = false := (g3.then_ hb).frozen 6)
  refine name_wp ?_
  intro V4 hV
  have g4 : Blk V4 bc 27 (coA c ⟨A1, c1, A2, c2, A3, c3, m.k, m.kc, A4, c4, m.ks⟩) := by rw [hV]; exact (g3.then_ hb).set_ 6 _
  have gr4 : Blk V4 br 27 coZ := by rw [hV]; exact (gr3.then_ hb).far (by simp; omega) _
  obtain ⟨B4, eB4⟩ : ∃ b, V3.heap.size = b := ⟨_, rfl⟩
  have lB4 : bc < B4 ∧ br < B4 ∧ w.heap.size ≤ B4 := by have := g3.lt; have := gr3.lt; have := HB3.out.size; omega
  have HO4 : Hid (Own V4 B4 3 1 eI (.slice A4 c.off.length c4) c.off) := by rw [hV, ← eB4]; exact hO.setBelow (p := ⟨bc, 6, none⟩) (by rw [eB4]; exact lB4.1) _
  have HO1 : Hid (Own V4 B1 3 1 eI (.slice A1 c.hold.length c1) c.hold) := by rw [hV]; exact (HO1.out.below hb).setBelow (p := ⟨bc, 6, none⟩) lB1.1 _
  have HO2 : Hid (Own V4 B2 67 5 eU (.slice A2 c.un.length c2) c.un) := by rw [hV]; exact (HO2.out.below hb).setBelow (p := ⟨bc, 6, none⟩) lB2.1 _
  have HO3 : Hid (Own V4 B3 69 7 eA (.slice A3 c.ac.length c3) c.ac) := by rw [hV]; exact (HO3.out.below hb).setBelow (p := ⟨bc, 6, none⟩) lB3.1 _
  have HB4 : Hid (Below w.heap.size w V4) := by rw [hV]; exact (below_then HB3.out hb).setCell (p := ⟨bc, 6, none⟩) lbc _
  have lS4 : B4 ≤ V4.heap.size := by rw [hV, ← eB4]; have := hb.size; simpa using this
  clear hV hO hb d0 e1 f1 HCL g3 gr3 eB4 HB3
  have HCL := clone_kla m.k m.kc m.ks V4 (by rw [hlk]; exact HC.out.nk) ((HC.out.k.below HB4.out).more HB4.out.size) (by rw [hlk]; exact HC.out.ck)
  rw [hlk] at HCL
  have HCL := Lib.hid HCL
  have d0 : V4.cell? ⟨bc, 4, none⟩ = some (.slice m.k c.cl.length m.kc) := g4.cell 4
  go_upto_region 6 with (go_at_call 42; (with_reducible refine HCL.out.mono ?_); rintro e w1 ⟨⟨v, rfl, hO⟩, hb⟩; obtain ⟨A5, c5, ev, hc5, _⟩ := hO.seg eK_len; rw [hlk] at ev hc5; subst ev; have e1 : w1.cell? ⟨bc, 4, none⟩ = some (.slice m.k c.cl.length m.kc) := (g4.then_ hb).cell 4; have f1 : w1.frozen? ⟨bc, 4, none⟩ = false := (g4.then_ hb).frozen 4)
  refine name_wp ?_
  intro V5 hV
  have g5 : Blk V5 bc 27 (coA c ⟨A1, c1, A2, c2, A3, c3, A5, c5, A4, c4, m.ks⟩) := by rw [hV]; exact (g4.then_ hb).set_ 4 _
  have gr5 : Blk V5 br 27 coZ := by rw [hV]; exact (gr4.then_ hb).far (by simp; omega) _
  obtain ⟨B5, eB5⟩ : ∃ b, V4.heap.size = b := ⟨_, rfl⟩
  have lB5 : bc < B5 ∧ br < B5 ∧ w.heap.size ≤ B5 := by have := g4.lt; have := gr4.lt; have := HB4.out.size; omega
  have HO5 : Hid (Own V5 B5 47 16 eK (.slice A5 c.cl.length c5) m.ks) := by rw [hV, ← eB5]; exact hO.setBelow (p := ⟨bc, 4, none⟩) (by rw [eB5]; exact lB5.1) _
  have HO1 : Hid (Own V5 B1 3 1 eI (.slice A1 c.hold.length c1) c.hold) := by rw [hV]; exact (HO1.out.below hb).setBelow (p := ⟨bc, 4, none⟩) lB1.1 _
  have HO2 : Hid (Own V5 B2 67 5 eU (.slice A2 c.un.length c2) c.un) := by rw [hV]; exact (HO2.out.below hb).setBelow (p := ⟨bc, 4, none⟩) lB2.1 _
  have HO3 : Hid (Own V5 B3 69 7 eA (.slice A3 c.ac.length c3) c.ac) := by rw [hV]; exact (HO3.out.below hb).setBelow (p := ⟨bc, 4, none⟩) lB3.1 _
  have HO4 : Hid (Own V5 B4 3 1 eI (.slice A4 c.off.length c4) c.off) := by rw [hV]; exact (HO4.out.below hb).setBelow (p := ⟨bc, 4, none⟩) lB4.1 _
  have HB5 : Hid (Below w.heap.size w V5) := by rw [hV]; exact (below_then HB4.out hb).setCell (p := ⟨bc, 4, none⟩) lbc _
  have lS5 : B5 ≤ V5.heap.size := by rw [hV, ← eB5]; have := hb.size; simpa using this
  clear hV hO hb d0 e1 f1 HCL g4 gr4 eB5 HB4
  have d0 : V5.cell? ⟨bc, 4, none⟩ = some (.slice A5 c.cl.length c5) := g5.cell 4
  go_upto_region 7 with (fail)
  clear d0
  have HG5 := Lib.hid g5
  have HR5 := Lib.hid gr5
  clear g5 gr5
  go_loopw [28] (fun y WR => ∃ (i : Nat) (ks' : List Km), i ≤ c.cl.length ∧ y = .int .i64 i ∧ ks'.length = c.cl.length ∧ Hid (Own WR B5 47 16 eK (.slice A5 c.cl.length c5) ks') ∧ Hid (ks'.map (·.k) = c.cl) ∧ Hid (∀ x ∈ ks', KOk WR x) ∧ Hid (∀ j x, j < i → ks'[j]? = some x → ∀ a, x.A = some a → B5 ≤ a.block ∧ A5 ≠ some ⟨a.block, 0, none⟩) ∧ Hid (∀ j, i ≤ j → ks'[j]? = m.ks[j]?) ∧ Hid (Own WR B1 3 1 eI (.slice A1 c.hold.length c1) c.hold) ∧ Hid (Own WR B2 67 5 eU (.slice A2 c.un.length c2) c.un) ∧ Hid (Own WR B3 69 7 eA (.slice A3 c.ac.length c3) c.ac) ∧ Hid (Own WR B4 3 1 eI (.slice A4 c.off.length c4) c.off) ∧ Hid (Blk WR bc 27 (coA c ⟨A1, c1, A2, c2, A3, c3, A5, c5, A4, c4, m.ks⟩)) ∧ Hid (Blk WR br 27 coZ) ∧ Hid (Below w.heap.size w WR) ∧ Hid (B5 ≤ WR.heap.size)) (fun y _ => 2000000 - (intOf y).toNat)
  case atStart => exact ⟨0, m.ks, by omega, rfl, hlk, HO5, HC.out.e, fun x hx => (HC.out.t x hx).then_ HB5.out, fun j x hj => by omega, fun j _ => rfl, HO1, HO2, HO3, HO4, HG5, HR5, HB5, lS5⟩
  case round =>
    clear HO5 HO1 HO2 HO3 HO4 HG5 HR5 HB5 lS1 lS2 lS3 lS4 lS5
    obtain ⟨i, ks', hi', rfl, hl', hO, hE, hT, hF, hR, hO1, hO2, hO3, hO4, hG, hGr, hB, hS⟩ := hrel
    by_cases hlt : i < c.cl.length
    · have tn : decide ((i : Int) < (c.cl.length : Int)) = true := decide_eq_true (by omega)
      obtain ⟨g, rfl⟩ := own_some hO.out (by omega)
      obtain ⟨x, hx⟩ : ∃ x, ks'[i]? = some x := ⟨_, List.getElem?_eq_getElem (by omega)⟩
      have hxm : m.ks[i]? = some x := by rw [← hR.out i (Nat.le_refl _)]; exact hx
      obtain ⟨b0, o0, eA0, hb0, hc0⟩ := segAt (hO.out.segA eK_len) hx
      cases eA0
      have hrg : wr.rangeAt g (i * 16) (kL x) := fun j v hv => by have h := hc0 j v hv; rwa [Nat.zero_add] at h
      have hix := fun W => idx_at (t := 25) (size := 16) (cap := c5) (len := c.cl.length) (A := some ⟨g, 0, none⟩) rfl hlt (by kernel_rfl) (fun W => by kernel_rfl) W
      simp only [Nat.zero_add] at hix
      have HX := Lib.hid hx
      have lg := hO.out.lt_
      have KX : Hid (KOk wr x) := hT.out x (List.mem_of_getElem? hx)
      have HA0 : Hid (SegP (· < w.heap.size) x.A x.k.start) := HC.out.off.t x (List.mem_of_getElem? hxm)
      obtain ⟨z1, z2⟩ := hO.out.getAt eK_len hl' hx (j := 4) (by omega)
      have q1 : Hid (wr.cell? ⟨g, i * 16 + 4, none⟩ = some (.slice x.A x.k.start.length x.cap)) := z1
      have q2 : Hid (wr.frozen? ⟨g, i * 16 + 4, none⟩ = false) := z2
      have HL := Lib.hid hl'
      clear hc0 hx hxm z1 z2 hl'
      go_upto_region 9 with (refine wpList_elem4 47 el16 _ _ _ _ _ rfl rfl rfl rfl rfl rfl rfl rfl rfl rfl rfl rfl g _ rfl (kL x) rfl hrg (by simp [Value.oneCell']) (by decide) (by decide) (by decide) (by simp) (by simp) (.int .i64 (i : Nat)) rfl ?_; simp only [Act.put, List.setIfInBounds_toArray, List.set_cons_succ, List.set_cons_zero])
      refine name_wp ?_
      intro Y hY
      have gx : Blk Y wr.heap.size 47 (kA x) := by rw [hY]; exact Blk.new _ _ _
      have hbY : Below wr.heap.size wr Y := by rw [hY]; exact wa1 _ _
      clear hY hrg
      obtain ⟨bx, ex⟩ : ∃ b, wr.heap.size = b := ⟨_, rfl⟩
      have gY := hG.out.then_ hbY
      have KY : Hid (KOk Y x) := KX.out.then_ hbY
      have p1 : Hid (Y.cell? ⟨g, i * 16 + 4, none⟩ = some (.slice x.A x.k.start.length x.cap)) := (hbY.cell (p := ⟨g, _, none⟩) lg.2).trans q1.out
      have p2 : Hid (Y.frozen? ⟨g, i * 16 + 4, none⟩ = false) := (hbY.frozen (p := ⟨g, _, none⟩) lg.2).trans q2.out
      have lgY : g < Y.heap.size := Nat.lt_of_lt_of_le lg.2 hbY.size
      have lSY : B5 ≤ Y.heap.size := by have := hbY.size; have := hS.out; omega
      rw [ex] at gx ⊢
      have hz := Below.refl Y.heap.size Y
      clear q1 q2 KX
      refine wp_region_hb (fun w' => Below Y.heap.size Y w') [0, 1, 2, 3, 4, 5] [6, 7, 8] (by kernel_rfl) (by kernel_rfl) (by repeat (first | with_reducible refine panOk_then ?_ | with_reducible refine panOk_block ?_ | exact panOk_body)) (Below.drew (Below.refl _ _)) (fun hdir hsel hpan hHeld => ?_)
      refine wpHB_take (i := 0) (oi := ⟨some 33, _, _, _, _, _⟩) hdir hsel hpan rfl (by kernel_rfl) (by kernel_rfl) (by kernel_rfl) (Or.inl ⟨by rfl, fun _ _ => by rfl⟩) (by assumption) ?_
      try simp only [Act.put, List.setIfInBounds_toArray, List.set_cons_zero, List.set_cons_succ]
      refine wpHB_take (i := 1) (oi := ⟨some 34, _, _, _, _, _⟩) (v := .slice (some ⟨g, 0, none⟩) c.cl.length c5) hdir hsel hpan rfl (by kernel_rfl) (by kernel_rfl) (by kernel_rfl) (Or.inl ⟨by rfl, fun w hw => by have hc := (gY.then_ hw).cell 4; go_simp⟩) (by assumption) ?_
      try simp only [Act.put, List.setIfInBounds_toArray, List.set_cons_zero, List.set_cons_succ]
      refine wpHB_take (i := 2) (oi := ⟨some 35, _, _, _, _, _⟩) hdir hsel hpan rfl (by kernel_rfl) (by kernel_rfl) (by kernel_rfl) (Or.inl ⟨by rfl, fun _ _ => by rfl⟩) (by assumption) ?_
      try simp only [Act.put, List.setIfInBounds_toArray, List.set_cons_zero, List.set_cons_succ]
      refine wpHB_take (i := 3) (oi := ⟨some 36, _, _, _, _, _⟩) hdir hsel hpan rfl (by kernel_rfl) (by kernel_rfl) (by kernel_rfl) (Or.inl ⟨by rfl, fun _ _ => by rfl⟩) (by assumption) ?_
      try simp only [Act.put, List.setIfInBounds_toArray, List.set_cons_zero, List.set_cons_succ]
      refine wpHB_take (i := 4) (oi := ⟨some 37, _, _, _, _, _⟩) (v := .slice x.A x.k.start.length x.cap) hdir hsel hpan rfl (by kernel_rfl) (by kernel_rfl) (by kernel_rfl) (Or.inl ⟨by rfl, fun w hw => by have hc := (gx.then_ hw).cell 4; go_simp⟩) (by assumption) ?_
      try simp only [Act.put, List.setIfInBounds_toArray, List.set_cons_zero, List.set_cons_succ]
      refine wpHB_ready (rs := [5]) (by kernel_rfl) (by simp) ?_
      refine AllHB.cons (by kernel_rfl) (o := ⟨some 38, _, _, _, _, _⟩) rfl (fun K hK => ?_) AllHB.nil
      go_simp
      (go_at_call 49; (with_reducible refine (clone_con x.A x.cap x.k.start _ KY.out.n ((KY.out.s.below hHeld).more hHeld.size) KY.out.c).mono ?_); rintro e w2 ⟨⟨v2, rfl, hOc⟩, hb2⟩)
      obtain ⟨A', c', rfl, hc', _⟩ := hOc.seg eS_len
      refine hK.out _ _ (below_then hHeld hb2) (fun hHeld2 => ?_)
      clear hK K hHeld
      have hHeld := hHeld2
      clear hHeld2
      try simp only [Act.put, List.setIfInBounds_toArray, List.set_cons_zero, List.set_cons_succ]
      refine wpHB_tail (by kernel_rfl) (by kernel_rfl) ?_
      clear hdir hsel hpan
      simp only [opsAt, List.getElem?_toArray, List.getElem?_cons_succ, List.getElem?_cons_zero, Option.toList_some, List.cons_append, List.nil_append]
      have r1 : w2.cell? ⟨g, i * 16 + 4, none⟩ = some (.slice x.A x.k.start.length x.cap) := (hHeld.cell (p := ⟨g, _, none⟩) lgY).trans p1.out
      have r2 : w2.frozen? ⟨g, i * 16 + 4, none⟩ = false := (hHeld.frozen (p := ⟨g, _, none⟩) lgY).trans p2.out
      obtain ⟨W5, hW5⟩ : ∃ W, w2.setCell ⟨g, i * 16 + 4, none⟩ (.slice A' x.k.start.length c') = W := ⟨_, rfl⟩
      have U : Upd w2 W5 g := by rw [← hW5]; exact (Upd.refl _ _).setCell _ _
      have hA := own_ge hOc
      have hYW : Below wr.heap.size wr w2 := below_then hbY hHeld
      have lw2 := hHeld.size
      have hneA : ∀ a, A' = some a → B5 ≤ a.block ∧ a.block ≠ g := fun a ha => by have : Y.heap.size ≤ a.block := hA a ha; omega
      go_wp2
      try rw [hW5]
      go_roundw
      case rel =>
        refine ⟨i + 1, ks'.set i ⟨x.k, A', c'⟩, by omega, by simp, by rw [List.length_set]; exact HL.out, ?_, ?_, ?_, ?_, ?_, ?_, ?_, ?_, ?_, ?_, ?_, ?_, ?_⟩
        · rw [← hW5]; exact (hO.out.below hYW).setAt eK_len HL.out HX.out (j := 4) (y := ⟨x.k, A', c'⟩) (u := .slice A' x.k.start.length c') (by omega) rfl
        · unfold Hid
          rw [← hE.out, List.map_set]
          exact set_same (by rw [List.getElem?_map, HX.out]; rfl)
        · refine mem_set (fun z hz => ?_) i ?_
          · have h := (hT.out z hz).then_ hYW
            have hp : SegP (· ≠ g) z.A z.k.start := by
              intro h0 a ha e
              obtain ⟨j, hj⟩ := List.getElem?_of_mem hz
              by_cases hji : j < i
              · have := (hF.out j z hji hj a ha).2
                rw [e] at this
                exact this rfl
              · have h3 := hR.out j (by omega)
                rw [hj] at h3
                have h4 := HC.out.off.t z (List.mem_of_getElem? h3.symm) h0 a ha
                have h5 : a.block < w.heap.size := h4
                have := lB5
                omega
            exact ⟨by rw [U.s]; exact h.s.upd2 U hp, h.v, h.n, h.c⟩
          · exact ⟨by rw [U.s]; exact (hOc.segA eS_len).upd2 U (fun _ a ha => (hneA a ha).2), KY.out.v, KY.out.n, hc'⟩
        · intro j z hj hz a ha
          by_cases hji : j = i
          · subst hji
            rw [List.getElem?_set_self (by rw [HL.out]; omega)] at hz
            cases hz
            have := hneA a ha
            refine ⟨this.1, fun e => this.2 ?_⟩
            injection e with e
            injection e with e
            exact e.symm
          · rw [List.getElem?_set_ne (fun e => hji e.symm)] at hz
            exact hF.out j z (by omega) hz a ha
        · intro j hj
          rw [List.getElem?_set_ne (by omega)]
          exact hR.out j (by omega)
        · exact (hO1.out.below hYW).upd U (by have := lB1; have := lB5; exact own_ty_ne (hO1.out.below hYW) (hO.out.below hYW) (by decide))
        · exact (hO2.out.below hYW).upd U (by have := lB1; have := lB5; exact own_ty_ne (hO2.out.below hYW) (hO.out.below hYW) (by decide))
        · exact (hO3.out.below hYW).upd U (by have := lB1; have := lB5; exact own_ty_ne (hO3.out.below hYW) (hO.out.below hYW) (by decide))
        · exact (hO4.out.below hYW).upd U (by have := lB1; have := lB5; exact own_ty_ne (hO4.out.below hYW) (hO.out.below hYW) (by decide))
        · exact (hG.out.then_ hYW).upd U (by have := lB5; omega)
        · exact (hGr.out.then_ hYW).upd U (by have := lB5; omega)
        · exact (below_then hB.out hYW).trans (U.b _ (by have := lB5; omega))
        · unfold Hid; rw [U.s]; omega
      case measure => simp [intOf]; omega
    · have tn : decide ((i : Int) < (c.cl.length : Int)) = false := decide_eq_false (by omega)
      obtain rfl : i = c.cl.length := by omega
      have gF := hG.out
      have grF := hGr.out
      have lrF := grF.lt
      clear hG hGr
      go_wp2_with (first | (refine wpList_row_w (by rfl) 27 _ rfl bc rfl 27 _ gF ⟨_, Try.underlying27⟩ (by kernel_rfl) ?_; simp only [Act.put, List.setIfInBounds_toArray, List.set_cons_succ, List.set_cons_zero]) | (refine wpList_store_all rfl 27 _ _ rfl br 27 [] coZ.toList [] (coA c ⟨A1, c1, A2, c2, A3, c3, A5, c5, A4, c4, m.ks⟩).toList rfl rfl grF rfl (by kernel_rfl) (by simp [Value.oneCell']) ?_; intro we ge ue))
      have o1 := hO1.out.upd ue (own_ne hO1.out lB1.2.1)
      have o2 := hO2.out.upd ue (own_ne hO2.out lB2.2.1)
      have o3 := hO3.out.upd ue (own_ne hO3.out lB3.2.1)
      have o4 := hO4.out.upd ue (own_ne hO4.out lB4.2.1)
      have o5 := hO.out.upd ue (own_ne hO.out lB5.2.1)
      have hF2 : ∀ x ∈ ks', SegP (B5 ≤ ·) x.A x.k.start := fun x hx h0 a ha => by
        obtain ⟨j, hj⟩ := List.getElem?_of_mem hx
        exact (hF.out j x (by have := (List.getElem?_eq_some_iff.1 hj).1; omega) hj a ha).1
      refine bodyPost_ret (ret_row rfl rfl ge ⟨_, Try.underlying27⟩ (by kernel_rfl)) rfl ⟨⟨⟨A1, c1, A2, c2, A3, c3, A5, c5, A4, c4, ks'⟩, rfl, ?_, ?_⟩, hB.out.trans (ue.b _ lbr)⟩
      · exact ⟨o1.segA eI_len, o2.segA eU_len, o3.segA eA_len, o5.segA eK_len, o4.segA eI_len, hE.out, fun x hx => ⟨by rw [ue.s]; exact (hT.out x hx).s.upd2 ue ((hF2 x hx).mono fun b hb e => by have := lB5; omega), (hT.out x hx).v, (hT.out x hx).n, (hT.out x hx).c⟩, HC.out.bu, HC.out.ba, HC.out.nh, HC.out.nu, HC.out.na, HC.out.nk, HC.out.no, hc1, hc2, hc3, hc5, hc4⟩
      · exact ⟨own_segP o1 lB1.2.2, own_segP o2 lB2.2.2, own_segP o3 lB3.2.2, own_segP (n := c.cl.length) o5 lB5.2.2, own_segP o4 lB4.2.2, fun x hx => (hF2 x hx).mono fun b hb => Nat.le_trans lB5.2.2 hb⟩
end Go.Proofs.Ytcplneglfbdooaa
/- The walk of slices.EqualFunc at clauses. -/
namespace Go.Proofs.Ytcplneglfbdooaa
open Go.RowKit

abbrev SameC : Prop := ∀ (x y : Km) (W : World), KOk W x → KOk W y → Calls Try.prog 44 #[.agg (kA x), .agg (kA y)] W fun e w' => e = .returned (.bool (decide (x.k = y.k))) ∧ Below W.heap.size W w'
set_option maxRecDepth 100000 in
set_option maxHeartbeats 3200000 in
theorem eqf_key (HS : Hid SameC) (A1 A2 : Option Addr) (c1 c2 : Nat) (k1 k2 : List Km) (w : World) (h1 : Seg w w.heap.size 16 eK A1 k1) (h2 : Seg w w.heap.size 16 eK A2 k2) (t1 : ∀ x ∈ k1, KOk w x) (t2 : ∀ x ∈ k2, KOk w x) (n1 : k1.length ≤ 1000000) :
    Calls Try.prog 43 #[.slice A1 k1.length c1, .slice A2 k2.length c2, .func (.func 44) #[] #[]] w fun e w' => e = .returned (.bool (decide (k1.map (·.k) = k2.map (·.k)))) ∧ Below w.heap.size w w' := by
  have H1 := Lib.hid h1
  have H2 := Lib.hid h2
  have T1 := Lib.hid t1
  have T2 := Lib.hid t2
  obtain ⟨R, hR⟩ : ∃ R, decide (k1.map (·.k) = k2.map (·.k)) = R := ⟨_, rfl⟩
  rw [hR]
  have HR := Lib.hid hR
  clear hR h1 h2 t1 t2
  by_cases hl : k1.length = k2.length
  · have tl : ((k1.length : Int) != (k2.length : Int)) = false := by simp [hl]
    have HL := Lib.hid hl
    clear hl
    go_enter Try.func43, Try.ntmps43
    go_upto_region 4 with (fail)
    go_loopw [17] (fun y WR => ∃ (i : Nat), i ≤ k1.length ∧ y = .int .i64 i ∧ Hid (∀ j, j < i → (k1.map (·.k))[j]? = (k2.map (·.k))[j]?) ∧ Hid (Below w.heap.size w WR)) (fun y _ => 2000000 - (intOf y).toNat)
    case atStart => exact ⟨0, by omega, rfl, fun j hj => by omega, Below.refl _ _⟩
    case round =>
      obtain ⟨i, hi', rfl, hpre, hB⟩ := hrel
      by_cases hlt : i < k1.length
      · have tn : decide ((i : Int) < (k1.length : Int)) = true := decide_eq_true (by omega)
        have hl2 : i < k2.length := by rw [← HL.out]; exact hlt
        obtain ⟨x, hx⟩ : ∃ x, k1[i]? = some x := ⟨_, List.getElem?_eq_getElem hlt⟩
        obtain ⟨y, hy⟩ : ∃ y, k2[i]? = some y := ⟨_, List.getElem?_eq_getElem hl2⟩
        obtain ⟨b0, o1, e1, hb1, hc1⟩ := segAt (H1.out.below hB.out) hx
        obtain ⟨b2, o2, e2, hb2, hc2⟩ := segAt (H2.out.below hB.out) hy
        have hrg : wr.rangeAt b0 (o1 + i * 16) (kL x) := fun j v hv => hc1 j v hv
        have hrg0 : wr.rangeAt b2 (o2 + i * 16) (kL y) := fun j v hv => hc2 j v hv
        have hix := fun W => idx_at (t := 25) (size := 16) (cap := c1) (len := k1.length) e1 hlt (by kernel_rfl) (fun W => by kernel_rfl) W
        have hiy := fun W => idx_at (t := 25) (size := 16) (cap := c2) (len := k2.length) e2 hl2 (by kernel_rfl) (fun W => by kernel_rfl) W
        have HX := Lib.hid hx
        have HY := Lib.hid hy
        have KX : Hid (KOk wr x) := (T1.out x (List.mem_of_getElem? hx)).then_ hB.out
        have KY : Hid (KOk wr y) := (T2.out y (List.mem_of_getElem? hy)).then_ hB.out
        clear hc1 hc2 hx hy e1 e2
        go_upto_region 6 with (refine wpList_elem4 47 el16 _ _ _ _ _ rfl rfl rfl rfl rfl rfl rfl rfl rfl rfl rfl rfl b0 _ rfl (kL x) rfl hrg (by simp [Value.oneCell']) (by decide) (by decide) (by decide) (by simp) (by simp) _ rfl ?_; simp only [Act.put, List.setIfInBounds_toArray, List.set_cons_succ, List.set_cons_zero])
        refine name_wp ?_
        intro Z hZ
        have gx0 : Blk Z wr.heap.size 47 (kA x) := by rw [hZ]; exact Blk.new _ _ _
        have hbZ : Below wr.heap.size wr Z := by rw [hZ]; exact wa1 _ _
        have hrg2 : Z.rangeAt b2 (o2 + i * 16) (kL y) := by rw [hZ]; exact World.rangeAt_alloc hrg0 _
        obtain ⟨bx, ex⟩ : ∃ b, wr.heap.size = b := ⟨_, rfl⟩
        rw [ex] at gx0 ⊢
        clear hZ hrg hrg0 hix
        go_upto_region 7 with (refine wpList_elem 47 el16 _ _ _ rfl rfl rfl rfl rfl rfl rfl rfl rfl b2 _ rfl (kL y) rfl hrg2 (by simp [Value.oneCell']) (by decide) (by simp) (by simp) ?_; simp only [Act.put, List.setIfInBounds_toArray, List.set_cons_succ, List.set_cons_zero])
        refine name_wp ?_
        intro Y hY
        have gx : Blk Y bx 47 (kA x) := by rw [hY]; exact gx0.alloc _
        have gy : Blk Y Z.heap.size 47 (kA y) := by rw [hY]; exact Blk.new _ _ _
        have hbY : Below wr.heap.size wr Y := by rw [hY]; exact below_alloc hbZ _
        obtain ⟨by_, ey⟩ : ∃ b, Z.heap.size = b := ⟨_, rfl⟩
        rw [ey] at gy ⊢
        clear hY hrg2 hiy gx0 ex ey
        have HC := Lib.hid (HS.out x y Y (KX.out.then_ hbY) (KY.out.then_ hbY))
        have HBY := Lib.hid (below_then hB.out hbY)
        clear hbY hbZ KX KY
        by_cases he : x.k = y.k
        · have hd : decide (x.k = y.k) = true := decide_eq_true he
          rw [hd] at HC
          have hp2 : Hid (∀ j, j < i + 1 → (k1.map (·.k))[j]? = (k2.map (·.k))[j]?) := by
            intro j hj
            by_cases q : j = i
            · rw [q, List.getElem?_map, List.getElem?_map, HX.out, HY.out]; simp [he]
            · exact hpre.out j (by omega)
          clear hd he hpre
          go_wp2_with (first | (refine wpList_row_w (by rfl) 47 _ rfl bx rfl 47 _ gx ⟨_, Try.underlying47⟩ (by kernel_rfl) ?_; simp only [Act.put, List.setIfInBounds_toArray, List.set_cons_succ, List.set_cons_zero]) | (refine wpList_row_w (by rfl) 47 _ rfl by_ rfl 47 _ gy ⟨_, Try.underlying47⟩ (by kernel_rfl) ?_; simp only [Act.put, List.setIfInBounds_toArray, List.set_cons_succ, List.set_cons_zero]) | (go_at_call 44; (with_reducible refine HC.out.mono ?_); rintro e w1 ⟨rfl, hb1⟩))
          go_roundw
          case rel => exact ⟨i + 1, by omega, by simp, hp2, below_then HBY.out hb1⟩
          case measure => simp [intOf]; omega
        · have hd : decide (x.k = y.k) = false := decide_eq_false he
          rw [hd] at HC
          have hf : Hid (R = false) := by
            unfold Hid
            rw [← HR.out]
            refine decide_eq_false fun h => he ?_
            have h3 := congrArg (fun l => l[i]?) h
            simp only [List.getElem?_map, HX.out, HY.out, Option.map_some, Option.some.injEq] at h3
            exact h3
          clear hd he hpre
          go_wp2_with (first | (refine wpList_row_w (by rfl) 47 _ rfl bx rfl 47 _ gx ⟨_, Try.underlying47⟩ (by kernel_rfl) ?_; simp only [Act.put, List.setIfInBounds_toArray, List.set_cons_succ, List.set_cons_zero]) | (refine wpList_row_w (by rfl) 47 _ rfl by_ rfl 47 _ gy ⟨_, Try.underlying47⟩ (by kernel_rfl) ?_; simp only [Act.put, List.setIfInBounds_toArray, List.set_cons_succ, List.set_cons_zero]) | (go_at_call 44; (with_reducible refine HC.out.mono ?_); rintro e w1 ⟨rfl, hb1⟩))
          go_ret
          exact ⟨ret_bool hf.out.symm, below_then HBY.out hb1⟩
      · have tn : decide ((i : Int) < (k1.length : Int)) = false := decide_eq_false (by omega)
        have hf : Hid (R = true) := by
          unfold Hid
          rw [← HR.out]
          refine decide_eq_true (List.ext_getElem? fun j => ?_)
          by_cases hj : j < i
          · exact hpre.out j hj
          · rw [List.getElem?_eq_none (by rw [List.length_map]; omega), List.getElem?_eq_none (by rw [List.length_map]; have := HL.out; omega)]
        go_wp2
        go_ret
        exact ⟨ret_bool hf.out.symm, hB.out⟩
  · have tl : ((k1.length : Int) != (k2.length : Int)) = true := by simp; omega
    have hf : Hid (R = false) := by
      unfold Hid
      rw [← HR.out]
      exact decide_eq_false fun h => hl (by have := congrArg List.length h; simpa using this)
    clear hl
    go_enter Try.func43, Try.ntmps43
    go_wp2
    go_ret
    exact ⟨ret_bool hf.out.symm, Below.refl _ _⟩
end Go.Proofs.Ytcplneglfbdooaa
/- merge.applied at one patch and at two, given in a list made at the call. -/
namespace Go.Proofs.Ytcplneglfbdooaa
open Go.RowKit

theorem blk_seg {α : Type} {w : World} {g : Nat} {T : TypeId} {size : Nat} {enc : α → List Value} {xs : List α} (he : ∀ x, (enc x).length = size) (h : Blk w g T (xs.flatMap enc).toArray) : Seg w w.heap.size size enc (some ⟨g, 0, none⟩) xs := fun k x hx => by
  refine ⟨g, 0, rfl, h.lt, fun j u hu => ?_⟩
  have hj : j < size := by rw [← he x]; exact (List.getElem?_eq_some_iff.1 hu).1
  rw [Nat.zero_add, h.cell, List.getElem?_toArray, getElem?_flatMap he xs k j x hx hj]
  exact hu
/-- what is known of applied's result -/
def ApR (c : Con) (m : Cm) (l : List Pat) (W : World) (e : Ending) (w' : World) : Prop :=
  (∃ m', e = .returned (.tuple #[.agg (coA (c.alC l) m'), .int .i64 (c.al l).1]) ∧ Cont w' (c.alC l) m' ∧ ∀ P : Nat → Prop, Off P c m → (∀ b, W.heap.size ≤ b → P b) → Off P (c.alC l) m') ∧ Below W.heap.size W w'
theorem applied2 (c : Con) (m : Cm) (p q : Pat) (pm qm : Pm) (W : World) (g : Nat) (h : Cont W c m) (hp : PatM W p pm) (hq : PatM W q qm) (hb : Blk W g 49 (eP ⟨p, pm⟩ ++ eP ⟨q, qm⟩).toArray) :
    Calls Try.prog 29 #[.agg (coA c m), .slice (some ⟨g, 0, none⟩) 2 2] W (ApR c m [p, q] W) :=
  applied_any c m [⟨p, pm⟩, ⟨q, qm⟩] (some ⟨g, 0, none⟩) 2 W h ⟨blk_seg eP_len hb, (fun x hx => by
    rcases List.mem_cons.1 hx with rfl | hx
    · exact hp
    · rcases List.mem_cons.1 hx with rfl | hx
      · exact hq
      · cases hx), (by simp)⟩
theorem applied1 (c : Con) (m : Cm) (p : Pat) (pm : Pm) (W : World) (g : Nat) (h : Cont W c m) (hp : PatM W p pm) (hb : Blk W g 49 (eP ⟨p, pm⟩).toArray) :
    Calls Try.prog 29 #[.agg (coA c m), .slice (some ⟨g, 0, none⟩) 1 1] W (ApR c m [p] W) :=
  applied_any c m [⟨p, pm⟩] (some ⟨g, 0, none⟩) 1 W h ⟨blk_seg eP_len (by simpa using hb), (fun x hx => by
    rcases List.mem_cons.1 hx with rfl | hx
    · exact hp
    · cases hx), (by simp)⟩
end Go.Proofs.Ytcplneglfbdooaa
