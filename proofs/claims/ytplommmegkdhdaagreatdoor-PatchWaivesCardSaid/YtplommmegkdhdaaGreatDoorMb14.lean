/- Contracts of functions and plain laws, joined: Kbj. -/
import Derived.Test.YtplommmegkdhdaaGreatDoorMb12
import Derived.Test.YtplommmegkdhdaaGreatDoorMb13
/- The walk of patch.Apply at every contract and patch in memory. -/
namespace Go.Proofs.YtplommmegkdhdaaGreatDoor
open Go.RowKit

/-- where the lists of a contract lie -/
def SegP {α : Type} (P : Nat → Prop) (A : Option Addr) (xs : List α) : Prop := 0 < xs.length → ∀ a, A = some a → P a.block
structure Off (P : Nat → Prop) (c : Con) (m : Cm) : Prop where
  h : SegP P m.h c.hold
  u : SegP P m.u c.un
  a : SegP P m.a c.ac
  k : SegP P m.k m.ks
  o : SegP P m.o c.off
  t : ∀ x ∈ m.ks, SegP P x.A x.k.start
theorem SegP.mono {α : Type} {P Q : Nat → Prop} {A : Option Addr} {xs : List α} (h : SegP P A xs) (hq : ∀ b, P b → Q b) : SegP Q A xs := fun h0 a ha => hq _ (h h0 a ha)
theorem Off.mono {P Q : Nat → Prop} {c : Con} {m : Cm} (h : Off P c m) (hq : ∀ b, P b → Q b) : Off Q c m := ⟨h.h.mono hq, h.u.mono hq, h.a.mono hq, h.k.mono hq, h.o.mono hq, fun x hx => (h.t x hx).mono hq⟩
theorem Seg.segP {α : Type} {w : World} {B size : Nat} {enc : α → List Value} {A : Option Addr} {xs : List α} (h : Seg w B size enc A xs) : SegP (· < B) A xs := fun h0 a ha => by
  obtain ⟨b, off, e, hb⟩ := h.some_ h0
  rw [e] at ha
  cases ha
  exact hb
theorem Seg.upd2 {α : Type} {w w' : World} {g B size : Nat} {enc : α → List Value} {A : Option Addr} {xs : List α} (h : Seg w B size enc A xs) (u : Upd w w' g) (hp : SegP (· ≠ g) A xs) : Seg w' B size enc A xs := fun k x hx => by
  obtain ⟨b, off, e, hb, hc⟩ := h k x hx
  exact ⟨b, off, e, hb, fun j v hv => (u.cell (hp (by have := (List.getElem?_eq_some_iff.1 hx).1; omega) _ e)).trans (hc j v hv)⟩
theorem Cont.off {w : World} {c : Con} {m : Cm} (h : Cont w c m) : Off (· < w.heap.size) c m := ⟨h.h.segP, h.u.segP, h.a.segP, h.k.segP, h.o.segP, fun x hx => (h.t x hx).s.segP⟩
theorem Cont.upd {w w' : World} {g : Nat} {c : Con} {m : Cm} (h : Cont w c m) (u : Upd w w' g) (ho : Off (· ≠ g) c m) : Cont w' c m :=
  ⟨by rw [u.s]; exact h.h.upd2 u ho.h, by rw [u.s]; exact h.u.upd2 u ho.u, by rw [u.s]; exact h.a.upd2 u ho.a, by rw [u.s]; exact h.k.upd2 u ho.k, by rw [u.s]; exact h.o.upd2 u ho.o, h.e, fun x hx => ⟨by rw [u.s]; exact (h.t x hx).s.upd2 u (ho.t x hx), (h.t x hx).v, (h.t x hx).n, (h.t x hx).c⟩, h.bu, h.ba, h.nh, h.nu, h.na, h.nk, h.no, h.ch, h.cu, h.ca, h.ck, h.co⟩
theorem off_zero (P : Nat → Prop) : Off P Con.zero mZ := ⟨fun h => (by cases h), fun h => (by cases h), fun h => (by cases h), fun h => (by cases h), fun h => (by cases h), fun x hx => (by cases hx)⟩
theorem own_segP {α : Type} {w : World} {B : Nat} {T : TypeId} {size : Nat} {enc : α → List Value} {A : Option Addr} {n c : Nat} {xs : List α} (h : Own w B T size enc (.slice A n c) xs) {D : Nat} (hD : D ≤ B) : SegP (D ≤ ·) A xs := fun _ a ha => Nat.le_trans hD (own_ge h a ha)
theorem apC_no {c : Con} {p : Pat} {e : Int} (h : c.apE p = e) (he : e ≠ 0) : Hid (c.apE p = e ∧ c.apC p = Con.zero) := ⟨h, by unfold Con.apC; rw [if_neg (by rw [h]; exact he)]⟩
theorem Lsr.upd {w w' : World} {B g : Nat} {v : Value} {ks : List Km} (h : Lsr w B v ks) (U : Upd w w' g) (hg : g < B) : Lsr w' B v ks :=
  ⟨h.own.upd U (own_ne h.own hg), fun x hx => ⟨by rw [U.s]; exact (h.t x hx).s.upd U (fun a ha => by have := h.f x hx a ha; omega), (h.t x hx).v, (h.t x hx).n, (h.t x hx).c⟩, h.f⟩
theorem Lst.el {w w' : World} {B g n cap i : Nat} {ks : List Km} {y : Km} (h : Lst w B (.slice (some ⟨g, 0, none⟩) n cap) ks) (hO : Own w' B 32 16 eK (.slice (some ⟨g, 0, none⟩) n cap) (ks.set i y)) (U : Upd w w' g) (hy : KOk w y) (hf : ∀ a, y.A = some a → B ≤ a.block ∧ a.block ≠ g) : Lst w' B (.slice (some ⟨g, 0, none⟩) n cap) (ks.set i y) := by
  refine ⟨hO, mem_set (fun x hx => ?_) i ?_, mem_set h.f i (fun a ha => ⟨(hf a ha).1, fun e => (hf a ha).2 (Option.some.inj e).symm⟩)⟩
  · have h1 := h.t x hx
    exact ⟨by rw [U.s]; exact h1.s.upd U (fun a ha e => (h.f x hx a ha).2 (by rw [e]; rfl)), h1.v, h1.n, h1.c⟩
  · exact ⟨by rw [U.s]; exact hy.s.upd U (fun a ha => (hf a ha).2), hy.v, hy.n, hy.c⟩
def kzero : Km := ⟨⟨0, 0, 0, 0, [], 0, 0, false, false, 0, 0, (0, 0), 0, 0, false⟩, none, 0⟩
theorem kzero_ok (w : World) : KOk w kzero := ⟨Seg.nil _ _ _ _ _, by decide, by decide, Nat.le_refl _⟩
theorem wrap_small {n : Nat} (h : n ≤ 1000000) : IntKind.i64.wrap ((n : Int) + 1) = (n : Int) + 1 := by
  rw [IntKind.wrap_i64]; omega
set_option maxRecDepth 100000 in
set_option maxHeartbeats 6400000 in
theorem apply_any (c : Con) (m : Cm) (p : Pat) (pm : Pm) (w : World) (h : Cont w c m) (hp : PatM w p pm) :
    Calls Tryz.prog 12 #[.agg (coA c m), .agg (pL p pm)] w fun e w' => (∃ m', e = .returned (.tuple #[.agg (coA (c.apC p) m'), .int .i64 (c.apE p)]) ∧ Cont w' (c.apC p) m' ∧ Off (w.heap.size ≤ ·) (c.apC p) m') ∧ Below w.heap.size w w' := by
  have HV := Lib.hid (fun W (hb : Below w.heap.size w W) => valid_c c m W (h.then_ hb))
  have HF := Lib.hid (fun f0 W (hb : Below w.heap.size w W) => fits_any c m p pm f0 W (hp.then_ hb))
  obtain ⟨el, em, er, es, ef, hlk, hek, ef1⟩ := look_any p.kind
  have nk := h.nk
  have HC := Lib.hid h
  have HP := Lib.hid hp
  have HEK := Lib.hid hek
  clear h hp hek
  go_enter Tryz.func12, Tryz.ntmps12
  go_upto_region 1 with (fail)
  refine name_wp ?_
  intro X hX
  have gbc : Blk X w.heap.size 27 (coA c m) := by rw [hX]; exact ((blk_at (by simp)).alloc _).alloc _
  have gbp : Blk X (w.heap.size + 1) 34 (pL p pm) := by rw [hX]; exact (blk_at (by simp)).alloc _
  have gbr : Blk X (w.heap.size + 2) 27 (coZ) := by rw [hX]; exact blk_at (by simp)
  have HB : Below w.heap.size w X := by rw [hX]; (repeat (first | with_reducible assumption | with_reducible exact Below.refl _ _ | with_reducible refine below_drewN ?_ _ | with_reducible refine Below.drew ?_ | with_reducible refine below_alloc ?_ _ | with_reducible refine Below.setCell ?_ (by first | omega | (simp; done) | (simp; omega)) _ | with_reducible refine below_then ?_ (by with_reducible assumption) | (refine below_then (a := World.drew _) ?_ (by with_reducible assumption))))
  clear hX
  obtain ⟨br, ebr⟩ : ∃ b, w.heap.size + 2 = b := ⟨_, rfl⟩
  obtain ⟨bp, ebp⟩ : ∃ b, w.heap.size + 1 = b := ⟨_, rfl⟩
  obtain ⟨bc, ebc⟩ : ∃ b, w.heap.size = b := ⟨_, rfl⟩
  have lbc : w.heap.size ≤ bc := by omega
  have lbp : w.heap.size ≤ bp := by omega
  have lbr : w.heap.size ≤ br := by omega
  have nbcbp : bc ≠ bp := by omega
  have nbcbr : bc ≠ br := by omega
  have nbpbr : bp ≠ br := by omega
  rw [ebr] at gbr ⊢
  rw [ebp] at gbp ⊢
  rw [ebc] at gbc ⊢
  clear ebc ebp ebr
  go_upto_region 2 with (first | (refine wpList_row_w (by rfl) 27 _ rfl bc rfl 27 _ gbc ⟨_, Tryz.underlying27⟩ (by kernel_rfl) ?_; simp only [Act.put, List.setIfInBounds_toArray, List.set_cons_succ, List.set_cons_zero]) | (go_at_call 21; (with_reducible refine (HV.out _ HB).mono ?_); rintro e w1 ⟨⟨a1, a2, rfl, hok⟩, hbw1⟩))
  have HB1 := below_then HB hbw1
  have gc1 := gbc.then_ hbw1
  have gp1 := gbp.then_ hbw1
  have gr1 := gbr.then_ hbw1
  have lr1 := gr1.lt
  clear gbc gbp gbr
  cases hcok : c.ok with
  | false =>
    have t0 : (a1 != 0) = true := by
      rw [bne_iff_ne]
      intro e
      rw [hok.1 e] at hcok
      cases hcok
    have hE := apC_no (c := c) (p := p) (e := 1) (by unfold Con.apE; rw [hcok]; rfl) (by decide)
    clear hok
    go_wp2_with (refine wpList_store_all rfl 27 _ _ rfl br 27 [] coZ.toList [] coZ.toList rfl rfl gr1 rfl (by kernel_rfl) (by simp [Value.oneCell']) ?_; intro we ge ue)
    refine bodyPost_ret (ret_row2 rfl rfl ge ⟨_, Tryz.underlying27⟩ (by kernel_rfl)) rfl ?_
    exact ⟨⟨mZ, by rw [hE.out.1, hE.out.2]; rfl, by rw [hE.out.2]; exact cont_zero _, by rw [hE.out.2]; exact off_zero _⟩, (HB1).trans (ue.b _ (by omega))⟩
  | true =>
  have t0 : (a1 != 0) = false := by rw [hok.2 hcok]; rfl
  have HOK := Lib.hid hcok
  clear hok hcok
  go_upto_region 4 with (fail)
  have hz1 := Below.refl w1.heap.size w1
  go_cut [8, 9] from 23 to 29 (fun v8 v9 W => ∃ be, v8 = .pointer (some ⟨be, 0, none⟩) ∧ v9 = .bool (known p.kind) ∧ w1.heap.size ≤ be ∧ Blk W be 62 #[.int .i64 el, .int .i64 em, .bool er, .bool es, ef] ∧ Below w1.heap.size w1 W)
  case first =>
    have h5 : ∀ v ∈ [.int .i64 el, .int .i64 em, .bool er, .bool es, ef], v.oneCell' = true := by intro v hv; simp only [List.mem_cons, List.not_mem_nil, or_false] at hv; rcases hv with rfl | rfl | rfl | rfl | rfl <;> first | rfl | exact ef1
    have gz : ∀ W : World, Blk (W.alloc (.cells #[.int .i64 0, .int .i64 0, .bool false, .bool false, .nilFunc] 62)) W.heap.size 62 #[.int .i64 0, .int .i64 0, .bool false, .bool false, .nilFunc] := fun W => Blk.new W _ _
    refine wp_region_hb (fun w' => Below w1.heap.size w1 w') [0, 1, 2, 3, 4, 5, 6, 7, 8] [9] (by kernel_rfl) (by kernel_rfl) (by repeat (first | with_reducible refine panOk_then ?_ | with_reducible refine panOk_block ?_ | exact panOk_body)) (Below.drew (Below.refl _ _)) (fun hdir hsel hpan hHeld => ?_)
    refine wpHB_take (i := 1) (oi := ⟨some 25, _, _, _, _, _⟩) hdir hsel hpan rfl (by kernel_rfl) (by kernel_rfl) (by kernel_rfl) (Or.inl ⟨by rfl, fun _ _ => by rfl⟩) (by assumption) ?_
    try simp only [Act.put, List.setIfInBounds_toArray, List.set_cons_zero, List.set_cons_succ]
    refine wpHB_take (i := 2) (oi := ⟨some 26, _, _, _, _, _⟩) (v := .int .i64 p.kind) hdir hsel hpan rfl (by kernel_rfl) (by kernel_rfl) (by kernel_rfl) (Or.inl ⟨by rfl, fun w hw => by have hc := (gp1.then_ hw).cell 0; go_simp⟩) (by assumption) ?_
    try simp only [Act.put, List.setIfInBounds_toArray, List.set_cons_zero, List.set_cons_succ]
    refine wpHB_ready (rs := [0, 7]) (by kernel_rfl) (by simp) ?_
    refine AllHB.cons (by kernel_rfl) (o := ⟨some 24, _, _, _, _, _⟩) rfl (fun K hK => ?_) ?_
    · go_simp
      (go_at_call 22; (with_reducible refine (effects_any _).mono ?_); rintro e w3 ⟨r, rfl, hm3, hb3⟩)
      refine hK.out _ _ (below_then hHeld hb3) (fun hHeld2 => ?_)
      clear hK K hHeld
      have hHeld := hHeld2
      clear hHeld2
      try simp only [Act.put, List.setIfInBounds_toArray, List.set_cons_zero, List.set_cons_succ]
      refine wpHB_ready (rs := [3, 7]) (by kernel_rfl) (by simp) ?_
      refine AllHB.cons (by kernel_rfl) (o := ⟨some 27, _, _, _, _, _⟩) rfl (fun K hK => ?_) ?_
      · have hm4 := hlk w3 r hm3
        have hm5 := fun o => hlk (w3.alloc o) r ((Below.heap_alloc _ o _ (Array.getElem?_eq_some_iff.1 hm3).1).trans hm3)
        go_simp
        clear hm4 hm5
        refine hK.out _ _ hHeld (fun hHeld2 => ?_)
        clear hK K hHeld
        have hHeld := hHeld2
        clear hHeld2
        try simp only [Act.put, List.setIfInBounds_toArray, List.set_cons_zero, List.set_cons_succ]
        refine wpHB_take (i := 4) (oi := ⟨some 23, _, _, _, _, _⟩) hdir hsel hpan rfl (by kernel_rfl) (by kernel_rfl) (by kernel_rfl) (Or.inl ⟨by rfl, fun _ _ => by rfl⟩) (by assumption) ?_
        try simp only [Act.put, List.setIfInBounds_toArray, List.set_cons_zero, List.set_cons_succ]
        refine wpHB_take (i := 5) (oi := ⟨some 28, _, _, _, _, _⟩) hdir hsel hpan rfl (by kernel_rfl) (by kernel_rfl) (by kernel_rfl) (Or.inl ⟨by rfl, fun _ _ => by rfl⟩) (by assumption) ?_
        try simp only [Act.put, List.setIfInBounds_toArray, List.set_cons_zero, List.set_cons_succ]
        refine wpHB_take (i := 6) (oi := ⟨some 29, _, _, _, _, _⟩) hdir hsel hpan rfl (by kernel_rfl) (by kernel_rfl) (by kernel_rfl) (Or.inl ⟨by rfl, fun _ _ => by rfl⟩) (by assumption) ?_
        try simp only [Act.put, List.setIfInBounds_toArray, List.set_cons_zero, List.set_cons_succ]
        refine wpHB_ready (rs := [7]) (by kernel_rfl) (by simp) ?_
        refine AllHB.cons (by kernel_rfl) (o := ⟨some 8, _, _, _, _, _⟩) rfl (fun K hK => ?_) AllHB.nil
        go_simp
        refine hK.out _ _ (below_alloc hHeld _) (fun hHeld2 => ?_)
        clear hK K hHeld
        have hHeld := hHeld2
        clear hHeld2
        try simp only [Act.put, List.setIfInBounds_toArray, List.set_cons_zero, List.set_cons_succ]
        refine wpHB_ready (rs := [8]) (by kernel_rfl) (by simp) ?_
        refine AllHB.cons (by kernel_rfl) (o := ⟨none, _, _, _, _, _⟩) rfl (fun K hK => ?_) AllHB.nil
        rw [if_pos (by rfl)]
        refine wp_store_all 62 _ _ rfl _ 62 [] [.int .i64 0, .int .i64 0, .bool false, .bool false, .nilFunc] [] [.int .i64 el, .int .i64 em, .bool er, .bool es, ef] rfl rfl (by first | exact gz _ | exact (gz _).then_ hb3 | exact (gz _).drew.then_ hb3) rfl (by kernel_rfl) h5 ?_
        intro w5 ge5 u5
        have lbe : w1.heap.size ≤ _ := (show w1.heap.size ≤ _ from by first | exact hb3.size | exact Nat.le_refl _)
        refine hK.out _ _ (hHeld.trans (u5.b _ lbe)) (fun hHeld2 => ?_)
        clear hK K hHeld
        have hHeld := hHeld2
        clear hHeld2
        try simp only [Act.put]
        refine wpHB_tail (by kernel_rfl) (by kernel_rfl) ?_
        clear hdir hsel hpan
        simp only [opsAt, List.getElem?_toArray, List.getElem?_cons_succ, List.getElem?_cons_zero, Option.toList_some, List.cons_append, List.nil_append]
        go_wp2
        go_meet
        case rel => exact ⟨_, rfl, rfl, lbe, ge5, hHeld⟩
      refine AllHB.cons (by kernel_rfl) (o := ⟨some 8, _, _, _, _, _⟩) rfl (fun K hK => ?_) ?_
      · go_simp
        refine hK.out _ _ (below_alloc hHeld _) (fun hHeld2 => ?_)
        clear hK K hHeld
        have hHeld := hHeld2
        clear hHeld2
        try simp only [Act.put, List.setIfInBounds_toArray, List.set_cons_zero, List.set_cons_succ]
        refine wpHB_ready (rs := [3]) (by kernel_rfl) (by simp) ?_
        refine AllHB.cons (by kernel_rfl) (o := ⟨some 27, _, _, _, _, _⟩) rfl (fun K hK => ?_) AllHB.nil
        have hm4 := hlk w3 r hm3
        have hm5 := fun o => hlk (w3.alloc o) r ((Below.heap_alloc _ o _ (Array.getElem?_eq_some_iff.1 hm3).1).trans hm3)
        go_simp
        clear hm4 hm5
        refine hK.out _ _ hHeld (fun hHeld2 => ?_)
        clear hK K hHeld
        have hHeld := hHeld2
        clear hHeld2
        try simp only [Act.put, List.setIfInBounds_toArray, List.set_cons_zero, List.set_cons_succ]
        refine wpHB_take (i := 4) (oi := ⟨some 23, _, _, _, _, _⟩) hdir hsel hpan rfl (by kernel_rfl) (by kernel_rfl) (by kernel_rfl) (Or.inl ⟨by rfl, fun _ _ => by rfl⟩) (by assumption) ?_
        try simp only [Act.put, List.setIfInBounds_toArray, List.set_cons_zero, List.set_cons_succ]
        refine wpHB_take (i := 5) (oi := ⟨some 28, _, _, _, _, _⟩) hdir hsel hpan rfl (by kernel_rfl) (by kernel_rfl) (by kernel_rfl) (Or.inl ⟨by rfl, fun _ _ => by rfl⟩) (by assumption) ?_
        try simp only [Act.put, List.setIfInBounds_toArray, List.set_cons_zero, List.set_cons_succ]
        refine wpHB_take (i := 6) (oi := ⟨some 29, _, _, _, _, _⟩) hdir hsel hpan rfl (by kernel_rfl) (by kernel_rfl) (by kernel_rfl) (Or.inl ⟨by rfl, fun _ _ => by rfl⟩) (by assumption) ?_
        try simp only [Act.put, List.setIfInBounds_toArray, List.set_cons_zero, List.set_cons_succ]
        refine wpHB_ready (rs := [8]) (by kernel_rfl) (by simp) ?_
        refine AllHB.cons (by kernel_rfl) (o := ⟨none, _, _, _, _, _⟩) rfl (fun K hK => ?_) AllHB.nil
        rw [if_pos (by rfl)]
        refine wp_store_all 62 _ _ rfl _ 62 [] [.int .i64 0, .int .i64 0, .bool false, .bool false, .nilFunc] [] [.int .i64 el, .int .i64 em, .bool er, .bool es, ef] rfl rfl (by first | exact gz _ | exact (gz _).then_ hb3 | exact (gz _).drew.then_ hb3) rfl (by kernel_rfl) h5 ?_
        intro w5 ge5 u5
        have lbe : w1.heap.size ≤ _ := (show w1.heap.size ≤ _ from by first | exact hb3.size | exact Nat.le_refl _)
        refine hK.out _ _ (hHeld.trans (u5.b _ lbe)) (fun hHeld2 => ?_)
        clear hK K hHeld
        have hHeld := hHeld2
        clear hHeld2
        try simp only [Act.put]
        refine wpHB_tail (by kernel_rfl) (by kernel_rfl) ?_
        clear hdir hsel hpan
        simp only [opsAt, List.getElem?_toArray, List.getElem?_cons_succ, List.getElem?_cons_zero, Option.toList_some, List.cons_append, List.nil_append]
        go_wp2
        go_meet
        case rel => exact ⟨_, rfl, rfl, lbe, ge5, hHeld⟩
      exact AllHB.nil
    refine AllHB.cons (by kernel_rfl) (o := ⟨some 8, _, _, _, _, _⟩) rfl (fun K hK => ?_) ?_
    · go_simp
      refine hK.out _ _ (below_alloc hHeld _) (fun hHeld2 => ?_)
      clear hK K hHeld
      have hHeld := hHeld2
      clear hHeld2
      try simp only [Act.put, List.setIfInBounds_toArray, List.set_cons_zero, List.set_cons_succ]
      refine wpHB_ready (rs := [0]) (by kernel_rfl) (by simp) ?_
      refine AllHB.cons (by kernel_rfl) (o := ⟨some 24, _, _, _, _, _⟩) rfl (fun K hK => ?_) AllHB.nil
      go_simp
      (go_at_call 22; (with_reducible refine (effects_any _).mono ?_); rintro e w3 ⟨r, rfl, hm3, hb3⟩)
      refine hK.out _ _ (below_then hHeld hb3) (fun hHeld2 => ?_)
      clear hK K hHeld
      have hHeld := hHeld2
      clear hHeld2
      try simp only [Act.put, List.setIfInBounds_toArray, List.set_cons_zero, List.set_cons_succ]
      refine wpHB_ready (rs := [3]) (by kernel_rfl) (by simp) ?_
      refine AllHB.cons (by kernel_rfl) (o := ⟨some 27, _, _, _, _, _⟩) rfl (fun K hK => ?_) AllHB.nil
      have hm4 := hlk w3 r hm3
      have hm5 := fun o => hlk (w3.alloc o) r ((Below.heap_alloc _ o _ (Array.getElem?_eq_some_iff.1 hm3).1).trans hm3)
      go_simp
      clear hm4 hm5
      refine hK.out _ _ hHeld (fun hHeld2 => ?_)
      clear hK K hHeld
      have hHeld := hHeld2
      clear hHeld2
      try simp only [Act.put, List.setIfInBounds_toArray, List.set_cons_zero, List.set_cons_succ]
      refine wpHB_take (i := 4) (oi := ⟨some 23, _, _, _, _, _⟩) hdir hsel hpan rfl (by kernel_rfl) (by kernel_rfl) (by kernel_rfl) (Or.inl ⟨by rfl, fun _ _ => by rfl⟩) (by assumption) ?_
      try simp only [Act.put, List.setIfInBounds_toArray, List.set_cons_zero, List.set_cons_succ]
      refine wpHB_take (i := 5) (oi := ⟨some 28, _, _, _, _, _⟩) hdir hsel hpan rfl (by kernel_rfl) (by kernel_rfl) (by kernel_rfl) (Or.inl ⟨by rfl, fun _ _ => by rfl⟩) (by assumption) ?_
      try simp only [Act.put, List.setIfInBounds_toArray, List.set_cons_zero, List.set_cons_succ]
      refine wpHB_take (i := 6) (oi := ⟨some 29, _, _, _, _, _⟩) hdir hsel hpan rfl (by kernel_rfl) (by kernel_rfl) (by kernel_rfl) (Or.inl ⟨by rfl, fun _ _ => by rfl⟩) (by assumption) ?_
      try simp only [Act.put, List.setIfInBounds_toArray, List.set_cons_zero, List.set_cons_succ]
      refine wpHB_ready (rs := [8]) (by kernel_rfl) (by simp) ?_
      refine AllHB.cons (by kernel_rfl) (o := ⟨none, _, _, _, _, _⟩) rfl (fun K hK => ?_) AllHB.nil
      rw [if_pos (by rfl)]
      refine wp_store_all 62 _ _ rfl _ 62 [] [.int .i64 0, .int .i64 0, .bool false, .bool false, .nilFunc] [] [.int .i64 el, .int .i64 em, .bool er, .bool es, ef] rfl rfl (by first | exact gz _ | exact (gz _).then_ hb3 | exact (gz _).drew.then_ hb3) rfl (by kernel_rfl) h5 ?_
      intro w5 ge5 u5
      have lbe : w1.heap.size ≤ _ := (show w1.heap.size ≤ _ from by first | exact hb3.size | exact Nat.le_refl _)
      refine hK.out _ _ (hHeld.trans (u5.b _ lbe)) (fun hHeld2 => ?_)
      clear hK K hHeld
      have hHeld := hHeld2
      clear hHeld2
      try simp only [Act.put]
      refine wpHB_tail (by kernel_rfl) (by kernel_rfl) ?_
      clear hdir hsel hpan
      simp only [opsAt, List.getElem?_toArray, List.getElem?_cons_succ, List.getElem?_cons_zero, Option.toList_some, List.cons_append, List.nil_append]
      go_wp2
      go_meet
      case rel => exact ⟨_, rfl, rfl, lbe, ge5, hHeld⟩
    exact AllHB.nil
  obtain ⟨be, rfl, rfl, lbe, ge2, hb2⟩ := hcut
  have gc2 := gc1.then_ hb2
  have gp2 := gp1.then_ hb2
  have gr2 := gr1.then_ hb2
  have HB2 := below_then HB1 hb2
  have l2 := hb2.size
  have lr2 := gr2.lt
  have le2 := ge2.lt
  clear gc1 gp1 gr1 hlk
  obtain ⟨w2, ew2⟩ : ∃ x, wc = x := ⟨_, rfl⟩
  rw [ew2] at gc2 gp2 gr2 ge2 hb2 HB2 l2 lr2 le2 ⊢
  clear ew2
  cases hkn : known p.kind with
  | false =>
    have hE := apC_no (c := c) (p := p) (e := 1) (by unfold Con.apE; rw [hkn, Bool.and_false]; rfl) (by decide)
    go_wp2_with (refine wpList_store_all rfl 27 _ _ rfl br 27 [] coZ.toList [] coZ.toList rfl rfl gr2 rfl (by kernel_rfl) (by simp [Value.oneCell']) ?_; intro we ge ue)
    refine bodyPost_ret (ret_row2 rfl rfl ge ⟨_, Tryz.underlying27⟩ (by kernel_rfl)) rfl ?_
    exact ⟨⟨mZ, by rw [hE.out.1, hE.out.2]; rfl, by rw [hE.out.2]; exact cont_zero _, by rw [hE.out.2]; exact off_zero _⟩, (HB2).trans (ue.b _ (by omega))⟩
  | true =>
  obtain ⟨rfl, rfl, rfl, rfl, rfl⟩ := HEK.out hkn
  have HKN := Lib.hid hkn
  clear HEK ef1
  have p0 : w2.cell? ⟨bp, 0, none⟩ = some (.int .i64 p.kind) := gp2.cell 0
  have p4 : w2.cell? ⟨bc, 4, none⟩ = some (.slice m.k c.cl.length m.kc) := gc2.cell 4
  cases hfi : p.fits c.cl.length with
  | false =>
    rw [hfi] at HF
    have hE := apC_no (c := c) (p := p) (e := 1) (by unfold Con.apE; rw [hfi, Bool.and_false]; rfl) (by decide)
    clear hkn
    go_upto_region 6 with (first | (refine wpList_row_w (by rfl) 27 _ rfl bc rfl 27 _ gc2 ⟨_, Tryz.underlying27⟩ (by kernel_rfl) ?_; simp only [Act.put, List.setIfInBounds_toArray, List.set_cons_succ, List.set_cons_zero]) | (refine wpList_row_w (by rfl) 34 _ rfl bp rfl 34 _ gp2 ⟨_, Tryz.underlying34⟩ (by kernel_rfl) ?_; simp only [Act.put, List.setIfInBounds_toArray, List.set_cons_succ, List.set_cons_zero]) | (refine wpList_row_w (by rfl) 62 _ rfl be rfl 62 _ ge2 ⟨_, Tryz.underlying62⟩ (by kernel_rfl) ?_; simp only [Act.put, List.setIfInBounds_toArray, List.set_cons_succ, List.set_cons_zero]) | (go_at_call 23; (with_reducible refine (HF.out _ _ HB2).mono ?_); rintro e w3 ⟨rfl, hbw3⟩))
    have HB3 := below_then HB2 hbw3
    have gr3 := gr2.then_ hbw3
    go_wp2_with (refine wpList_store_all rfl 27 _ _ rfl br 27 [] coZ.toList [] coZ.toList rfl rfl gr3 rfl (by kernel_rfl) (by simp [Value.oneCell']) ?_; intro we ge ue)
    refine bodyPost_ret (ret_row2 rfl rfl ge ⟨_, Tryz.underlying27⟩ (by kernel_rfl)) rfl ?_
    exact ⟨⟨mZ, by rw [hE.out.1, hE.out.2]; rfl, by rw [hE.out.2]; exact cont_zero _, by rw [hE.out.2]; exact off_zero _⟩, (HB3).trans (ue.b _ (by omega))⟩
  | true =>
  rw [hfi] at HF
  have HFI := Lib.hid hfi
  clear hkn hfi
  go_upto_region 7 with (first | (refine wpList_row_w (by rfl) 27 _ rfl bc rfl 27 _ gc2 ⟨_, Tryz.underlying27⟩ (by kernel_rfl) ?_; simp only [Act.put, List.setIfInBounds_toArray, List.set_cons_succ, List.set_cons_zero]) | (refine wpList_row_w (by rfl) 34 _ rfl bp rfl 34 _ gp2 ⟨_, Tryz.underlying34⟩ (by kernel_rfl) ?_; simp only [Act.put, List.setIfInBounds_toArray, List.set_cons_succ, List.set_cons_zero]) | (refine wpList_row_w (by rfl) 62 _ rfl be rfl 62 _ ge2 ⟨_, Tryz.underlying62⟩ (by kernel_rfl) ?_; simp only [Act.put, List.setIfInBounds_toArray, List.set_cons_succ, List.set_cons_zero]) | (go_at_call 23; (with_reducible refine (HF.out _ _ HB2).mono ?_); rintro e w3 ⟨rfl, hbw3⟩))
  have HB3 := below_then HB2 hbw3
  have gr3 := gr2.then_ hbw3
  have gc3 := gc2.then_ hbw3
  have gp3 := gp2.then_ hbw3
  have ge3 := ge2.then_ hbw3
  have lr3 := gr3.lt
  have le3 := ge3.lt
  clear gr2 gc2 gp2 ge2 p0 p4
  have p0 : w3.cell? ⟨bp, 0, none⟩ = some (.int .i64 p.kind) := gp3.cell 0
  have p4 : w3.cell? ⟨bc, 4, none⟩ = some (.slice m.k c.cl.length m.kc) := gc3.cell 4
  have hApp := HOK.out
  by_cases hlim : p.kind = 1 ∧ c.cl.length = 400
  · have hE := apC_no (c := c) (p := p) (e := 3) (by unfold Con.apE; rw [HOK.out, HKN.out, HFI.out, if_pos (show (true && true && true) = true from rfl), if_pos (by simp [hlim])]) (by decide)
    have t1 : (p.kind == 1) = true := by simp [hlim]
    have t2 : (((c.cl.length : Nat) : Int) == 400) = true := by simp [hlim]
    clear hApp hlim
    go_wp2_with (refine wpList_store_all rfl 27 _ _ rfl br 27 [] coZ.toList [] coZ.toList rfl rfl gr3 rfl (by kernel_rfl) (by simp [Value.oneCell']) ?_; intro we ge ue)
    refine bodyPost_ret (ret_row2 rfl rfl ge ⟨_, Tryz.underlying27⟩ (by kernel_rfl)) rfl ?_
    exact ⟨⟨mZ, by rw [hE.out.1, hE.out.2]; rfl, by rw [hE.out.2]; exact cont_zero _, by rw [hE.out.2]; exact off_zero _⟩, (HB3).trans (ue.b _ (by omega))⟩
  have hE0 : Hid (c.apE p = if (c.wc (p.do_ c.cl)).ok then 0 else 1) := by
    unfold Hid Con.apE
    rw [HOK.out, HKN.out, HFI.out, if_pos (show (true && true && true) = true from rfl), if_neg (by simpa using hlim)]
  clear hApp
  go_cut [48] from 40 to 47 (fun v W => v = .bool false ∧ w3 = W)
  case first =>
    by_cases k1 : p.kind = 1
    · have t1 : (p.kind == 1) = true := by simp [k1]
      have t2 : (((c.cl.length : Nat) : Int) == 400) = false := by simp; omega
      clear k1 hlim
      go_wp2
      go_meet
      case rel => exact ⟨rfl, rfl⟩
    · have t1 : (p.kind == 1) = false := by simp [k1]
      clear k1 hlim
      go_wp2
      go_meet
      case rel => exact ⟨rfl, rfl⟩
  obtain ⟨rfl, rfl⟩ := hcut
  have hwr := wrap_small nk
  have hix0 := HC.out.k
  have hlk : m.ks.length = c.cl.length := by have := congrArg List.length HC.out.e; simpa using this
  obtain ⟨ri, hi, hz0, hz1, hz2⟩ := info_parts zero_cla
  go_upto_region 10 with (refine wpList_make_room _ rfl _ _ 25 rfl w3.heap.size 32 ri _ 16 136 Tryz.underlying25 hi hz0 hz1 hz2 (by omega) (by omega) eK eK_len kzero rfl c.cl.length 1 _ _ rfl rfl rfl (by simp) (by omega) (Nat.le_refl _) ?_; intro w4 hO4 hb4 ls4)
  have gc4 := gc3.then_ hb4
  have gp4 := gp3.then_ hb4
  have gr4 := gr3.then_ hb4
  have ge4 := ge3.then_ hb4
  have gc5 := Lib.hid gc3
  have gp5 := Lib.hid gp3
  have gr5 := Lib.hid gr3
  have ge5 := Lib.hid ge3
  have lc3 := gc3.lt
  have lp3 := gp3.lt
  have HB3' := Lib.hid HB3
  have p4' : w4.cell? ⟨bc, 4, none⟩ = some (.slice m.k c.cl.length m.kc) := gc4.cell 4
  obtain ⟨B, eB⟩ : ∃ b, w3.heap.size = b := ⟨_, rfl⟩
  rw [eB] at hO4 hb4 lr3 le3 lc3 lp3 ls4 ⊢
  have lB : w.heap.size ≤ B := by rw [← eB]; exact HB3.size
  clear eB gc3 gp3 gr3 ge3 p0 p4 gc4 gp4 gr4 ge4 hi hz0 hz1 hz2 hlim HB3
  have hL4 : Hid (Lst w4 B (.slice (some ⟨B, 0, none⟩) c.cl.length (c.cl.length + 1)) (List.replicate c.cl.length kzero)) := ⟨hO4, fun x hx => by rw [List.eq_of_mem_replicate hx]; exact kzero_ok _, fun x hx a ha => by rw [List.eq_of_mem_replicate hx] at ha; cases ha⟩
  have HB4 : Hid (Below B w3 w4) := hb4
  clear hO4 hb4
  go_upto_region 11 with (fail)
  clear p4'
  go_loopw [61] (fun y WR => ∃ (i : Nat) (ks' : List Km), i ≤ c.cl.length ∧ y = .int .i64 i ∧ ks'.length = c.cl.length ∧ Hid (Lst WR B (.slice (some ⟨B, 0, none⟩) c.cl.length (c.cl.length + 1)) ks') ∧ Hid (∀ j, j < i → (ks'[j]?).map (·.k) = c.cl[j]?) ∧ Hid (Below B w3 WR)) (fun y _ => 2000000 - (intOf y).toNat)
  case atStart => exact ⟨0, _, by omega, rfl, List.length_replicate, hL4, fun j hj => by omega, HB4⟩
  case round =>
    obtain ⟨i, ks', hi', rfl, hl', hL, hK, hB⟩ := hrel
    by_cases hlt : i < c.cl.length
    · have tn : decide ((i : Int) < (c.cl.length : Int)) = true := decide_eq_true (by omega)
      obtain ⟨x, hx⟩ : ∃ x, m.ks[i]? = some x := ⟨_, List.getElem?_eq_getElem (by omega)⟩
      have hHB : Below w.heap.size w wr := HB3'.out.trans (hB.out.mono lB)
      obtain ⟨b0, o0, eA0, hb0, hc0⟩ := segAt (hix0.below hHB) hx
      have hrg : wr.rangeAt b0 (o0 + i * 16) (kL x) := fun j v hv => hc0 j v hv
      have hix := fun W => idx_at (t := 25) (size := 16) (cap := m.kc) (len := c.cl.length) eA0 hlt (by kernel_rfl) (fun W => by kernel_rfl) W
      have hxk : Hid (c.cl[i]? = some x.k) := by unfold Hid; rw [← HC.out.e, List.getElem?_map, hx]; rfl
      have kx : Hid (KOk wr x) := (HC.out.t x (List.mem_of_getElem? hx)).then_ hHB
      clear hc0 eA0 hx hHB
      go_upto_region 13 with (refine wpList_elem4 32 el16 _ _ _ _ _ rfl rfl rfl rfl rfl rfl rfl rfl rfl rfl rfl rfl b0 _ rfl (kL x) rfl hrg (by simp [Value.oneCell']) (by decide) (by decide) (by decide) (by simp) (by simp) _ rfl ?_; simp only [Act.put, List.setIfInBounds_toArray, List.set_cons_succ, List.set_cons_zero])
      refine name_wp ?_
      intro Y hY
      have gx : Blk Y wr.heap.size 32 (kA x) := by rw [hY]; exact Blk.new _ _ _
      have hbY : Below wr.heap.size wr Y := by rw [hY]; exact wa1 _ _
      clear hY
      obtain ⟨bx, ex⟩ : ∃ b, wr.heap.size = b := ⟨_, rfl⟩
      have lY := hbY.size
      have lS := hL.out.own.lt_
      have hHY := hbY
      rw [ex] at gx ⊢
      clear hrg hix
      obtain ⟨z, hz⟩ : ∃ z, ks'[i]? = some z := ⟨_, List.getElem?_eq_getElem (by omega)⟩
      have hiy := fun W => idx_at (t := 25) (size := 16) (cap := c.cl.length + 1) (A := some ⟨B, 0, none⟩) (len := c.cl.length) rfl hlt (by kernel_rfl) (fun W => by kernel_rfl) W
      simp only [Nat.zero_add] at hiy
      have HZ := Lib.hid hz
      have HL' := Lib.hid hl'
      have HLY : Hid (Lst Y B (.slice (some ⟨B, 0, none⟩) c.cl.length (c.cl.length + 1)) ks') := hL.out.then_ hbY
      have HBY : Hid (Below B w3 Y) := hB.out.trans (hbY.mono (by omega))
      have KY : Hid (KOk Y x) := kx.out.then_ hbY
      clear hz hl' hL hB kx hbY hHY
      go_upto_region 14 with (first | (refine wpList_row_w (by rfl) 32 _ rfl bx rfl 32 _ gx ⟨_, Tryz.underlying32⟩ (by kernel_rfl) ?_; simp only [Act.put, List.setIfInBounds_toArray, List.set_cons_succ, List.set_cons_zero]) | (go_at_call 24; (with_reducible refine (copied_any x Y KY.out).mono ?_); rintro e w5 ⟨⟨A', c', rfl, hO5, hc5⟩, hb5⟩) | (refine wpList_store_el rfl 32 _ _ rfl (HLY.out.then_ hb5).own eK_len HL'.out HZ.out (⟨x.k, A', c'⟩ : Km) rfl rfl (by kernel_rfl) (by simp [eK, Value.oneCell']) ?_; intro w6 hO6 U6))
      have hA := own_ge hO5
      have hne : ∀ a, A' = some a → B ≤ a.block ∧ a.block ≠ B := fun a ha => by have := hA a ha; omega
      have HL6 : Hid (Lst w6 B (.slice (some ⟨B, 0, none⟩) c.cl.length (c.cl.length + 1)) (ks'.set i ⟨x.k, A', c'⟩)) := (HLY.out.then_ hb5).el hO6 U6 ⟨hO5.segA eS_len, KY.out.v, KY.out.n, hc5⟩ hne
      have HB6 : Hid (Below B w3 w6) := (HBY.out.trans (hb5.mono (by omega))).trans (U6.b B (Nat.le_refl _))
      have HK6 : Hid (∀ j, j < i + 1 → ((ks'.set i ⟨x.k, A', c'⟩)[j]?).map (·.k) = c.cl[j]?) := by
        intro j hj
        by_cases e : j = i
        · subst e
          rw [List.getElem?_set_self (by rw [HL'.out]; omega), hxk.out]; rfl
        · rw [List.getElem?_set_ne (by omega)]
          exact hK.out j (by omega)
      have hls : (ks'.set i ⟨x.k, A', c'⟩).length = c.cl.length := by rw [List.length_set]; exact HL'.out
      clear hO5 hb5 hO6 U6 HLY HBY KY hA hne gx hxk hK HZ
      go_wp2
      go_roundw
      case rel => exact ⟨i + 1, _, by omega, by simp, hls, HL6, HK6, HB6⟩
      case measure => simp [intOf]; omega
    · have tn : decide ((i : Int) < (c.cl.length : Int)) = false := decide_eq_false (by omega)
      obtain rfl : i = c.cl.length := by omega
      have hmap : Hid (ks'.map (·.k) = c.cl) := by
        unfold Hid
        apply List.ext_getElem?
        intro j
        rw [List.getElem?_map]
        by_cases hj : j < c.cl.length
        · exact hK.out j hj
        · rw [List.getElem?_eq_none (by omega), List.getElem?_eq_none (by omega)]; rfl
      have HBw : Below w.heap.size w wr := HB3'.out.trans (hB.out.mono lB)
      have gcw := gc5.out.below hB.out lc3
      have gpw := gp5.out.below hB.out lp3
      have grw := gr5.out.below hB.out lr3
      have e4 : wr.cell? ⟨be, 4, none⟩ = some (.func (.func (doF p.kind)) #[] #[]) := (ge5.out.below hB.out le3).cell 4
      have HDO : Hid (Calls Tryz.prog (doF p.kind) #[.slice (some ⟨B, 0, none⟩) c.cl.length (c.cl.length + 1), .agg (pL p pm)] wr fun e w' => Done p ks' B wr e w') := by
        have h1 := do_any p pm ks' B B (c.cl.length + 1) wr HKN.out (by rw [hl']; exact HFI.out) (by rw [hl']; exact hL.out) ((HP.out.s.below HBw).more lB) HP.out.n (HP.out.k.then_ HBw) (by rw [hl']; exact nk)
        rw [hl'] at h1
        exact h1
      have lws := HBw.size
      have lBw := hL.out.own.lt_
      clear hL hK hB gc5 gp5 gr5 ge5 HV HF HKN HFI HP hl' hix0 hlk hi'
      have hd : doF p.kind = 41 ∨ doF p.kind = 42 ∨ doF p.kind = 43 ∨ doF p.kind = 40 := by
        unfold doF
        split
        · exact .inl rfl
        · split
          · exact .inr (.inl rfl)
          · split
            · exact .inr (.inr (.inl rfl))
            · exact .inr (.inr (.inr rfl))
      go_upto_region 15 with (fail)
      go_cut [] from 72 to 77 (fun W => ∃ A5 c5 ks2, ks2.map (·.k) = p.do_ (ks'.map (·.k)) ∧ ks2.length ≤ c5 ∧ Lsr W B (.slice A5 ks2.length c5) ks2 ∧ Below w.heap.size w W ∧ Blk W bc 27 ((coA c m).setIfInBounds 4 (.slice A5 ks2.length c5)) ∧ Blk W br 27 coZ ∧ B ≤ W.heap.size)
      case first =>
        rcases hd with hd | hd | hd | hd
        all_goals (
          rw [hd] at e4 HDO
          clear hd
          go_wp2_with (first | (refine wpList_row_w (by rfl) 34 _ rfl bp rfl 34 _ gpw ⟨_, Tryz.underlying34⟩ (by kernel_rfl) ?_; simp only [Act.put, List.setIfInBounds_toArray, List.set_cons_succ, List.set_cons_zero]) | ((with_reducible refine HDO.out.mono ?_); rintro e w5 ⟨v5, ks2, rfl, hL5, hm5, hb5⟩; obtain ⟨A5, c5, rfl, hc5, hs5⟩ := hL5.own.seg eK_len; have c4 : w5.cell? ⟨bc, 4, none⟩ = some (.slice m.k c.cl.length m.kc) := (gcw.below hb5 lc3).cell 4; have f4 : w5.frozen? ⟨bc, 4, none⟩ = false := (gcw.below hb5 lc3).frozen 4))
          go_meet
          case rel => exact ⟨A5, c5, ks2, hm5, hc5, hL5.low lc3 _, (HBw.trans (hb5.mono lB)).setCell (p := ⟨bc, 4, none⟩) lbc _, (gcw.below hb5 lc3).set_ 4 _, (grw.below hb5 lr3).far (by simp; omega) _, by have := hb5.size; simp; omega⟩)
      obtain ⟨A5, c5, ks2, hm5, hc5, hL5, HBY0, gY0, grY, lYB⟩ := hcut
      obtain ⟨Y, hY⟩ : ∃ Y, wc = Y := ⟨_, rfl⟩
      rw [hY] at hL5 HBY0 gY0 grY lYB ⊢
      have em : ks2.map (·.k) = (c.ap p).cl := by rw [hm5, hmap.out]; rfl
      have l2 : ks2.length = (c.ap p).cl.length := by rw [← em]; simp
      have gY : Blk Y bc 27 (coA (c.ap p) ⟨m.h, m.hc, m.u, m.uc, m.a, m.ac, A5, c5, m.o, m.oc, ks2⟩) := by
        rw [l2] at gY0
        exact gY0
      have HLY : Hid (Lsr Y B (.slice A5 ks2.length c5) ks2) := hL5
      have HBY : Hid (Below w.heap.size w Y) := HBY0
      have nk2 : (c.ap p).cl.length ≤ 1000000 := by
        have h1 := do_len (p := p) c.cl
        have h2 : (c.ap p).cl.length = (p.do_ c.cl).length := rfl
        have h3 : c.cl.length ≤ 400 := by
          have := HOK.out
          unfold Con.ok Con.lim at this
          simp only [Bool.and_eq_true, decide_eq_true_eq] at this
          exact this.1.1.2
        rw [h2, h1]; split <;> omega
      obtain ⟨m2, hm2⟩ : ∃ m2 : Cm, (⟨m.h, m.hc, m.u, m.uc, m.a, m.ac, A5, c5, m.o, m.oc, ks2⟩ : Cm) = m2 := ⟨_, rfl⟩
      have hkk : ∀ W, Below w.heap.size w W → Lsr W B (.slice A5 ks2.length c5) ks2 → Cont W (c.ap p) m2 := fun W h1 h2 => by
        rw [← hm2]
        have h := HC.out.then_ h1
        exact ⟨h.h, h.u, h.a, h2.own.segA eK_len, h.o, em, h2.t, h.bu, h.ba, h.nh, h.nu, h.na, nk2, h.no, h.ch, h.cu, h.ca, by rw [← l2]; exact hc5, h.co⟩
      rw [hm2] at gY
      have HV := Lib.hid (valid_c (c.ap p) m2 Y (hkk Y HBY.out HLY.out))
      clear hY hL5 hm5 gcw grw HDO lBw gY0 HBY0 e4 hd
      go_upto_region 17 with (first | (refine wpList_row_w (by rfl) 27 _ rfl bc rfl 27 _ gY ⟨_, Tryz.underlying27⟩ (by kernel_rfl) ?_; simp only [Act.put, List.setIfInBounds_toArray, List.set_cons_succ, List.set_cons_zero]) | (go_at_call 21; (with_reducible refine HV.out.mono ?_); rintro e w6 ⟨⟨d1, d2, rfl, hok⟩, hb6⟩))
      have g6 := gY.then_ hb6
      have gr6 := grY.then_ hb6
      have HB6 := Lib.hid (below_then HBY.out hb6)
      have HL6 := Lib.hid (HLY.out.then_ hb6)
      have l6 := hb6.size
      clear gY grY HBY HLY HV
      have hEE := hE0.out
      cases hco : (c.ap p).ok with
      | false =>
        have t0 : (d1 != 0) = true := by
          rw [bne_iff_ne]
          intro e
          rw [hok.1 e] at hco
          cases hco
        have hE := apC_no (c := c) (p := p) (e := 1) (by rw [hEE, show (c.wc (p.do_ c.cl)).ok = false from hco]; rfl) (by decide)
        clear hok hco hEE hkk
        have HB6' := HB6.out
        have hbr := gr6.lt
        go_wp2_with (refine wpList_store_all rfl 27 _ _ rfl br 27 [] coZ.toList [] coZ.toList rfl rfl gr6 rfl (by kernel_rfl) (by simp [Value.oneCell']) ?_; intro we ge ue)
        refine bodyPost_ret (ret_row2 rfl rfl ge ⟨_, Tryz.underlying27⟩ (by kernel_rfl)) rfl ?_
        exact ⟨⟨mZ, by rw [hE.out.1, hE.out.2]; rfl, by rw [hE.out.2]; exact cont_zero _, by rw [hE.out.2]; exact off_zero _⟩, (HB6').trans (ue.b _ (by omega))⟩
      | true =>
      have t0 : (d1 != 0) = false := by rw [hok.2 hco]; rfl
      have hE : Hid (c.apE p = 0 ∧ c.apC p = c.ap p) := by
        have h1 : c.apE p = 0 := by rw [hEE, show (c.wc (p.do_ c.cl)).ok = true from hco]; rfl
        exact ⟨h1, by unfold Con.apC; rw [if_pos h1]⟩
      clear hok hco hEE hE0
      obtain ⟨C, hC⟩ : ∃ C, c.ap p = C := ⟨_, rfl⟩
      have eh : c.hold = C.hold := by rw [← hC]; rfl
      have eu : c.un = C.un := by rw [← hC]; rfl
      have ea : c.ac = C.ac := by rw [← hC]; rfl
      have eo : c.off = C.off := by rw [← hC]; rfl
      rw [hC] at g6 hkk hE nk2 em l2
      have HK6 := hkk w6 HB6.out HL6.out
      have HKK := Lib.hid hkk
      have hms : Hid (m2.ks = ks2) := by rw [← hm2]; rfl
      have hms2 : Hid (A5 = m2.k) := by rw [← hm2]; rfl
      have hz6 := Below.refl w6.heap.size w6
      clear hkk hm2 hmap em l2
      go_upto_region 19 with (fail)
      refine wp_region_hb (fun w' => Below w6.heap.size w6 w') [0, 1, 2, 3, 4, 5, 6] [7, 8, 9] (by kernel_rfl) (by kernel_rfl) (by repeat (first | with_reducible refine panOk_then ?_ | with_reducible refine panOk_block ?_ | exact panOk_body)) (Below.drew (Below.refl _ _)) (fun hdir hsel hpan hHeld => ?_)
      refine wpHB_take (i := 0) (oi := ⟨some 86, _, _, _, _, _⟩) hdir hsel hpan rfl (by kernel_rfl) (by kernel_rfl) (by kernel_rfl) (Or.inl ⟨by rfl, fun _ _ => by rfl⟩) (by assumption) ?_
      try simp only [Act.put, List.setIfInBounds_toArray, List.set_cons_zero, List.set_cons_succ]
      refine wpHB_take (i := 1) (oi := ⟨some 87, _, _, _, _, _⟩) (v := .slice m2.h C.hold.length m2.hc) hdir hsel hpan rfl (by kernel_rfl) (by kernel_rfl) (by kernel_rfl) (Or.inl ⟨by rfl, fun w hw => by have hc := (g6.then_ hw).cell 1; go_simp⟩) (by assumption) ?_
      try simp only [Act.put, List.setIfInBounds_toArray, List.set_cons_zero, List.set_cons_succ]
      refine wpHB_take (i := 3) (oi := ⟨some 89, _, _, _, _, _⟩) hdir hsel hpan rfl (by kernel_rfl) (by kernel_rfl) (by kernel_rfl) (Or.inl ⟨by rfl, fun _ _ => by rfl⟩) (by assumption) ?_
      try simp only [Act.put, List.setIfInBounds_toArray, List.set_cons_zero, List.set_cons_succ]
      refine wpHB_take (i := 4) (oi := ⟨some 90, _, _, _, _, _⟩) (v := .slice m2.u C.un.length m2.uc) hdir hsel hpan rfl (by kernel_rfl) (by kernel_rfl) (by kernel_rfl) (Or.inl ⟨by rfl, fun w hw => by have hc := (g6.then_ hw).cell 2; go_simp⟩) (by assumption) ?_
      try simp only [Act.put, List.setIfInBounds_toArray, List.set_cons_zero, List.set_cons_succ]
      refine wpHB_ready (rs := [2]) (by kernel_rfl) (by simp) ?_
      refine AllHB.cons (by kernel_rfl) (o := ⟨some 88, _, _, _, _, _⟩) rfl (fun K hK => ?_) AllHB.nil
      go_simp
      (go_at_call 25; (with_reducible refine (clone_int m2.h m2.hc C.hold _ HK6.nh ((HK6.h.below hHeld).more hHeld.size) HK6.ch).mono ?_); rintro e w7 ⟨⟨v7, rfl, hO7⟩, hb7⟩)
      obtain ⟨A7, c7, rfl, hc7, _⟩ := hO7.seg eI_len
      refine hK.out _ _ (below_then hHeld hb7) (fun hHeld2 => ?_)
      clear hK K hHeld
      have hHeld := hHeld2
      clear hHeld2
      try simp only [Act.put, List.setIfInBounds_toArray, List.set_cons_zero, List.set_cons_succ]
      refine wpHB_take (i := 6) (oi := ⟨some 92, _, _, _, _, _⟩) hdir hsel hpan rfl (by kernel_rfl) (by kernel_rfl) (by kernel_rfl) (Or.inl ⟨by rfl, fun _ _ => by rfl⟩) (by assumption) ?_
      try simp only [Act.put, List.setIfInBounds_toArray, List.set_cons_zero, List.set_cons_succ]
      refine wpHB_ready (rs := [5]) (by kernel_rfl) (by simp) ?_
      refine AllHB.cons (by kernel_rfl) (o := ⟨some 91, _, _, _, _, _⟩) rfl (fun K hK => ?_) AllHB.nil
      go_simp
      (go_at_call 26; (with_reducible refine (clone_uni m2.u m2.uc C.un _ HK6.nu ((HK6.u.below hHeld).more hHeld.size) HK6.cu).mono ?_); rintro e w8 ⟨⟨v8, rfl, hO8⟩, hb8⟩)
      obtain ⟨A8, c8, rfl, hc8, _⟩ := hO8.seg eU_len
      refine hK.out _ _ (below_then hHeld hb8) (fun hHeld2 => ?_)
      clear hK K hHeld
      have hHeld := hHeld2
      clear hHeld2
      try simp only [Act.put, List.setIfInBounds_toArray, List.set_cons_zero, List.set_cons_succ]
      refine wpHB_tail (by kernel_rfl) (by kernel_rfl) ?_
      clear hdir hsel hpan
      simp only [opsAt, List.getElem?_toArray, List.getElem?_cons_succ, List.getElem?_cons_zero, Option.toList_some, List.cons_append, List.nil_append]
      have c1 : w8.cell? ⟨bc, 1, none⟩ = some (.slice m2.h C.hold.length m2.hc) := (g6.then_ hHeld).cell 1
      have c2 : w8.cell? ⟨bc, 2, none⟩ = some (.slice m2.u C.un.length m2.uc) := (g6.then_ hHeld).cell 2
      have f1 : w8.frozen? ⟨bc, 1, none⟩ = false := (g6.then_ hHeld).frozen 1
      have f2 : w8.frozen? ⟨bc, 2, none⟩ = false := (g6.then_ hHeld).frozen 2
      go_upto_region 20 with (fail)
      refine name_wp ?_
      intro V1 hV1
      have lc6 := g6.lt
      have l7 : w6.heap.size ≤ w7.heap.size := hb7.size
      have gV1 : Blk V1 bc 27 (coA C { m2 with h := A7, hc := c7, u := A8, uc := c8 }) := by
        rw [hV1]
        exact ((g6.then_ hHeld).set_ 1 _).set_ 2 _
      have grV1 : Blk V1 br 27 coZ := by rw [hV1]; exact ((gr6.then_ hHeld).far (by simp; omega) _).far (by simp; omega) _
      have HBV1 : Hid (Below w.heap.size w V1) := by rw [hV1]; exact ((HB6.out.trans (hHeld.mono HB6.out.size)).setCell (p := ⟨bc, 1, none⟩) lbc _).setCell (p := ⟨bc, 2, none⟩) lbc _
      have HLV1 : Hid (Lsr V1 B (.slice A5 ks2.length c5) ks2) := by rw [hV1]; exact ((HL6.out.then_ hHeld).low lc3 _).low lc3 _
      have HO7 : Hid (Own V1 w6.heap.size 3 1 eI (.slice A7 C.hold.length c7) C.hold) := by rw [hV1]; exact ((hO7.below hb8).setBelow (p := ⟨bc, 1, none⟩) lc6 _).setBelow (p := ⟨bc, 2, none⟩) lc6 _
      have HO8 : Hid (Own V1 w7.heap.size 71 5 eU (.slice A8 C.un.length c8) C.un) := by rw [hV1]; exact (hO8.setBelow (p := ⟨bc, 1, none⟩) (show bc < _ by omega) _).setBelow (p := ⟨bc, 2, none⟩) (show bc < _ by omega) _
      have lV1 : w6.heap.size ≤ V1.heap.size := by have := hHeld.size; rw [hV1]; simpa using this
      clear hV1 hO7 hO8 hb7 hb8 hHeld g6 gr6 c1 c2 f1 f2
      have HKV : Hid (Cont V1 C m2) := HKK.out V1 HBV1.out HLV1.out
      have hz7 := Below.refl V1.heap.size V1
      refine wp_region_hb (fun w' => Below V1.heap.size V1 w') [0, 1, 2, 3, 4, 5, 6] [7, 8, 9] (by kernel_rfl) (by kernel_rfl) (by repeat (first | with_reducible refine panOk_then ?_ | with_reducible refine panOk_block ?_ | exact panOk_body)) (Below.drew (Below.refl _ _)) (fun hdir hsel hpan hHeld => ?_)
      refine wpHB_take (i := 0) (oi := ⟨some 94, _, _, _, _, _⟩) hdir hsel hpan rfl (by kernel_rfl) (by kernel_rfl) (by kernel_rfl) (Or.inl ⟨by rfl, fun _ _ => by rfl⟩) (by assumption) ?_
      try simp only [Act.put, List.setIfInBounds_toArray, List.set_cons_zero, List.set_cons_succ]
      refine wpHB_take (i := 1) (oi := ⟨some 95, _, _, _, _, _⟩) (v := .slice m2.a C.ac.length m2.ac) hdir hsel hpan rfl (by kernel_rfl) (by kernel_rfl) (by kernel_rfl) (Or.inl ⟨by rfl, fun w hw => by have hc := (gV1.then_ hw).cell 3; go_simp⟩) (by assumption) ?_
      try simp only [Act.put, List.setIfInBounds_toArray, List.set_cons_zero, List.set_cons_succ]
      refine wpHB_take (i := 3) (oi := ⟨some 97, _, _, _, _, _⟩) hdir hsel hpan rfl (by kernel_rfl) (by kernel_rfl) (by kernel_rfl) (Or.inl ⟨by rfl, fun _ _ => by rfl⟩) (by assumption) ?_
      try simp only [Act.put, List.setIfInBounds_toArray, List.set_cons_zero, List.set_cons_succ]
      refine wpHB_take (i := 4) (oi := ⟨some 98, _, _, _, _, _⟩) (v := .slice m2.o C.off.length m2.oc) hdir hsel hpan rfl (by kernel_rfl) (by kernel_rfl) (by kernel_rfl) (Or.inl ⟨by rfl, fun w hw => by have hc := (gV1.then_ hw).cell 6; go_simp⟩) (by assumption) ?_
      try simp only [Act.put, List.setIfInBounds_toArray, List.set_cons_zero, List.set_cons_succ]
      refine wpHB_ready (rs := [2]) (by kernel_rfl) (by simp) ?_
      refine AllHB.cons (by kernel_rfl) (o := ⟨some 96, _, _, _, _, _⟩) rfl (fun K hK => ?_) AllHB.nil
      go_simp
      (go_at_call 27; (with_reducible refine (clone_atc m2.a m2.ac C.ac _ HKV.out.na ((HKV.out.a.below hHeld).more hHeld.size) HKV.out.ca).mono ?_); rintro e w9 ⟨⟨v9, rfl, hO9⟩, hb9⟩)
      obtain ⟨A9, c9, rfl, hc9, _⟩ := hO9.seg eA_len
      refine hK.out _ _ (below_then hHeld hb9) (fun hHeld2 => ?_)
      clear hK K hHeld
      have hHeld := hHeld2
      clear hHeld2
      try simp only [Act.put, List.setIfInBounds_toArray, List.set_cons_zero, List.set_cons_succ]
      refine wpHB_take (i := 6) (oi := ⟨some 100, _, _, _, _, _⟩) hdir hsel hpan rfl (by kernel_rfl) (by kernel_rfl) (by kernel_rfl) (Or.inl ⟨by rfl, fun _ _ => by rfl⟩) (by assumption) ?_
      try simp only [Act.put, List.setIfInBounds_toArray, List.set_cons_zero, List.set_cons_succ]
      refine wpHB_ready (rs := [5]) (by kernel_rfl) (by simp) ?_
      refine AllHB.cons (by kernel_rfl) (o := ⟨some 99, _, _, _, _, _⟩) rfl (fun K hK => ?_) AllHB.nil
      go_simp
      (go_at_call 25; (with_reducible refine (clone_int m2.o m2.oc C.off _ HKV.out.no ((HKV.out.o.below hHeld).more hHeld.size) HKV.out.co).mono ?_); rintro e w0 ⟨⟨v0, rfl, hO0⟩, hb0⟩)
      obtain ⟨A0, c0, rfl, hc0, _⟩ := hO0.seg eI_len
      refine hK.out _ _ (below_then hHeld hb0) (fun hHeld2 => ?_)
      clear hK K hHeld
      have hHeld := hHeld2
      clear hHeld2
      try simp only [Act.put, List.setIfInBounds_toArray, List.set_cons_zero, List.set_cons_succ]
      refine wpHB_tail (by kernel_rfl) (by kernel_rfl) ?_
      clear hdir hsel hpan
      simp only [opsAt, List.getElem?_toArray, List.getElem?_cons_succ, List.getElem?_cons_zero, Option.toList_some, List.cons_append, List.nil_append]
      have c1 : w0.cell? ⟨bc, 3, none⟩ = some (.slice m2.a C.ac.length m2.ac) := (gV1.then_ hHeld).cell 3
      have c2 : w0.cell? ⟨bc, 6, none⟩ = some (.slice m2.o C.off.length m2.oc) := (gV1.then_ hHeld).cell 6
      have f1 : w0.frozen? ⟨bc, 3, none⟩ = false := (gV1.then_ hHeld).frozen 3
      have f2 : w0.frozen? ⟨bc, 6, none⟩ = false := (gV1.then_ hHeld).frozen 6
      go_upto_region 21 with (fail)
      refine name_wp ?_
      intro V2 hV2
      have lc7 := gV1.lt
      have lr7 := grV1.lt
      have l9 : V1.heap.size ≤ w9.heap.size := hb9.size
      have gV2 : Blk V2 bc 27 (coA C ⟨A7, c7, A8, c8, A9, c9, m2.k, m2.kc, A0, c0, ks2⟩) := by
        rw [hV2]
        exact ((gV1.then_ hHeld).set_ 3 _).set_ 6 _
      have grV2 : Blk V2 br 27 coZ := by rw [hV2]; exact ((grV1.then_ hHeld).far (by simp; omega) _).far (by simp; omega) _
      have HBV2 : Hid (Below w.heap.size w V2) := by rw [hV2]; exact ((HBV1.out.trans (hHeld.mono HBV1.out.size)).setCell (p := ⟨bc, 3, none⟩) lbc _).setCell (p := ⟨bc, 6, none⟩) lbc _
      have HLV2 : Hid (Lsr V2 B (.slice A5 ks2.length c5) ks2) := by rw [hV2]; exact ((HLV1.out.then_ hHeld).low lc3 _).low lc3 _
      have HO7' : Hid (Own V2 w6.heap.size 3 1 eI (.slice A7 C.hold.length c7) C.hold) := by rw [hV2]; exact ((HO7.out.below hHeld).setBelow (p := ⟨bc, 3, none⟩) lc6 _).setBelow (p := ⟨bc, 6, none⟩) lc6 _
      have HO8' : Hid (Own V2 w7.heap.size 71 5 eU (.slice A8 C.un.length c8) C.un) := by rw [hV2]; exact ((HO8.out.below hHeld).setBelow (p := ⟨bc, 3, none⟩) (show bc < _ by omega) _).setBelow (p := ⟨bc, 6, none⟩) (show bc < _ by omega) _
      have HO9' : Hid (Own V2 V1.heap.size 74 7 eA (.slice A9 C.ac.length c9) C.ac) := by rw [hV2]; exact ((hO9.below hb0).setBelow (p := ⟨bc, 3, none⟩) lc7 _).setBelow (p := ⟨bc, 6, none⟩) lc7 _
      have HO0' : Hid (Own V2 w9.heap.size 3 1 eI (.slice A0 C.off.length c0) C.off) := by rw [hV2]; exact (hO0.setBelow (p := ⟨bc, 3, none⟩) (show bc < _ by omega) _).setBelow (p := ⟨bc, 6, none⟩) (show bc < _ by omega) _
      have lr6 : br < w6.heap.size := by omega
      clear hV2 hO9 hO0 hb9 hb0 hHeld gV1 grV1 c1 c2 f1 f2
      go_wp2_with (first | (refine wpList_row_w (by rfl) 27 _ rfl bc rfl 27 _ gV2 ⟨_, Tryz.underlying27⟩ (by kernel_rfl) ?_; simp only [Act.put, List.setIfInBounds_toArray, List.set_cons_succ, List.set_cons_zero]) | (refine wpList_store_all rfl 27 _ _ rfl br 27 [] coZ.toList [] (coA C ⟨A7, c7, A8, c8, A9, c9, m2.k, m2.kc, A0, c0, ks2⟩).toList rfl rfl grV2 rfl (by kernel_rfl) (by simp [Value.oneCell']) ?_; intro we ge ue))
      have HL3 := HLV2.out.upd ue lr3
      have HC3 := HKK.out we (HBV2.out.trans (ue.b _ lbr)) HL3
      refine bodyPost_ret (ret_row2 rfl rfl ge ⟨_, Tryz.underlying27⟩ (by kernel_rfl)) rfl ?_
      refine ⟨⟨⟨A7, c7, A8, c8, A9, c9, m2.k, m2.kc, A0, c0, ks2⟩, by rw [hE.out.1, hE.out.2]; rfl, by rw [hE.out.2]; exact ⟨(HO7'.out.upd ue (own_ne HO7'.out lr6)).segA eI_len, (HO8'.out.upd ue (own_ne HO8'.out (by omega))).segA eU_len, (HO9'.out.upd ue (own_ne HO9'.out lr7)).segA eA_len, hms.out ▸ HC3.k, (HO0'.out.upd ue (own_ne HO0'.out (by omega))).segA eI_len, hms.out ▸ HC3.e, hms.out ▸ HC3.t, HC3.bu, HC3.ba, HC3.nh, HC3.nu, HC3.na, HC3.nk, HC3.no, hc7, hc8, hc9, HC3.ck, hc0⟩, by rw [hE.out.2]; exact ⟨own_segP HO7'.out (by omega), own_segP HO8'.out (by omega), own_segP HO9'.out (by omega), by rw [← hms2.out]; exact own_segP HL3.own lB, own_segP HO0'.out (by omega), fun x hx _ a ha => Nat.le_trans lB (HL3.f x hx a ha)⟩⟩, HBV2.out.trans (ue.b _ lbr)⟩
end Go.Proofs.YtplommmegkdhdaaGreatDoor
