/- Contracts of functions and plain laws, joined: Krk, Kbp. -/
import Derived.Test.YtcplneglfbdooaaMb16
import Derived.Test.YtcplneglfbdooaaMb13
/- The walk of the law's small. -/
namespace Go.Proofs.Ytcplneglfbdooaa
open Go.RowKit

theorem wrap_big {n : Nat} (h : n < 9223372036854775807) : IntKind.i64.wrap ((n : Int) + 1) = (n : Int) + 1 := by
  rw [IntKind.wrap_i64]; omega
def smallA (c : Con) (l : List Pat) : Bool := l.all Pat.small && (c.small 20 && decide ((l.length : Int) ≤ 70))
set_option maxRecDepth 100000 in
set_option maxHeartbeats 3200000 in
theorem small_any (c : Con) (m : Cm) (L : List Pk) (A : Option Addr) (cap : Nat) (w : World) (hk : Seg w w.heap.size 16 eK m.k m.ks) (he : m.ks.map (·.k) = c.cl) (hs : Seg w w.heap.size 19 eP A L) (hn : L.length ≤ 9223372036854775807) :
    Calls Try.prog 10 #[.agg (coA c m), .slice A L.length cap] w fun e w' => e = .returned (.bool (smallA c (pats L))) ∧ Below w.heap.size w w' := by
  have HS := Lib.hid hs
  have HSC := Lib.hid (fun W (hb : Below w.heap.size w W) => rsmallc_any c m 20 W ((hk.below hb).more hb.size) he (by decide))
  obtain ⟨e1, E1⟩ : ∃ x, c.small 20 = x := ⟨_, rfl⟩
  obtain ⟨e2, E2⟩ : ∃ x, decide ((L.length : Int) ≤ 70) = x := ⟨_, rfl⟩
  simp only [E1] at HSC
  have hf : Hid (smallA c (pats L) = ((pats L).all Pat.small && (e1 && e2))) := by unfold Hid smallA; rw [E1, ← E2, List.length_map]
  clear hs hk he E1
  go_enter Try.func10, Try.ntmps10
  go_upto_region 1 with (fail)
  refine name_wp ?_
  intro X hX
  have gbc : Blk X w.heap.size 27 (coA c m) := by rw [hX]; exact blk_at (by simp)
  have HB : Below w.heap.size w X := by rw [hX]; (repeat (first | with_reducible assumption | with_reducible exact Below.refl _ _ | with_reducible refine below_drewN ?_ _ | with_reducible refine Below.drew ?_ | with_reducible refine below_alloc ?_ _ | with_reducible refine Below.setCell ?_ (by first | omega | (simp; done) | (simp; omega)) _ | with_reducible refine below_then ?_ (by with_reducible assumption) | (refine below_then (a := World.drew _) ?_ (by with_reducible assumption))))
  clear hX
  obtain ⟨bc, ebc⟩ : ∃ b, w.heap.size = b := ⟨_, rfl⟩
  have lbc : w.heap.size ≤ bc := by omega
  rw [ebc] at gbc ⊢
  clear ebc
  have GB := Lib.hid gbc
  have HBX := Lib.hid HB
  clear HB gbc
  go_upto_region 2 with (fail)
  go_loopw [5] (fun y WR => ∃ (i : Nat), i ≤ L.length ∧ y = .int .i64 i ∧ Hid (∀ j x, j < i → L[j]? = some x → x.p.small = true) ∧ Hid (Below X.heap.size X WR)) (fun y _ => 9223372036854775807 - (intOf y).toNat)
  case atStart => exact ⟨0, by omega, rfl, (fun j k hj => by omega), Below.refl _ _⟩
  case round =>
    obtain ⟨i, hi', rfl, hpre, hB⟩ := hrel
    by_cases hlt : i < L.length
    · have tn : decide ((i : Int) < (L.length : Int)) = true := decide_eq_true (by omega)
      obtain ⟨x, hx⟩ : ∃ x, L[i]? = some x := ⟨_, List.getElem?_eq_getElem hlt⟩
      obtain ⟨b0, o0, eA0, hb0, hc0⟩ := segAt (HS.out.below (below_then HBX.out hB.out)) hx
      have hrg : wr.rangeAt b0 (o0 + i * 19) (eP x) := fun j v hv => hc0 j v hv
      have hix := fun W => idx_at (t := 28) (size := 19) (cap := cap) (len := L.length) eA0 hlt (by kernel_rfl) (fun W => by kernel_rfl) W
      have HX := Lib.hid hx
      clear hc0 hx eA0
      have hwr := wrap_big (n := i) (by omega)
      have HC := Lib.hid (rsmallp_any x.p x.m wr)
      cases ht : x.p.small with
      | false =>
        have hq : Hid (smallA c (pats L) = false) := by
          unfold Hid
          rw [hf.out]
          have : (pats L).all Pat.small = false := Bool.eq_false_iff.2 fun h => by
            have h2 := List.all_eq_true.1 h x.p (List.mem_of_getElem? (i := i) (by rw [List.getElem?_map, HX.out]; rfl))
            rw [ht] at h2
            cases h2
          rw [this]
          rfl
        simp only [ht] at HC
        clear hpre
        go_wp2_with (first | (refine wpList_load_mid rfl 49 _ rfl b0 _ rfl (eP x) _ hrg Try.underlying49 rfl (by kernel_rfl) ?_; simp only [Act.put, List.setIfInBounds_toArray, List.set_cons_succ, List.set_cons_zero]) | (go_at_call 25; (with_reducible refine HC.out.mono ?_); rintro e w9 ⟨rfl, hb9⟩))
        go_ret
        exact ⟨ret_bool hq.out.symm, below_then HBX.out (below_then hB.out hb9)⟩
      | true =>
        have hp2 : Hid (∀ j x, j < i + 1 → L[j]? = some x → x.p.small = true) := by
          intro j y hj hy
          by_cases q : j = i
          · rw [q, HX.out] at hy
            cases hy
            exact ht
          · exact hpre.out j y (by omega) hy
        simp only [ht] at HC
        clear hpre
        go_wp2_with (first | (refine wpList_load_mid rfl 49 _ rfl b0 _ rfl (eP x) _ hrg Try.underlying49 rfl (by kernel_rfl) ?_; simp only [Act.put, List.setIfInBounds_toArray, List.set_cons_succ, List.set_cons_zero]) | (go_at_call 25; (with_reducible refine HC.out.mono ?_); rintro e w9 ⟨rfl, hb9⟩))
        go_roundw
        case rel => exact ⟨i + 1, by omega, by simp, hp2, below_then hB.out hb9⟩
        case measure => simp [intOf]; omega
    · have tn : decide ((i : Int) < (L.length : Int)) = false := decide_eq_false (by omega)
      have hq : Hid (smallA c (pats L) = (e1 && e2)) := by
        unfold Hid
        rw [hf.out]
        have : (pats L).all Pat.small = true := List.all_eq_true.2 fun p hp => by
          obtain ⟨x, hx, rfl⟩ := List.mem_map.1 hp
          obtain ⟨j, hj, e⟩ := List.getElem_of_mem hx
          exact hpre.out j x (by omega) (by rw [← e]; exact List.getElem?_eq_getElem hj)
        rw [this]
        rfl
      have gc : Blk wr bc 27 (coA c m) := GB.out.then_ hB.out
      have HC := Lib.hid (HSC.out wr (below_then HBX.out hB.out))
      clear hpre
      cases e1
      case false =>
        go_wp2_with (first | (refine wpList_row_w (by rfl) 27 _ rfl bc rfl 27 _ gc ⟨_, Try.underlying27⟩ (by kernel_rfl) ?_; simp only [Act.put, List.setIfInBounds_toArray, List.set_cons_succ, List.set_cons_zero]) | (go_at_call 26; (with_reducible refine HC.out.mono ?_); rintro e w9 ⟨rfl, hb9⟩))
        go_ret
        exact ⟨ret_bool hq.out.symm, below_then HBX.out (below_then hB.out hb9)⟩
      cases e2
      case false =>
        go_wp2_with (first | (refine wpList_row_w (by rfl) 27 _ rfl bc rfl 27 _ gc ⟨_, Try.underlying27⟩ (by kernel_rfl) ?_; simp only [Act.put, List.setIfInBounds_toArray, List.set_cons_succ, List.set_cons_zero]) | (go_at_call 26; (with_reducible refine HC.out.mono ?_); rintro e w9 ⟨rfl, hb9⟩))
        go_ret
        exact ⟨ret_bool hq.out.symm, below_then HBX.out (below_then hB.out hb9)⟩
      case true =>
        go_wp2_with (first | (refine wpList_row_w (by rfl) 27 _ rfl bc rfl 27 _ gc ⟨_, Try.underlying27⟩ (by kernel_rfl) ?_; simp only [Act.put, List.setIfInBounds_toArray, List.set_cons_succ, List.set_cons_zero]) | (go_at_call 26; (with_reducible refine HC.out.mono ?_); rintro e w9 ⟨rfl, hb9⟩))
        go_ret
        exact ⟨ret_bool hq.out.symm, below_then HBX.out (below_then hB.out hb9)⟩
end Go.Proofs.Ytcplneglfbdooaa
/- The walk of merge.renumbered. -/
namespace Go.Proofs.Ytcplneglfbdooaa
open Go.RowKit

def OffP (P : Nat → Prop) (p : Pat) (pm : Pm) : Prop := SegP P pm.p p.cls ∧ SegP P pm.A p.new.start
theorem PatM.offP {w : World} {p : Pat} {pm : Pm} (h : PatM w p pm) : OffP (· < w.heap.size) p pm := ⟨h.s.segP, h.k.s.segP⟩
theorem OffP.mono {P Q : Nat → Prop} {p : Pat} {pm : Pm} (h : OffP P p pm) (hq : ∀ b, P b → Q b) : OffP Q p pm := ⟨h.1.mono hq, h.2.mono hq⟩
theorem PatM.upd {w w' : World} {g : Nat} {p : Pat} {pm : Pm} (h : PatM w p pm) (u : Upd w w' g) (ho : OffP (· ≠ g) p pm) : PatM w' p pm :=
  ⟨by rw [u.s]; exact h.s.upd2 u ho.1, h.n, h.c, ⟨by rw [u.s]; exact h.k.s.upd2 u ho.2, h.k.v, h.k.n, h.k.c⟩⟩
abbrev pZ : List Value := [.int .i64 0, .slice none 0 0, .int .i64 0, .int .i64 0, .int .i64 0, .int .i64 0, .slice none 0 0, .int .i64 0, .int .i64 0, .bool false, .bool false, .int .i64 0, .int .i64 0, .int .i64 0, .int .i64 0, .int .i64 0, .int .i64 0, .bool false, .int .i64 0]
/-- the first i elements changed -/
def updT {α : Type} (f : α → α) (l : List α) (i : Nat) : List α := (l.take i).map f ++ l.drop i
theorem updT_zero {α : Type} (f : α → α) (l : List α) : updT f l 0 = l := by unfold updT; simp
theorem updT_all {α : Type} (f : α → α) (l : List α) : updT f l l.length = l.map f := by unfold updT; simp
theorem updT_len {α : Type} (f : α → α) (l : List α) (i : Nat) : (updT f l i).length = l.length := by unfold updT; simp; omega
theorem updT_get {α : Type} (f : α → α) {l : List α} {i : Nat} {x : α} (h : l[i]? = some x) : (updT f l i)[i]? = some x := by
  have hi := (List.getElem?_eq_some_iff.1 h).1
  unfold updT
  rw [List.getElem?_append_right (by simp; omega), List.getElem?_drop]
  simp only [List.length_map, List.length_take]
  rw [show i + (i - min i l.length) = i by omega]
  exact h
theorem updT_succ {α : Type} (f : α → α) {l : List α} {i : Nat} {x : α} (h : l[i]? = some x) : updT f l (i + 1) = (updT f l i).set i (f x) := by
  have hi := (List.getElem?_eq_some_iff.1 h).1
  have hl : ((l.take i).map f).length = i := by simp; omega
  unfold updT
  rw [List.take_add_one, h, List.set_append_right _ _ (by omega), hl, Nat.sub_self]
  have hd : l.drop i = x :: l.drop (i + 1) := by
    rw [List.drop_eq_getElem_cons hi]
    rw [List.getElem?_eq_getElem hi] at h
    injection h with h
    rw [h]
  rw [hd]
  simp
theorem set_same {α : Type} {l : List α} {i : Nat} {x : α} (h : l[i]? = some x) : l.set i x = l := by
  apply List.ext_getElem?
  intro j
  by_cases e : i = j
  · subst e; rw [List.getElem?_set_self (List.getElem?_eq_some_iff.1 h).1, h]
  · rw [List.getElem?_set_ne e]
/-- the block of a list of the call's own that is not empty -/
theorem own_some {α : Type} {w : World} {B : Nat} {T : TypeId} {size : Nat} {enc : α → List Value} {A : Option Addr} {n c : Nat} {xs : List α} (h : Own w B T size enc (.slice A n c) xs) (hn : 0 < n) : ∃ g, A = some ⟨g, 0, none⟩ := by
  rcases h.2 with ⟨h1, _⟩ | ⟨g, cap, cur, hv, _⟩
  · injection h1 with _ h2 _; omega
  · injection hv with h2 _ _; exact ⟨g, h2⟩
/-- the lists of a patch are lists of the call's own -/
def PatO (w : World) (p : Pat) (pm : Pm) : Prop := Own w 0 3 1 eI (.slice pm.p p.cls.length pm.pc) p.cls ∧ Own w 0 77 2 eS (.slice pm.A p.new.start.length pm.cap) p.new.start
def renS (n k : Nat) (s : Int × Int) : Int × Int := (renI n k s.1, s.2)
theorem ren_eq (p : Pat) (n k : Nat) : p.ren n k = { p with cls := p.cls.map (renI n k), new := { p.new with start := p.new.start.map (renS n k) } } := rfl
set_option maxRecDepth 100000 in
set_option maxHeartbeats 6400000 in
theorem ren_any (p : Pat) (pm : Pm) (n k : Nat) (w : World) (h : PatM w p pm) (h1 : ∀ x ∈ p.cls, x ≤ 1000000) (h2 : ∀ s ∈ p.new.start, s.1 ≤ 1000000) (hn : n ≤ 1000000) (hk : k ≤ 1000000) :
    Calls Try.prog 34 #[.agg (pL p pm), .int .i64 (n : Nat), .int .i64 (k : Nat)] w fun e w' => (∃ pm', e = .returned (.agg (pL (p.ren n k) pm')) ∧ PatM w' (p.ren n k) pm' ∧ OffP (w.heap.size ≤ ·) (p.ren n k) pm' ∧ PatO w' (p.ren n k) pm') ∧ Below w.heap.size w w' := by
  have HP := Lib.hid h
  have H1 := Lib.hid h1
  have H2 := Lib.hid h2
  have nc := h.n
  have ns : p.new.start.length ≤ 1000000 := h.k.n
  clear h h1 h2
  go_enter Try.func34, Try.ntmps34
  go_upto_region 1 with (fail)
  refine name_wp ?_
  intro X hX
  have gbp : Blk X w.heap.size 49 (pL p pm) := by rw [hX]; exact (blk_at (by simp)).alloc _
  have gbr : Blk X (w.heap.size + 1) 49 (pZ.toArray) := by rw [hX]; exact blk_at (by simp)
  have HB : Below w.heap.size w X := by rw [hX]; (repeat (first | with_reducible assumption | with_reducible exact Below.refl _ _ | with_reducible refine below_drewN ?_ _ | with_reducible refine Below.drew ?_ | with_reducible refine below_alloc ?_ _ | with_reducible refine Below.setCell ?_ (by first | omega | (simp; done) | (simp; omega)) _ | with_reducible refine below_then ?_ (by with_reducible assumption) | (refine below_then (a := World.drew _) ?_ (by with_reducible assumption))))
  clear hX
  obtain ⟨br, ebr⟩ : ∃ b, w.heap.size + 1 = b := ⟨_, rfl⟩
  obtain ⟨bp, ebp⟩ : ∃ b, w.heap.size = b := ⟨_, rfl⟩
  have lbp : w.heap.size ≤ bp := by omega
  have lbr : w.heap.size ≤ br := by omega
  have nbpbr : bp ≠ br := by omega
  rw [ebr] at gbr ⊢
  rw [ebp] at gbp ⊢
  clear ebp ebr
  have d1 : X.cell? ⟨bp, 1, none⟩ = some (.slice pm.p p.cls.length pm.pc) := gbp.cell 1
  have hXP : Hid (PatM X p pm) := HP.out.then_ HB
  have HBX := Lib.hid HB
  have lX := HB.size
  have lp := gbp.lt
  have lr := gbr.lt
  clear HB
  go_upto_region 2 with (go_at_call 39; (with_reducible refine (clone_int pm.p pm.pc p.cls X hXP.out.n hXP.out.s hXP.out.c).mono ?_); rintro e w1 ⟨⟨v1, rfl, hO1⟩, hb1⟩; obtain ⟨A1, c1, rfl, hc1, _⟩ := hO1.seg eI_len; have e1 : w1.cell? ⟨bp, 1, none⟩ = some (.slice pm.p p.cls.length pm.pc) := (gbp.then_ hb1).cell 1; have f1 : w1.frozen? ⟨bp, 1, none⟩ = false := (gbp.then_ hb1).frozen 1)
  refine name_wp ?_
  intro V1 hV1
  have gp1 : Blk V1 bp 49 (pL p ⟨A1, c1, pm.A, pm.cap⟩) := by rw [hV1]; exact (gbp.then_ hb1).set_ 1 _
  have gr1 : Blk V1 br 49 pZ.toArray := by rw [hV1]; exact (gbr.then_ hb1).far (by simp; omega) _
  have HO1 : Hid (Own V1 X.heap.size 3 1 eI (.slice A1 p.cls.length c1) (updT (renI n k) p.cls 0)) := by rw [hV1, updT_zero]; exact hO1.setBelow (p := ⟨bp, 1, none⟩) lp _
  have HB1 : Hid (Below w.heap.size w V1) := by rw [hV1]; exact (below_then HBX.out hb1).setCell (p := ⟨bp, 1, none⟩) lbp _
  have lV1 : X.heap.size ≤ V1.heap.size := by rw [hV1]; have := hb1.size; simpa using this
  clear hV1 hO1 hb1 gbp gbr d1 e1 f1 HBX
  have d1 : V1.cell? ⟨bp, 1, none⟩ = some (.slice A1 p.cls.length c1) := gp1.cell 1
  go_upto_region 3 with (fail)
  have hGP := Lib.hid gp1
  have hGR := Lib.hid gr1
  clear d1 gp1 gr1
  go_loopw [18] (fun y WR => ∃ (i : Nat), i ≤ p.cls.length ∧ y = .int .i64 i ∧ Hid (Own WR X.heap.size 3 1 eI (.slice A1 p.cls.length c1) (updT (renI n k) p.cls i)) ∧ Hid (Blk WR bp 49 (pL p ⟨A1, c1, pm.A, pm.cap⟩)) ∧ Hid (Blk WR br 49 pZ.toArray) ∧ Hid (Below w.heap.size w WR) ∧ Hid (X.heap.size ≤ WR.heap.size)) (fun y _ => 2000000 - (intOf y).toNat)
  case atStart => exact ⟨0, by omega, rfl, HO1, hGP, hGR, HB1, lV1⟩
  case round =>
    clear HO1 hGP hGR HB1 lV1
    obtain ⟨i, hi', rfl, hO, hP, hR, hB, hS⟩ := hrel
    by_cases hlt : i < p.cls.length
    · have tn : decide ((i : Int) < (p.cls.length : Int)) = true := decide_eq_true (by omega)
      obtain ⟨g, rfl⟩ := own_some hO.out (by omega)
      obtain ⟨x, hx⟩ : ∃ x, p.cls[i]? = some x := ⟨_, List.getElem?_eq_getElem hlt⟩
      have hxl := H1.out x (List.mem_of_getElem? hx)
      have hget := updT_get (renI n k) hx
      obtain ⟨z1, z2⟩ := hO.out.getAt eI_len (updT_len _ _ _) hget (j := 0) (by omega)
      have c0 : wr.cell? ⟨g, i, none⟩ = some (.int .i64 x) := by simpa [eI] using z1
      have f0 : wr.frozen? ⟨g, i, none⟩ = false := by simpa using z2
      have hix := fun W => idx_at (t := 22) (size := 1) (cap := c1) (len := p.cls.length) (A := some ⟨g, 0, none⟩) rfl hlt (by kernel_rfl) (fun W => by kernel_rfl) W
      simp only [Nat.mul_one, Nat.zero_add] at hix
      have k1 : wr.cell? ⟨bp, 1, none⟩ = some (.slice (some ⟨g, 0, none⟩) p.cls.length c1) := hP.out.cell 1
      have HX := Lib.hid hx
      have lg := hO.out.lt_
      clear z1 z2 hget hx
      by_cases hge : (n : Int) ≤ x
      · have t1 : decide ((n : Int) ≤ x) = true := decide_eq_true hge
        have hw : IntKind.i64.wrap (x + (k : Int)) = x + (k : Int) := by rw [IntKind.wrap_i64]; omega
        have hr : Hid (renI n k x = x + (k : Int)) := by unfold Hid renI; rw [if_pos hge]
        have HN : Hid (Own (wr.setCell ⟨g, i, none⟩ (.int .i64 (x + (k : Int)))) X.heap.size 3 1 eI (.slice (some ⟨g, 0, none⟩) p.cls.length c1) (updT (renI n k) p.cls (i + 1))) := by
          unfold Hid
          rw [updT_succ _ HX.out, hr.out]
          have h3 := hO.out.setAt eI_len (updT_len _ _ _) (updT_get (renI n k) HX.out) (j := 0) (y := x + (k : Int)) (u := .int .i64 (x + (k : Int))) (by omega) rfl
          simpa using h3
        clear hge hxl
        go_wp2
        go_roundw
        case rel => exact ⟨i + 1, by omega, by simp, HN, hP.out.far (by simp; omega) _, hR.out.far (by simp; omega) _, hB.out.setCell (p := ⟨g, i, none⟩) (show _ ≤ g by omega) _, by unfold Hid; simpa using hS.out⟩
        case measure => simp [intOf]; omega
      · have t1 : decide ((n : Int) ≤ x) = false := decide_eq_false hge
        have HN : Hid (Own wr X.heap.size 3 1 eI (.slice (some ⟨g, 0, none⟩) p.cls.length c1) (updT (renI n k) p.cls (i + 1))) := by
          unfold Hid
          rw [updT_succ _ HX.out, show renI n k x = x by unfold renI; rw [if_neg hge], set_same (updT_get (renI n k) HX.out)]
          exact hO.out
        clear hge hxl
        go_wp2
        go_roundw
        case rel => exact ⟨i + 1, by omega, by simp, HN, hP, hR, hB, hS⟩
        case measure => simp [intOf]; omega
    · have tn : decide ((i : Int) < (p.cls.length : Int)) = false := decide_eq_false (by omega)
      obtain rfl : i = p.cls.length := by omega
      have hO2 : Hid (Own wr X.heap.size 3 1 eI (.slice A1 p.cls.length c1) (p.cls.map (renI n k))) := by unfold Hid; rw [← updT_all]; exact hO.out
      have gp2 := hP.out
      have gr2 := hR.out
      have hWP : Hid (PatM wr p pm) := HP.out.then_ hB.out
      have lp2 := gp2.lt
      have lr2 := gr2.lt
      have lS2 : X.heap.size ≤ wr.heap.size := hS.out
      have d6 : wr.cell? ⟨bp, 6, none⟩ = some (.slice pm.A p.new.start.length pm.cap) := gp2.cell 6
      clear hO hP hR hS
      go_upto_region 9 with (go_at_call 49; (with_reducible refine (clone_con pm.A pm.cap p.new.start wr ns hWP.out.k.s hWP.out.k.c).mono ?_); rintro e w2 ⟨⟨v2, rfl, hO3⟩, hb2⟩; obtain ⟨A2, c2, rfl, hc2, _⟩ := hO3.seg eS_len; have e1 : w2.cell? ⟨bp, 6, none⟩ = some (.slice pm.A p.new.start.length pm.cap) := (gp2.then_ hb2).cell 6; have f1 : w2.frozen? ⟨bp, 6, none⟩ = false := (gp2.then_ hb2).frozen 6)
      refine name_wp ?_
      intro V2 hV2
      have gp3 : Hid (Blk V2 bp 49 (pL p ⟨A1, c1, A2, c2⟩)) := by rw [hV2]; exact (gp2.then_ hb2).set_ 6 _
      have gr3 : Hid (Blk V2 br 49 pZ.toArray) := by rw [hV2]; exact (gr2.then_ hb2).far (by simp; omega) _
      have HO4 : Hid (Own V2 X.heap.size 3 1 eI (.slice A1 p.cls.length c1) (p.cls.map (renI n k))) := by rw [hV2]; exact (hO2.out.below hb2).setBelow (p := ⟨bp, 6, none⟩) lp _
      have HO5 : Hid (Own V2 wr.heap.size 77 2 eS (.slice A2 p.new.start.length c2) (updT (renS n k) p.new.start 0)) := by rw [hV2, updT_zero]; exact hO3.setBelow (p := ⟨bp, 6, none⟩) lp2 _
      have HB2 : Hid (Below w.heap.size w V2) := by rw [hV2]; exact (below_then hB.out hb2).setCell (p := ⟨bp, 6, none⟩) lbp _
      have lV2 : wr.heap.size ≤ V2.heap.size := by rw [hV2]; have := hb2.size; simpa using this
      obtain ⟨B2, eB2⟩ : ∃ b, wr.heap.size = b := ⟨_, rfl⟩
      rw [eB2] at HO5 lV2 lp2 lr2 lS2
      have d6' : V2.cell? ⟨bp, 6, none⟩ = some (.slice A2 p.new.start.length c2) := gp3.out.cell 6
      clear hV2 hO3 hb2 gp2 gr2 d6 e1 f1 hB hO2 hWP eB2
      go_upto_region 10 with (fail)
      clear d6'
      go_loopw [45] (fun y WR => ∃ (i : Nat), i ≤ p.new.start.length ∧ y = .int .i64 i ∧ Hid (Own WR B2 77 2 eS (.slice A2 p.new.start.length c2) (updT (renS n k) p.new.start i)) ∧ Hid (Own WR X.heap.size 3 1 eI (.slice A1 p.cls.length c1) (p.cls.map (renI n k))) ∧ Hid (Blk WR bp 49 (pL p ⟨A1, c1, A2, c2⟩)) ∧ Hid (Blk WR br 49 pZ.toArray) ∧ Hid (Below w.heap.size w WR) ∧ Hid (B2 ≤ WR.heap.size)) (fun y _ => 2000000 - (intOf y).toNat)
      case atStart => exact ⟨0, by omega, rfl, HO5, HO4, gp3, gr3, HB2, lV2⟩
      case round =>
        clear HO5 HO4 gp3 gr3 HB2 lV2
        obtain ⟨i, hi', rfl, hO, hO7, hP, hR, hB, hS⟩ := hrel
        by_cases hlt : i < p.new.start.length
        · have tn : decide ((i : Int) < (p.new.start.length : Int)) = true := decide_eq_true (by omega)
          obtain ⟨g, rfl⟩ := own_some hO.out (by omega)
          obtain ⟨s, hx⟩ : ∃ s, p.new.start[i]? = some s := ⟨_, List.getElem?_eq_getElem hlt⟩
          have hxl := H2.out s (List.mem_of_getElem? hx)
          have hget := updT_get (renS n k) hx
          obtain ⟨z1, z2⟩ := hO.out.getAt eS_len (updT_len _ _ _) hget (j := 0) (by omega)
          obtain ⟨z3, z4⟩ := hO.out.getAt eS_len (updT_len _ _ _) hget (j := 1) (by omega)
          have hrg : wr.rangeAt g (i * 2) (sL s) := fun j v hv => by
            match j, hv with
            | 0, hv => rw [z1]; exact hv
            | 1, hv => rw [z3]; exact hv
            | j + 2, hv => simp at hv
          have hix := fun W => idx_at (t := 43) (size := 2) (cap := c2) (len := p.new.start.length) (A := some ⟨g, 0, none⟩) rfl hlt (by kernel_rfl) (fun W => by kernel_rfl) W
          simp only [Nat.zero_add] at hix
          have HX := Lib.hid hx
          have lg := hO.out.lt_
          have f0' : Hid (wr.frozen? ⟨g, i * 2, none⟩ = false) := by unfold Hid; simpa using z2
          have c0' : Hid (wr.cell? ⟨g, i * 2, none⟩ = some (.int .i64 s.1)) := by unfold Hid; simpa [eS] using z1
          clear z1 z2 z3 z4 hget hx
          go_upto_region 12 with (refine wpList_elem4 77 elS _ _ _ _ _ rfl rfl rfl rfl rfl rfl rfl rfl rfl rfl rfl rfl g _ rfl (sL s) rfl hrg (by simp [Value.oneCell']) (by decide) (by decide) (by decide) (by simp) (by simp) (.int .i64 (i : Nat)) rfl ?_; simp only [Act.put, List.setIfInBounds_toArray, List.set_cons_succ, List.set_cons_zero])
          refine name_wp ?_
          intro Y hY
          have gx : Blk Y wr.heap.size 77 (sL s).toArray := by rw [hY]; exact Blk.new _ _ _
          have hbY : Below wr.heap.size wr Y := by rw [hY]; exact wa1 _ _
          clear hY hrg
          have c0 : Y.cell? ⟨g, i * 2, none⟩ = some (.int .i64 s.1) := (hbY.cell (p := ⟨g, i * 2, none⟩) lg.2).trans c0'.out
          have f0 : Y.frozen? ⟨g, i * 2, none⟩ = false := (hbY.frozen (p := ⟨g, i * 2, none⟩) lg.2).trans f0'.out
          have k6 : Y.cell? ⟨bp, 6, none⟩ = some (.slice (some ⟨g, 0, none⟩) p.new.start.length c2) := (hP.out.then_ hbY).cell 6
          obtain ⟨bx, ex⟩ : ∃ b, wr.heap.size = b := ⟨_, rfl⟩
          rw [ex] at gx ⊢
          have x0 : Y.cell? ⟨bx, 0, none⟩ = some (.int .i64 s.1) := gx.cell 0
          have HOY : Hid (Own Y B2 77 2 eS (.slice (some ⟨g, 0, none⟩) p.new.start.length c2) (updT (renS n k) p.new.start i)) := hO.out.below hbY
          have HO7Y : Hid (Own Y X.heap.size 3 1 eI (.slice A1 p.cls.length c1) (p.cls.map (renI n k))) := hO7.out.below hbY
          have HPY : Hid (Blk Y bp 49 (pL p ⟨A1, c1, some ⟨g, 0, none⟩, c2⟩)) := hP.out.then_ hbY
          have HRY : Hid (Blk Y br 49 pZ.toArray) := hR.out.then_ hbY
          have HBY : Hid (Below w.heap.size w Y) := below_then hB.out hbY
          have HSY : Hid (B2 ≤ Y.heap.size) := by unfold Hid; have := hbY.size; have := hS.out; omega
          have hne1 : Hid (∀ k', (Value.slice A1 p.cls.length c1).ownBlock = some k' → k' ≠ g) := by
            intro k' hk' e
            have q1 := hO7.out
            have q2 := hO.out
            -- the two lists have elements of different types
            rcases q1.2 with ⟨h4, _⟩ | ⟨g4, cap4, cur4, hv4, _, hh4, _⟩
            · rw [h4] at hk'; cases hk'
            · rcases q2.2 with ⟨h5, _⟩ | ⟨g5, cap5, cur5, hv5, _, hh5, _⟩
              · cases h5
              · rw [hv4] at hk'
                cases hk'
                injection hv5 with h6 _ _
                injection h6 with h6
                injection h6 with h6 _ _
                have e4 : g4 = g := e
                rw [e4, h6, hh5] at hh4
                injection hh4 with hh4
                injection hh4 with _ h7
                exact absurd h7 (by decide)
          clear ex gx hO hO7 hP hR hB hS c0' f0' hbY
          by_cases hge : (n : Int) ≤ s.1
          · have t1 : decide ((n : Int) ≤ s.1) = true := decide_eq_true hge
            have hw : IntKind.i64.wrap (s.1 + (k : Int)) = s.1 + (k : Int) := by rw [IntKind.wrap_i64]; omega
            have hr : Hid (renI n k s.1 = s.1 + (k : Int)) := by unfold Hid renI; rw [if_pos hge]
            have HN : Hid (Own (Y.setCell ⟨g, i * 2, none⟩ (.int .i64 (s.1 + (k : Int)))) B2 77 2 eS (.slice (some ⟨g, 0, none⟩) p.new.start.length c2) (updT (renS n k) p.new.start (i + 1))) := by
              unfold Hid
              rw [updT_succ _ HX.out]
              have h3 := HOY.out.setAt eS_len (updT_len _ _ _) (updT_get (renS n k) HX.out) (j := 0) (y := renS n k s) (u := .int .i64 (s.1 + (k : Int))) (by omega) (by simp [eS, renS, hr.out])
              simpa using h3
            clear hge hxl
            go_wp2
            go_roundw
            case rel => exact ⟨i + 1, by omega, by simp, HN, HO7Y.out.setNe hne1.out _, HPY.out.far (by simp; omega) _, HRY.out.far (by simp; omega) _, HBY.out.setCell (p := ⟨g, i * 2, none⟩) (show _ ≤ g by omega) _, by unfold Hid; simpa using HSY.out⟩
            case measure => simp [intOf]; omega
          · have t1 : decide ((n : Int) ≤ s.1) = false := decide_eq_false hge
            have HN : Hid (Own Y B2 77 2 eS (.slice (some ⟨g, 0, none⟩) p.new.start.length c2) (updT (renS n k) p.new.start (i + 1))) := by
              unfold Hid
              rw [updT_succ _ HX.out, show renS n k s = s by unfold renS renI; rw [if_neg hge], set_same (updT_get (renS n k) HX.out)]
              exact HOY.out
            clear hge hxl
            go_wp2
            go_roundw
            case rel => exact ⟨i + 1, by omega, by simp, HN, HO7Y, HPY, HRY, HBY, HSY⟩
            case measure => simp [intOf]; omega
        · have tn : decide ((i : Int) < (p.new.start.length : Int)) = false := decide_eq_false (by omega)
          obtain rfl : i = p.new.start.length := by omega
          have hO8 : Hid (Own wr B2 77 2 eS (.slice A2 p.new.start.length c2) (p.new.start.map (renS n k))) := by unfold Hid; rw [← updT_all]; exact hO.out
          have gp4 := hP.out
          have gr4 := hR.out
          clear hO hP hR
          go_wp2_with (first | (refine wpList_row_w (by rfl) 49 _ rfl bp rfl 49 _ gp4 ⟨_, Try.underlying49⟩ (by kernel_rfl) ?_; simp only [Act.put, List.setIfInBounds_toArray, List.set_cons_succ, List.set_cons_zero]) | (refine wpList_store_all rfl 49 _ _ rfl br 49 [] pZ [] (pL p ⟨A1, c1, A2, c2⟩).toList rfl rfl gr4 rfl (by kernel_rfl) (by simp [Value.oneCell']) ?_; intro we ge ue))
          have epl : pL (p.ren n k) ⟨A1, c1, A2, c2⟩ = pL p ⟨A1, c1, A2, c2⟩ := by rw [ren_eq]; simp
          have o1 := hO7.out.upd ue (own_ne hO7.out lr)
          have o2 := hO8.out.upd ue (own_ne hO8.out lr2)
          refine bodyPost_ret (ret_row rfl rfl ge ⟨_, Try.underlying49⟩ (by kernel_rfl)) rfl ⟨⟨⟨A1, c1, A2, c2⟩, by rw [epl]; rfl, ⟨?_, ?_, ?_, ⟨?_, HP.out.k.v, ?_, ?_⟩⟩, ⟨own_segP (n := p.cls.length) o1 (by omega), own_segP (n := p.new.start.length) o2 (by omega)⟩, by rw [ren_eq]; exact ⟨by simpa using o1.more (Nat.zero_le _), by simpa using o2.more (Nat.zero_le _)⟩⟩, hB.out.trans (ue.b _ lbr)⟩
          · exact o1.segA eI_len
          · rw [ren_eq]; simpa using nc
          · rw [ren_eq]; simpa using hc1
          · exact o2.segA eS_len
          · rw [ren_eq]; simpa using ns
          · rw [ren_eq]; simpa using hc2
end Go.Proofs.Ytcplneglfbdooaa
