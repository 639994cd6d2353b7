/- Contracts of functions and plain laws, joined: Kbk, Opm. -/
import Derived.Test.YtcplneglfbdooaaMb12
import Derived.Test.YtcplneglfbdooaaMb10
import Derived.Test.YtcplneglfbdooaaRows
import Derived.Test.YtcplneglfbdooaaChecked
import Derived.ProofKit
import Derived.Deep.Slices
import Derived.Deep.Strs
import Derived.Below
import Derived.ChangeSame
import Derived.Carry
import Derived.OpenShut
import Derived.SizedLaws
import Derived.LaidMore
import Derived.Lay
import Derived.Stop.Joined
/- Lists of patches in memory; the walk of merge.applied. -/
namespace Go.Proofs.Ytcplneglfbdooaa
open Go.RowKit

/-- a patch and where its lists lie -/
structure Pk where
  p : Pat
  m : Pm
abbrev eP (x : Pk) : List Value := [.int .i64 x.p.kind, .slice x.m.p x.p.cls.length x.m.pc, .int .i64 x.p.new.kind, .int .i64 x.p.new.role, .int .i64 x.p.new.act, .int .i64 x.p.new.need, .slice x.m.A x.p.new.start.length x.m.cap, .int .i64 x.p.new.aft, .int .i64 x.p.new.grace, .bool x.p.new.bus, .bool x.p.new.fin, .int .i64 x.p.new.pause, .int .i64 x.p.new.resume, .int .i64 x.p.new.v.1, .int .i64 x.p.new.v.2, .int .i64 x.p.new.unit, .int .i64 x.p.new.to_, .bool x.p.new.waived, .int .i64 x.p.days]
theorem eP_len (x : Pk) : (eP x).length = 19 := rfl
theorem eP_arr (x : Pk) : (eP x).toArray = pL x.p x.m := rfl
theorem one_pat (y : Pk) : ∀ u ∈ eP y, u.oneCell' = true := by
  intro u hu
  simp only [List.mem_cons, List.not_mem_nil, or_false] at hu
  rcases hu with rfl | rfl | rfl | rfl | rfl | rfl | rfl | rfl | rfl | rfl | rfl | rfl | rfl | rfl | rfl | rfl | rfl | rfl | rfl <;> rfl
theorem el19 : ElT Try.prog 49 19 := ⟨⟨_, Try.underlying49⟩, by kernel_rfl, ⟨.agg #[.int .i64 0, .slice none 0 0, .int .i64 0, .int .i64 0, .int .i64 0, .int .i64 0, .slice none 0 0, .int .i64 0, .int .i64 0, .bool false, .bool false, .int .i64 0, .int .i64 0, .int .i64 0, .int .i64 0, .int .i64 0, .int .i64 0, .bool false, .int .i64 0], rfl, fun w => by kernel_rfl⟩⟩
/-- a list of patches lies in memory -/
structure Pats (w : World) (A : Option Addr) (L : List Pk) : Prop where
  s : Seg w w.heap.size 19 eP A L
  t : ∀ x ∈ L, PatM w x.p x.m
  n : L.length ≤ 1000000
theorem Pats.then_ {w w' : World} {A : Option Addr} {L : List Pk} (h : Pats w A L) (hb : Below w.heap.size w w') : Pats w' A L := ⟨(h.s.below hb).more hb.size, fun x hx => (h.t x hx).then_ hb, h.n⟩
abbrev pats (L : List Pk) : List Pat := L.map (·.p)
/-- what applied gives besides its error -/
def Con.alC (c : Con) (l : List Pat) : Con := if (c.al l).1 = 0 then (c.al l).2 else Con.zero
set_option maxRecDepth 100000 in
set_option maxHeartbeats 6400000 in
theorem applied_any (c : Con) (m : Cm) (L : List Pk) (A : Option Addr) (cap : Nat) (w : World) (h : Cont w c m) (hL : Pats w A L) :
    Calls Try.prog 29 #[.agg (coA c m), .slice A L.length cap] w fun e w' => (∃ m', e = .returned (.tuple #[.agg (coA (c.alC (pats L)) m'), .int .i64 (c.al (pats L)).1]) ∧ Cont w' (c.alC (pats L)) m' ∧ ∀ P : Nat → Prop, Off P c m → (∀ b, w.heap.size ≤ b → P b) → Off P (c.alC (pats L)) m') ∧ Below w.heap.size w w' := by
  have HL := Lib.hid hL
  have HC := Lib.hid h
  have nL := hL.n
  clear hL h
  go_enter Try.func29, Try.ntmps29
  go_upto_region 1 with (fail)
  refine name_wp ?_
  intro X hX
  have gbc : Blk X w.heap.size 27 (coA c m) := by rw [hX]; exact (blk_at (by simp)).alloc _
  have gbr : Blk X (w.heap.size + 1) 27 (coZ) := by rw [hX]; exact blk_at (by simp)
  have HB : Below w.heap.size w X := by rw [hX]; (repeat (first | with_reducible assumption | with_reducible exact Below.refl _ _ | with_reducible refine below_drewN ?_ _ | with_reducible refine Below.drew ?_ | with_reducible refine below_alloc ?_ _ | with_reducible refine Below.setCell ?_ (by first | omega | (simp; done) | (simp; omega)) _ | with_reducible refine below_then ?_ (by with_reducible assumption) | (refine below_then (a := World.drew _) ?_ (by with_reducible assumption))))
  clear hX
  obtain ⟨br, ebr⟩ : ∃ b, w.heap.size + 1 = b := ⟨_, rfl⟩
  obtain ⟨bc, ebc⟩ : ∃ b, w.heap.size = b := ⟨_, rfl⟩
  have lbc : w.heap.size ≤ bc := by omega
  have lbr : w.heap.size ≤ br := by omega
  have nbcbr : bc ≠ br := by omega
  rw [ebr] at gbr ⊢
  rw [ebc] at gbc ⊢
  clear ebc ebr
  have hCX : Hid (Cont X c m) := HC.out.then_ HB
  have hz := Lib.hid HB
  have lXc := gbc.lt
  have lXr := gbr.lt
  have lX := HB.size
  have HOc := Lib.hid HC.out.off
  clear HC HB
  go_upto_region 2 with (fail)
  go_loopw [12] (fun y WR => ∃ (i : Nat) (ci : Con) (mi : Cm), i ≤ L.length ∧ y = .int .i64 i ∧ Hid (Blk WR bc 27 (coA ci mi)) ∧ Hid (Cont WR ci mi) ∧ Hid (Blk WR br 27 coZ) ∧ Hid (c.al (pats L) = ci.al (pats (L.drop i))) ∧ Hid (Below w.heap.size w WR) ∧ Hid (X.heap.size ≤ WR.heap.size) ∧ Hid (∀ P : Nat → Prop, Off P c m → (∀ b, X.heap.size ≤ b → P b) → Off P ci mi)) (fun y _ => 2000000 - (intOf y).toNat)
  case atStart => exact ⟨0, c, m, by omega, rfl, gbc, hCX, gbr, rfl, hz, Nat.le_refl _, fun P h _ => h⟩
  case round =>
    clear gbc gbr hCX hz
    obtain ⟨i, ci, mi, hi', rfl, hbc, hci, hbr, hal, hB, hsX, hoff⟩ := hrel
    by_cases hlt : i < L.length
    · have tn : decide ((i : Int) < (L.length : Int)) = true := decide_eq_true (by omega)
      obtain ⟨x, hx⟩ : ∃ x, L[i]? = some x := ⟨_, List.getElem?_eq_getElem hlt⟩
      have hdr : L.drop i = x :: L.drop (i + 1) := by
        rw [List.drop_eq_getElem_cons hlt]
        rw [List.getElem?_eq_getElem hlt] at hx
        injection hx with hx
        rw [hx]
      have hLw := HL.out.then_ hB.out
      obtain ⟨b0, o0, eA0, hb0, hc0⟩ := segAt hLw.s hx
      have hrg : wr.rangeAt b0 (o0 + i * 19) (eP x) := fun j v hv => hc0 j v hv
      have hix := fun W => idx_at (t := 28) (size := 19) (cap := cap) (len := L.length) eA0 hlt (by kernel_rfl) (fun W => by kernel_rfl) W
      have hpx : Hid (PatM wr x.p x.m) := hLw.t x (List.mem_of_getElem? hx)
      have HAL : Hid (c.al (pats L) = ci.al (x.p :: pats (L.drop (i + 1)))) := by unfold Hid; rw [hal.out, hdr]; rfl
      have hXw : X.heap.size ≤ wr.heap.size := hsX.out
      have hB1 := hB.out
      have lbr1 := hbr.out.lt
      have lbc1 := hbc.out.lt
      clear hc0 hx hdr hal eA0 hLw
      go_upto_region 4 with (refine wpList_elem 49 el19 _ _ _ rfl rfl rfl rfl rfl rfl rfl rfl rfl b0 _ rfl (eP x) rfl hrg (by simp [Value.oneCell']) (by decide) (by simp) (by simp) ?_; simp only [Act.put, List.setIfInBounds_toArray, List.set_cons_succ, List.set_cons_zero])
      refine name_wp ?_
      intro Y hY
      have gx : Blk Y wr.heap.size 49 (pL x.p x.m) := by rw [hY]; exact Blk.new _ _ _
      have hbY : Below wr.heap.size wr Y := by rw [hY]; exact wa1 _ _
      clear hY hrg hix
      obtain ⟨bx, ex⟩ : ∃ b, wr.heap.size = b := ⟨_, rfl⟩
      have gc2 := hbc.out.then_ hbY
      have gr2 := hbr.out.then_ hbY
      have HC2 := Lib.hid (hci.out.then_ hbY)
      have HP2 := Lib.hid (hpx.out.then_ hbY)
      have HB2 := Lib.hid (below_then hB.out hbY)
      have lY := hbY.size
      rw [ex] at gx lY lbr1 lbc1 hXw ⊢
      clear hbc hbr hci hpx hbY ex hB hB1
      have HAP := Lib.hid (apply_any ci mi x.p x.m Y HC2.out HP2.out)
      go_upto_region 5 with (first | (refine wpList_row_w (by rfl) 27 _ rfl bc rfl 27 _ gc2 ⟨_, Try.underlying27⟩ (by kernel_rfl) ?_; simp only [Act.put, List.setIfInBounds_toArray, List.set_cons_succ, List.set_cons_zero]) | (refine wpList_row_w (by rfl) 49 _ rfl bx rfl 49 _ gx ⟨_, Try.underlying49⟩ (by kernel_rfl) ?_; simp only [Act.put, List.setIfInBounds_toArray, List.set_cons_succ, List.set_cons_zero]) | (go_at_call 17; (with_reducible refine HAP.out.mono ?_); rintro e w1 ⟨⟨m1, rfl, hc1, ho1⟩, hb1⟩) | (refine wpList_store_all rfl 27 _ _ rfl w1.heap.size 27 [] coZ.toList [] (coA (ci.apC x.p) m1).toList rfl rfl (Blk.new _ _ _) rfl (by kernel_rfl) (by simp [Value.oneCell']) ?_; intro w2 g2 U2))
      have hbw : Below Y.heap.size Y w2 := (below_alloc hb1 _).trans (U2.b _ hb1.size)
      have gc3 := gc2.then_ hbw
      have gr3 := gr2.then_ hbw
      have HB3 := Lib.hid (below_then HB2.out hbw)
      have HO1 : Hid (Off (X.heap.size ≤ ·) (ci.apC x.p) m1) := ho1.mono fun b hb => by omega
      have HC3 : Hid (Cont w2 (ci.apC x.p) m1) := hc1.then_ ((wa1 _ _).trans (U2.b _ (Nat.le_refl _)))
      have hXw2 : X.heap.size ≤ w2.heap.size := by have := hbw.size; omega
      have l3 := hb1.size
      obtain ⟨b3, e3⟩ : ∃ b, w1.heap.size = b := ⟨_, rfl⟩
      rw [e3] at g2 l3 ⊢
      have n3r : br ≠ b3 := by omega
      have n3c : bc ≠ b3 := by omega
      clear gc2 gr2 gx HB2 HC2 HP2 HAP hb1 hc1 ho1 U2 e3
      by_cases hE : ci.apE x.p = 0
      · have t0 : (ci.apE x.p != 0) = false := by rw [hE]; rfl
        have HAL2 : Hid (c.al (pats L) = (ci.apC x.p).al (pats (L.drop (i + 1)))) := by unfold Hid Con.apC; rw [if_pos hE, HAL.out, al_yes _ hE]
        clear HAL hE
        obtain ⟨c3, hc3⟩ : ∃ c3, ci.apC x.p = c3 := ⟨_, rfl⟩
        rw [hc3] at HC3 HAL2 g2 HO1
        clear hc3
        go_wp2_with (first | (refine wpList_row_w (by rfl) 27 _ rfl b3 rfl 27 _ g2 ⟨_, Try.underlying27⟩ (by kernel_rfl) ?_; simp only [Act.put, List.setIfInBounds_toArray, List.set_cons_succ, List.set_cons_zero]) | (refine wpList_store_all rfl 27 _ _ rfl bc 27 [] (coA ci mi).toList [] (coA c3 m1).toList rfl rfl gc3 rfl (by kernel_rfl) (by simp [Value.oneCell']) ?_; intro w4 g4 U4))
        go_roundw
        case rel => exact ⟨i + 1, c3, m1, by omega, by simp, g4, HC3.out.upd U4 (HO1.out.mono fun b hb e => by omega), gr3.upd U4 (by omega), HAL2, HB3.out.trans (U4.b _ lbc), by unfold Hid; rw [U4.s]; omega, fun P _ h => HO1.out.mono h⟩
        case measure => simp [intOf]; omega
      · have t0 : (ci.apE x.p != 0) = true := by simpa using hE
        have HE : Hid ((c.al (pats L)).1 = ci.apE x.p ∧ c.alC (pats L) = Con.zero) := by
          unfold Hid Con.alC
          rw [HAL.out, al_no _ hE, if_neg hE]
          exact ⟨rfl, rfl⟩
        clear HAL hE
        go_wp2_with (refine wpList_store_all rfl 27 _ _ rfl br 27 [] coZ.toList [] coZ.toList rfl rfl gr3 rfl (by kernel_rfl) (by simp [Value.oneCell']) ?_; intro we ge ue)
        refine bodyPost_ret (ret_row2 rfl rfl ge ⟨_, Try.underlying27⟩ (by kernel_rfl)) rfl ?_
        exact ⟨⟨mZ, by rw [HE.out.1, HE.out.2]; rfl, by rw [HE.out.2]; exact cont_zero _, fun P _ _ => by rw [HE.out.2]; exact off_zero _⟩, HB3.out.trans (ue.b _ lbr)⟩
    · have tn : decide ((i : Int) < (L.length : Int)) = false := decide_eq_false (by omega)
      obtain rfl : i = L.length := by omega
      have HAL : Hid ((c.al (pats L)).1 = 0 ∧ c.alC (pats L) = ci) := by
        unfold Hid Con.alC
        rw [hal.out, List.drop_length]
        exact ⟨rfl, rfl⟩
      have gc3 := hbc.out
      have gr3 := hbr.out
      clear hbc hbr hal
      go_wp2_with (first | (refine wpList_row_w (by rfl) 27 _ rfl bc rfl 27 _ gc3 ⟨_, Try.underlying27⟩ (by kernel_rfl) ?_; simp only [Act.put, List.setIfInBounds_toArray, List.set_cons_succ, List.set_cons_zero]) | (refine wpList_store_all rfl 27 _ _ rfl br 27 [] coZ.toList [] (coA ci mi).toList rfl rfl gr3 rfl (by kernel_rfl) (by simp [Value.oneCell']) ?_; intro we ge ue))
      refine bodyPost_ret (ret_row2 rfl rfl ge ⟨_, Try.underlying27⟩ (by kernel_rfl)) rfl ?_
      exact ⟨⟨mi, by rw [HAL.out.1, HAL.out.2]; rfl, by rw [HAL.out.2]; exact hci.out.upd ue (hoff.out (· ≠ br) (HOc.out.mono fun b hb e => by omega) fun b hb e => by omega), fun P h1 h2 => by rw [HAL.out.2]; exact hoff.out P h1 fun b hb => h2 b (by omega)⟩, hB.out.trans (ue.b _ lbr)⟩
end Go.Proofs.Ytcplneglfbdooaa
/- Contracts and lists of patches as arguments, opened. -/
namespace Go.Proofs.Ytcplneglfbdooaa
open Go.ChangeShapes Go.WideShapes Go.ChangeAt Go.RowKit Go.Deep

theorem Try.own : ownKnob Try.prog.godebug = none := by kernel_rfl
theorem Try.laidOut : laidOutB Try.prog = true := by kernel_rfl
theorem list_of {α : Type} {P : Nat → α → Prop} : ∀ n, (∀ i, i < n → ∃ x, P i x) → ∃ l : List α, l.length = n ∧ ∀ k x, l[k]? = some x → P k x
  | 0, _ => ⟨[], rfl, fun k x h => by simp at h⟩
  | n + 1, h => by
    obtain ⟨l, hl, hP⟩ := list_of n fun i hi => h i (by omega)
    obtain ⟨x, hx⟩ := h n (by omega)
    refine ⟨l ++ [x], by simp [hl], fun k y hy => ?_⟩
    rcases Nat.lt_or_ge k n with hk | hk
    · rw [List.getElem?_append_left (by omega)] at hy; exact hP k y hy
    · rw [List.getElem?_append_right (by omega)] at hy
      have : k = n := by
        have := (List.getElem?_eq_some_iff.1 hy).1
        simp at this; omega
      subst this
      simp [hl] at hy
      subst hy; exact hx
/-- what an opened slice gives -/
def LstM {α : Type} (w : World) (en : α → List Value) (size : Nat) (fit : α → Prop) (A : Option Addr) (l : List α) (c : Nat) : Prop := l.length ≤ c ∧ (c ≤ 9223372036854775807 ∧ (A = none → l = [] ∧ c = 0)) ∧ (∀ y ∈ l, fit y) ∧ Seg w w.heap.size size en A l
/-- a slice, opened: its elements are of 'size' cells each, which read as 'en' says -/
theorem open_lstm {α : Type} (en : α → List Value) (size : Nat) (fit : α → Prop) (he : ∀ y, (en y).length = size) (hs0 : 0 < size) {H : Type} {enc : TypeId × Value → H} {w : World} {spare : Nat → Bool} {held : Bool} {fuel : Nat} {t e : TypeId} {c : Value} {x : DataW H × List MemPlace}
    (ht : Try.prog.underlying t = some (.slice e)) (hc : Try.prog.cellsOf e = size)
    (hel : ∀ (fuel : Nat) (cs : List Value) (x : DataW H × List MemPlace), DataW.trod enc Try.prog w 0 spare held fuel e cs = some x → ∃ y, cs = en y ∧ fit y)
    (hf : DataW.trod enc Try.prog w 0 spare held fuel t [c] = some x) :
    ∃ (A : Option Addr) (l : List α) (cap : Nat), [c] = [.slice A l.length cap] ∧ LstM w en size fit A l cap := by
  rcases open_slice ht hf with ⟨h, _⟩ | ⟨a, len', cap', m, n, D, Pl, h, hb, hl, hm, hmm, hx, hi⟩
  · simp at h
    subst h
    exact ⟨none, [], 0, rfl, Nat.le_refl _, ⟨by decide, fun _ => ⟨rfl, rfl⟩⟩, by simp, Seg.nil _ _ _ _ _⟩
  · simp at h
    subst h
    have hlen : len' ≤ m := by rw [hmm]; split <;> omega
    rw [hc] at hi
    have h1 : ∀ i, i < len' → ∃ y : α, fit y ∧ ∀ j u, (en y)[j]? = some u → w.cell? (a.add (i * size + j)) = some u := by
      intro i hil
      obtain ⟨cs', hcc, htt⟩ := hi i (by omega)
      obtain ⟨y, rfl, hy⟩ := hel _ _ _ htt
      obtain ⟨_, _, hat⟩ := World.cells?_some hcc
      refine ⟨y, hy, fun j u hu => ?_⟩
      have hj : j < size := by rw [← he y]; exact (List.getElem?_eq_some_iff.1 hu).1
      rw [← add_add, hat j hj, hu]
    obtain ⟨l, hll, hP⟩ := list_of len' h1
    subst hll
    refine ⟨some a, l, cap', rfl, hl, ⟨hm, by simp⟩, fun y hy => ?_, fun k y hk => ?_⟩
    · obtain ⟨k, hk, rfl⟩ := List.getElem_of_mem hy
      exact (hP k _ (List.getElem?_eq_getElem hk)).1
    · have hcs := (hP k y hk).2
      have z0 : ∃ u, (en y)[0]? = some u := ⟨_, List.getElem?_eq_getElem (by rw [he]; exact hs0)⟩
      obtain ⟨u0, hu0⟩ := z0
      have hk1 := hcs 0 u0 hu0
      obtain ⟨b, off, spot⟩ := a
      have hs : spot = none := by
        have hk0 : 0 < l.length := by have := (List.getElem?_eq_some_iff.1 hk).1; omega
        obtain ⟨y0, hy0⟩ : ∃ y, l[0]? = some y := ⟨_, List.getElem?_eq_getElem hk0⟩
        obtain ⟨u1, hu1⟩ : ∃ u, (en y0)[0]? = some u := ⟨_, List.getElem?_eq_getElem (by rw [he]; exact hs0)⟩
        have h2 := (hP 0 y0 hy0).2 0 u1 hu1
        simpa [Addr.add] using World.cell?_spot h2
      subst hs
      have norm : ∀ q v, w.cell? ((⟨b, off, none⟩ : Addr).add q) = some v → w.cell? ⟨b, off + q, none⟩ = some v := by
        intro q v h
        unfold Addr.add at h
        split at h
        · rename_i hz; subst hz; simpa using h
        · exact h
      refine ⟨b, off, rfl, block_lt_of_cell (norm _ _ hk1), fun j u hu => ?_⟩
      have := norm _ _ (hcs j u hu)
      simpa [Nat.add_assoc] using this
section
variable {H : Type} {enc : TypeId × Value → H} {w : World} {spare : Nat → Bool} {held : Bool} {fuel : Nat} {cs : List Value} {x : DataW H × List MemPlace}
theorem trod_i64 (h : DataW.trod enc Try.prog w 0 spare held fuel 3 cs = some x) : ∃ n : Int, cs = [.int .i64 n] ∧ I64 n := by
  obtain ⟨n, h1, _, h3⟩ := DataW.trod_int Try.underlying3 h
  exact ⟨n, h1, bounds_i64 h3⟩
theorem trod_bo (h : DataW.trod enc Try.prog w 0 spare held fuel 4 cs = some x) : ∃ b : Bool, cs = [.bool b] := by
  obtain ⟨b, e1, _⟩ := DataW.trod_bool Try.underlying4 h
  exact ⟨b, e1⟩
theorem trod_str (h : DataW.trod enc Try.prog w 0 spare held fuel 9 cs = some x) : ∃ s : ByteArray, cs = [.string s] := by
  obtain ⟨s, e1, _⟩ := DataW.trod_string Try.underlying9 h
  exact ⟨s, e1⟩
theorem cz0 : Try.prog.cellsOf 4 = 1 := by kernel_rfl
theorem cz1 : Try.prog.cellsOf 3 = 1 := by kernel_rfl
theorem cz2 : Try.prog.cellsOf 9 = 1 := by kernel_rfl
theorem cz3 : Try.prog.cellsOf 45 = 2 := by kernel_rfl
set_option maxRecDepth 100000 in
theorem trod_ra (h : DataW.trod enc Try.prog w 0 spare held fuel 45 cs = some x) : ∃ (a : Int) (b : Int), cs = [.int .i64 a, .int .i64 b] ∧ I64 a ∧ I64 b := by
  obtain ⟨xs, fu_, _, _, hl, hxl, hf⟩ := DataW.trod_struct Try.underlying45 h
  have h0 : DataW.trod enc Try.prog w 0 spare held fu_ 3 ((cs.drop 0).take (Try.prog.cellsOf 3)) = xs[0]? := hf 0 _ rfl
  rw [cz1] at h0
  have h1 : DataW.trod enc Try.prog w 0 spare held fu_ 3 ((cs.drop 1).take (Try.prog.cellsOf 3)) = xs[1]? := hf 1 _ rfl
  rw [cz1] at h1
  rw [cz3] at hl
  match cs, hl, xs, hxl with
  | [u0, u1], _, [y0, y1], _ =>
    replace h0 : DataW.trod enc Try.prog w 0 spare held fu_ 3 [u0] = some y0 := h0
    obtain ⟨a, q0, e0_0⟩ := trod_i64 h0
    cases q0
    replace h1 : DataW.trod enc Try.prog w 0 spare held fu_ 3 [u1] = some y1 := h1
    obtain ⟨b, q1, e1_0⟩ := trod_i64 h1
    cases q1
    exact ⟨a, b, rfl, e0_0, e1_0⟩
theorem cz4 : Try.prog.cellsOf 77 = 2 := by kernel_rfl
set_option maxRecDepth 100000 in
theorem trod_co (h : DataW.trod enc Try.prog w 0 spare held fuel 77 cs = some x) : ∃ (a : Int) (b : Int), cs = [.int .i64 a, .int .i64 b] ∧ I64 a ∧ I64 b := by
  obtain ⟨xs, fu_, _, _, hl, hxl, hf⟩ := DataW.trod_struct Try.underlying77 h
  have h0 : DataW.trod enc Try.prog w 0 spare held fu_ 3 ((cs.drop 0).take (Try.prog.cellsOf 3)) = xs[0]? := hf 0 _ rfl
  rw [cz1] at h0
  have h1 : DataW.trod enc Try.prog w 0 spare held fu_ 3 ((cs.drop 1).take (Try.prog.cellsOf 3)) = xs[1]? := hf 1 _ rfl
  rw [cz1] at h1
  rw [cz4] at hl
  match cs, hl, xs, hxl with
  | [u0, u1], _, [y0, y1], _ =>
    replace h0 : DataW.trod enc Try.prog w 0 spare held fu_ 3 [u0] = some y0 := h0
    obtain ⟨a, q0, e0_0⟩ := trod_i64 h0
    cases q0
    replace h1 : DataW.trod enc Try.prog w 0 spare held fu_ 3 [u1] = some y1 := h1
    obtain ⟨b, q1, e1_0⟩ := trod_i64 h1
    cases q1
    exact ⟨a, b, rfl, e0_0, e1_0⟩
theorem el_co (h : DataW.trod enc Try.prog w 0 spare held fuel 77 cs = some x) : ∃ y : Int × Int, cs = eS y ∧ True := by
  obtain ⟨a, b, rfl, _⟩ := trod_co h
  exact ⟨(a, b), rfl, trivial⟩
theorem cz5 : Try.prog.cellsOf 67 = 5 := by kernel_rfl
set_option maxRecDepth 100000 in
theorem trod_un (h : DataW.trod enc Try.prog w 0 spare held fuel 67 cs = some x) : ∃ (nm : ByteArray) (k : Int) (ba : Int) (f_a : Int) (f_b : Int), cs = [.string nm, .int .i64 k, .int .i64 ba, .int .i64 f_a, .int .i64 f_b] ∧ I64 k ∧ I64 ba ∧ I64 f_a ∧ I64 f_b := by
  obtain ⟨xs, fu_, _, _, hl, hxl, hf⟩ := DataW.trod_struct Try.underlying67 h
  have h0 : DataW.trod enc Try.prog w 0 spare held fu_ 9 ((cs.drop 0).take (Try.prog.cellsOf 9)) = xs[0]? := hf 0 _ rfl
  rw [cz2] at h0
  have h1 : DataW.trod enc Try.prog w 0 spare held fu_ 3 ((cs.drop 1).take (Try.prog.cellsOf 3)) = xs[1]? := hf 1 _ rfl
  rw [cz1] at h1
  have h2 : DataW.trod enc Try.prog w 0 spare held fu_ 3 ((cs.drop 2).take (Try.prog.cellsOf 3)) = xs[2]? := hf 2 _ rfl
  rw [cz1] at h2
  have h3 : DataW.trod enc Try.prog w 0 spare held fu_ 45 ((cs.drop 3).take (Try.prog.cellsOf 45)) = xs[3]? := hf 3 _ rfl
  rw [cz3] at h3
  rw [cz5] at hl
  match cs, hl, xs, hxl with
  | [u0, u1, u2, u3, u4], _, [y0, y1, y2, y3], _ =>
    replace h0 : DataW.trod enc Try.prog w 0 spare held fu_ 9 [u0] = some y0 := h0
    obtain ⟨nm, q0⟩ := trod_str h0
    cases q0
    replace h1 : DataW.trod enc Try.prog w 0 spare held fu_ 3 [u1] = some y1 := h1
    obtain ⟨k, q1, e1_0⟩ := trod_i64 h1
    cases q1
    replace h2 : DataW.trod enc Try.prog w 0 spare held fu_ 3 [u2] = some y2 := h2
    obtain ⟨ba, q2, e2_0⟩ := trod_i64 h2
    cases q2
    replace h3 : DataW.trod enc Try.prog w 0 spare held fu_ 45 [u3, u4] = some y3 := h3
    obtain ⟨f_a, f_b, q3, e3_0, e3_1⟩ := trod_ra h3
    cases q3
    exact ⟨nm, k, ba, f_a, f_b, rfl, e1_0, e2_0, e3_0, e3_1⟩
theorem el_un (h : DataW.trod enc Try.prog w 0 spare held fuel 67 cs = some x) : ∃ y : Uni, cs = eU y ∧ (I64 y.f.1 ∧ I64 y.f.2) := by
  obtain ⟨a, b, c, d, e, rfl, _, _, f1, f2⟩ := trod_un h
  exact ⟨⟨a, b, c, (d, e)⟩, rfl, f1, f2⟩
theorem cz6 : Try.prog.cellsOf 69 = 7 := by kernel_rfl
set_option maxRecDepth 100000 in
theorem trod_at (h : DataW.trod enc Try.prog w 0 spare held fuel 69 cs = some x) : ∃ (k : Int) (r : Int) (g : Int) (t : Int) (u : Int) (l_a : Int) (l_b : Int), cs = [.int .i64 k, .int .i64 r, .int .i64 g, .int .i64 t, .int .i64 u, .int .i64 l_a, .int .i64 l_b] ∧ I64 k ∧ I64 r ∧ I64 g ∧ I64 t ∧ I64 u ∧ I64 l_a ∧ I64 l_b := by
  obtain ⟨xs, fu_, _, _, hl, hxl, hf⟩ := DataW.trod_struct Try.underlying69 h
  have h0 : DataW.trod enc Try.prog w 0 spare held fu_ 3 ((cs.drop 0).take (Try.prog.cellsOf 3)) = xs[0]? := hf 0 _ rfl
  rw [cz1] at h0
  have h1 : DataW.trod enc Try.prog w 0 spare held fu_ 3 ((cs.drop 1).take (Try.prog.cellsOf 3)) = xs[1]? := hf 1 _ rfl
  rw [cz1] at h1
  have h2 : DataW.trod enc Try.prog w 0 spare held fu_ 3 ((cs.drop 2).take (Try.prog.cellsOf 3)) = xs[2]? := hf 2 _ rfl
  rw [cz1] at h2
  have h3 : DataW.trod enc Try.prog w 0 spare held fu_ 3 ((cs.drop 3).take (Try.prog.cellsOf 3)) = xs[3]? := hf 3 _ rfl
  rw [cz1] at h3
  have h4 : DataW.trod enc Try.prog w 0 spare held fu_ 3 ((cs.drop 4).take (Try.prog.cellsOf 3)) = xs[4]? := hf 4 _ rfl
  rw [cz1] at h4
  have h5 : DataW.trod enc Try.prog w 0 spare held fu_ 45 ((cs.drop 5).take (Try.prog.cellsOf 45)) = xs[5]? := hf 5 _ rfl
  rw [cz3] at h5
  rw [cz6] at hl
  match cs, hl, xs, hxl with
  | [u0, u1, u2, u3, u4, u5, u6], _, [y0, y1, y2, y3, y4, y5], _ =>
    replace h0 : DataW.trod enc Try.prog w 0 spare held fu_ 3 [u0] = some y0 := h0
    obtain ⟨k, q0, e0_0⟩ := trod_i64 h0
    cases q0
    replace h1 : DataW.trod enc Try.prog w 0 spare held fu_ 3 [u1] = some y1 := h1
    obtain ⟨r, q1, e1_0⟩ := trod_i64 h1
    cases q1
    replace h2 : DataW.trod enc Try.prog w 0 spare held fu_ 3 [u2] = some y2 := h2
    obtain ⟨g, q2, e2_0⟩ := trod_i64 h2
    cases q2
    replace h3 : DataW.trod enc Try.prog w 0 spare held fu_ 3 [u3] = some y3 := h3
    obtain ⟨t, q3, e3_0⟩ := trod_i64 h3
    cases q3
    replace h4 : DataW.trod enc Try.prog w 0 spare held fu_ 3 [u4] = some y4 := h4
    obtain ⟨u, q4, e4_0⟩ := trod_i64 h4
    cases q4
    replace h5 : DataW.trod enc Try.prog w 0 spare held fu_ 45 [u5, u6] = some y5 := h5
    obtain ⟨l_a, l_b, q5, e5_0, e5_1⟩ := trod_ra h5
    cases q5
    exact ⟨k, r, g, t, u, l_a, l_b, rfl, e0_0, e1_0, e2_0, e3_0, e4_0, e5_0, e5_1⟩
theorem el_at (h : DataW.trod enc Try.prog w 0 spare held fuel 69 cs = some x) : ∃ y : Atc, cs = eA y ∧ (I64 y.lot.1 ∧ I64 y.lot.2) := by
  obtain ⟨k, r, g, t, u, a, b, rfl, _, _, _, _, _, f1, f2⟩ := trod_at h
  exact ⟨⟨k, r, g, t, u, (a, b)⟩, rfl, f1, f2⟩
theorem cz7 : Try.prog.cellsOf 43 = 1 := by kernel_rfl
theorem cz8 : Try.prog.cellsOf 47 = 16 := by kernel_rfl
set_option maxRecDepth 100000 in
theorem trod_cl (h : DataW.trod enc Try.prog w 0 spare held fuel 47 cs = some x) : ∃ (k : Int) (r : Int) (a : Int) (n : Int) (sA : Option Addr) (sl : List (Int × Int)) (sc : Nat) (af : Int) (g : Int) (b : Bool) (f : Bool) (p : Int) (re : Int) (v_a : Int) (v_b : Int) (u : Int) (t : Int) (w_ : Bool), cs = [.int .i64 k, .int .i64 r, .int .i64 a, .int .i64 n, .slice sA sl.length sc, .int .i64 af, .int .i64 g, .bool b, .bool f, .int .i64 p, .int .i64 re, .int .i64 v_a, .int .i64 v_b, .int .i64 u, .int .i64 t, .bool w_] ∧ I64 k ∧ I64 r ∧ I64 a ∧ I64 n ∧ LstM w (eS) 2 (fun _ => True) sA sl sc ∧ I64 af ∧ I64 g ∧ I64 p ∧ I64 re ∧ I64 v_a ∧ I64 v_b ∧ I64 u ∧ I64 t := by
  obtain ⟨xs, fu_, _, _, hl, hxl, hf⟩ := DataW.trod_struct Try.underlying47 h
  have h0 : DataW.trod enc Try.prog w 0 spare held fu_ 3 ((cs.drop 0).take (Try.prog.cellsOf 3)) = xs[0]? := hf 0 _ rfl
  rw [cz1] at h0
  have h1 : DataW.trod enc Try.prog w 0 spare held fu_ 3 ((cs.drop 1).take (Try.prog.cellsOf 3)) = xs[1]? := hf 1 _ rfl
  rw [cz1] at h1
  have h2 : DataW.trod enc Try.prog w 0 spare held fu_ 3 ((cs.drop 2).take (Try.prog.cellsOf 3)) = xs[2]? := hf 2 _ rfl
  rw [cz1] at h2
  have h3 : DataW.trod enc Try.prog w 0 spare held fu_ 3 ((cs.drop 3).take (Try.prog.cellsOf 3)) = xs[3]? := hf 3 _ rfl
  rw [cz1] at h3
  have h4 : DataW.trod enc Try.prog w 0 spare held fu_ 43 ((cs.drop 4).take (Try.prog.cellsOf 43)) = xs[4]? := hf 4 _ rfl
  rw [cz7] at h4
  have h5 : DataW.trod enc Try.prog w 0 spare held fu_ 3 ((cs.drop 5).take (Try.prog.cellsOf 3)) = xs[5]? := hf 5 _ rfl
  rw [cz1] at h5
  have h6 : DataW.trod enc Try.prog w 0 spare held fu_ 3 ((cs.drop 6).take (Try.prog.cellsOf 3)) = xs[6]? := hf 6 _ rfl
  rw [cz1] at h6
  have h7 : DataW.trod enc Try.prog w 0 spare held fu_ 4 ((cs.drop 7).take (Try.prog.cellsOf 4)) = xs[7]? := hf 7 _ rfl
  rw [cz0] at h7
  have h8 : DataW.trod enc Try.prog w 0 spare held fu_ 4 ((cs.drop 8).take (Try.prog.cellsOf 4)) = xs[8]? := hf 8 _ rfl
  rw [cz0] at h8
  have h9 : DataW.trod enc Try.prog w 0 spare held fu_ 3 ((cs.drop 9).take (Try.prog.cellsOf 3)) = xs[9]? := hf 9 _ rfl
  rw [cz1] at h9
  have h10 : DataW.trod enc Try.prog w 0 spare held fu_ 3 ((cs.drop 10).take (Try.prog.cellsOf 3)) = xs[10]? := hf 10 _ rfl
  rw [cz1] at h10
  have h11 : DataW.trod enc Try.prog w 0 spare held fu_ 45 ((cs.drop 11).take (Try.prog.cellsOf 45)) = xs[11]? := hf 11 _ rfl
  rw [cz3] at h11
  have h12 : DataW.trod enc Try.prog w 0 spare held fu_ 3 ((cs.drop 13).take (Try.prog.cellsOf 3)) = xs[12]? := hf 12 _ rfl
  rw [cz1] at h12
  have h13 : DataW.trod enc Try.prog w 0 spare held fu_ 3 ((cs.drop 14).take (Try.prog.cellsOf 3)) = xs[13]? := hf 13 _ rfl
  rw [cz1] at h13
  have h14 : DataW.trod enc Try.prog w 0 spare held fu_ 4 ((cs.drop 15).take (Try.prog.cellsOf 4)) = xs[14]? := hf 14 _ rfl
  rw [cz0] at h14
  rw [cz8] at hl
  match cs, hl, xs, hxl with
  | [u0, u1, u2, u3, u4, u5, u6, u7, u8, u9, u10, u11, u12, u13, u14, u15], _, [y0, y1, y2, y3, y4, y5, y6, y7, y8, y9, y10, y11, y12, y13, y14], _ =>
    replace h0 : DataW.trod enc Try.prog w 0 spare held fu_ 3 [u0] = some y0 := h0
    obtain ⟨k, q0, e0_0⟩ := trod_i64 h0
    cases q0
    replace h1 : DataW.trod enc Try.prog w 0 spare held fu_ 3 [u1] = some y1 := h1
    obtain ⟨r, q1, e1_0⟩ := trod_i64 h1
    cases q1
    replace h2 : DataW.trod enc Try.prog w 0 spare held fu_ 3 [u2] = some y2 := h2
    obtain ⟨a, q2, e2_0⟩ := trod_i64 h2
    cases q2
    replace h3 : DataW.trod enc Try.prog w 0 spare held fu_ 3 [u3] = some y3 := h3
    obtain ⟨n, q3, e3_0⟩ := trod_i64 h3
    cases q3
    replace h4 : DataW.trod enc Try.prog w 0 spare held fu_ 43 [u4] = some y4 := h4
    obtain ⟨sA, sl, sc, q4, e4_0⟩ := open_lstm (eS) 2 (fun _ => True) (fun _ => rfl) (by omega) Try.underlying43 cz4 (fun _ _ _ h => el_co h) h4
    cases q4
    replace h5 : DataW.trod enc Try.prog w 0 spare held fu_ 3 [u5] = some y5 := h5
    obtain ⟨af, q5, e5_0⟩ := trod_i64 h5
    cases q5
    replace h6 : DataW.trod enc Try.prog w 0 spare held fu_ 3 [u6] = some y6 := h6
    obtain ⟨g, q6, e6_0⟩ := trod_i64 h6
    cases q6
    replace h7 : DataW.trod enc Try.prog w 0 spare held fu_ 4 [u7] = some y7 := h7
    obtain ⟨b, q7⟩ := trod_bo h7
    cases q7
    replace h8 : DataW.trod enc Try.prog w 0 spare held fu_ 4 [u8] = some y8 := h8
    obtain ⟨f, q8⟩ := trod_bo h8
    cases q8
    replace h9 : DataW.trod enc Try.prog w 0 spare held fu_ 3 [u9] = some y9 := h9
    obtain ⟨p, q9, e9_0⟩ := trod_i64 h9
    cases q9
    replace h10 : DataW.trod enc Try.prog w 0 spare held fu_ 3 [u10] = some y10 := h10
    obtain ⟨re, q10, e10_0⟩ := trod_i64 h10
    cases q10
    replace h11 : DataW.trod enc Try.prog w 0 spare held fu_ 45 [u11, u12] = some y11 := h11
    obtain ⟨v_a, v_b, q11, e11_0, e11_1⟩ := trod_ra h11
    cases q11
    replace h12 : DataW.trod enc Try.prog w 0 spare held fu_ 3 [u13] = some y12 := h12
    obtain ⟨u, q12, e12_0⟩ := trod_i64 h12
    cases q12
    replace h13 : DataW.trod enc Try.prog w 0 spare held fu_ 3 [u14] = some y13 := h13
    obtain ⟨t, q13, e13_0⟩ := trod_i64 h13
    cases q13
    replace h14 : DataW.trod enc Try.prog w 0 spare held fu_ 4 [u15] = some y14 := h14
    obtain ⟨w_, q14⟩ := trod_bo h14
    cases q14
    exact ⟨k, r, a, n, sA, sl, sc, af, g, b, f, p, re, v_a, v_b, u, t, w_, rfl, e0_0, e1_0, e2_0, e3_0, e4_0, e5_0, e6_0, e9_0, e10_0, e11_0, e11_1, e12_0, e13_0⟩
/-- a clause whose conditions lie in memory, of any number -/
def fitK (w : World) (y : Km) : Prop := LstM w eS 2 (fun _ => True) y.A y.k.start y.cap ∧ I64 y.k.v.1 ∧ I64 y.k.v.2
theorem el_cl (h : DataW.trod enc Try.prog w 0 spare held fuel 47 cs = some x) : ∃ y : Km, cs = eK y ∧ fitK w y := by
  obtain ⟨k, r, a, n, sA, sl, sc, af, g, b, f, p, re, v_a, v_b, u, t, w_, rfl, _, _, _, _, f4, _, _, _, _, f9, f10, _, _⟩ := trod_cl h
  exact ⟨⟨⟨k, r, a, n, sl, af, g, b, f, p, re, (v_a, v_b), u, t, w_⟩, sA, sc⟩, rfl, f4, f9, f10⟩
theorem el_i (h : DataW.trod enc Try.prog w 0 spare held fuel 3 cs = some x) : ∃ y : Int, cs = eI y ∧ True := by
  obtain ⟨a, rfl, _⟩ := trod_i64 h
  exact ⟨a, rfl, trivial⟩
theorem cz9 : Try.prog.cellsOf 22 = 1 := by kernel_rfl
theorem cz10 : Try.prog.cellsOf 23 = 1 := by kernel_rfl
theorem cz11 : Try.prog.cellsOf 24 = 1 := by kernel_rfl
theorem cz12 : Try.prog.cellsOf 25 = 1 := by kernel_rfl
theorem cz13 : Try.prog.cellsOf 27 = 7 := by kernel_rfl
set_option maxRecDepth 100000 in
theorem trod_cn (h : DataW.trod enc Try.prog w 0 spare held fuel 27 cs = some x) : ∃ (pa : Int) (hA : Option Addr) (hl : List Int) (hc : Nat) (uA : Option Addr) (ul : List Uni) (uc : Nat) (aA : Option Addr) (al : List Atc) (ac : Nat) (kA : Option Addr) (kl : List Km) (kc : Nat) (da : Int) (oA : Option Addr) (ol : List Int) (oc : Nat), cs = [.int .i64 pa, .slice hA hl.length hc, .slice uA ul.length uc, .slice aA al.length ac, .slice kA kl.length kc, .int .i64 da, .slice oA ol.length oc] ∧ I64 pa ∧ LstM w (eI) 1 (fun _ => True) hA hl hc ∧ LstM w (eU) 5 (fun y => I64 y.f.1 ∧ I64 y.f.2) uA ul uc ∧ LstM w (eA) 7 (fun y => I64 y.lot.1 ∧ I64 y.lot.2) aA al ac ∧ LstM w (eK) 16 (fitK w) kA kl kc ∧ I64 da ∧ LstM w (eI) 1 (fun _ => True) oA ol oc := by
  obtain ⟨xs, fu_, _, _, hl, hxl, hf⟩ := DataW.trod_struct Try.underlying27 h
  have h0 : DataW.trod enc Try.prog w 0 spare held fu_ 3 ((cs.drop 0).take (Try.prog.cellsOf 3)) = xs[0]? := hf 0 _ rfl
  rw [cz1] at h0
  have h1 : DataW.trod enc Try.prog w 0 spare held fu_ 22 ((cs.drop 1).take (Try.prog.cellsOf 22)) = xs[1]? := hf 1 _ rfl
  rw [cz9] at h1
  have h2 : DataW.trod enc Try.prog w 0 spare held fu_ 23 ((cs.drop 2).take (Try.prog.cellsOf 23)) = xs[2]? := hf 2 _ rfl
  rw [cz10] at h2
  have h3 : DataW.trod enc Try.prog w 0 spare held fu_ 24 ((cs.drop 3).take (Try.prog.cellsOf 24)) = xs[3]? := hf 3 _ rfl
  rw [cz11] at h3
  have h4 : DataW.trod enc Try.prog w 0 spare held fu_ 25 ((cs.drop 4).take (Try.prog.cellsOf 25)) = xs[4]? := hf 4 _ rfl
  rw [cz12] at h4
  have h5 : DataW.trod enc Try.prog w 0 spare held fu_ 3 ((cs.drop 5).take (Try.prog.cellsOf 3)) = xs[5]? := hf 5 _ rfl
  rw [cz1] at h5
  have h6 : DataW.trod enc Try.prog w 0 spare held fu_ 22 ((cs.drop 6).take (Try.prog.cellsOf 22)) = xs[6]? := hf 6 _ rfl
  rw [cz9] at h6
  rw [cz13] at hl
  match cs, hl, xs, hxl with
  | [u0, u1, u2, u3, u4, u5, u6], _, [y0, y1, y2, y3, y4, y5, y6], _ =>
    replace h0 : DataW.trod enc Try.prog w 0 spare held fu_ 3 [u0] = some y0 := h0
    obtain ⟨pa, q0, e0_0⟩ := trod_i64 h0
    cases q0
    replace h1 : DataW.trod enc Try.prog w 0 spare held fu_ 22 [u1] = some y1 := h1
    obtain ⟨hA, hl, hc, q1, e1_0⟩ := open_lstm (eI) 1 (fun _ => True) (fun _ => rfl) (by omega) Try.underlying22 cz1 (fun _ _ _ h => el_i h) h1
    cases q1
    replace h2 : DataW.trod enc Try.prog w 0 spare held fu_ 23 [u2] = some y2 := h2
    obtain ⟨uA, ul, uc, q2, e2_0⟩ := open_lstm (eU) 5 (fun y => I64 y.f.1 ∧ I64 y.f.2) (fun _ => rfl) (by omega) Try.underlying23 cz5 (fun _ _ _ h => el_un h) h2
    cases q2
    replace h3 : DataW.trod enc Try.prog w 0 spare held fu_ 24 [u3] = some y3 := h3
    obtain ⟨aA, al, ac, q3, e3_0⟩ := open_lstm (eA) 7 (fun y => I64 y.lot.1 ∧ I64 y.lot.2) (fun _ => rfl) (by omega) Try.underlying24 cz6 (fun _ _ _ h => el_at h) h3
    cases q3
    replace h4 : DataW.trod enc Try.prog w 0 spare held fu_ 25 [u4] = some y4 := h4
    obtain ⟨kA, kl, kc, q4, e4_0⟩ := open_lstm (eK) 16 (fitK w) (fun _ => rfl) (by omega) Try.underlying25 cz8 (fun _ _ _ h => el_cl h) h4
    cases q4
    replace h5 : DataW.trod enc Try.prog w 0 spare held fu_ 3 [u5] = some y5 := h5
    obtain ⟨da, q5, e5_0⟩ := trod_i64 h5
    cases q5
    replace h6 : DataW.trod enc Try.prog w 0 spare held fu_ 22 [u6] = some y6 := h6
    obtain ⟨oA, ol, oc, q6, e6_0⟩ := open_lstm (eI) 1 (fun _ => True) (fun _ => rfl) (by omega) Try.underlying22 cz1 (fun _ _ _ h => el_i h) h6
    cases q6
    exact ⟨pa, hA, hl, hc, uA, ul, uc, aA, al, ac, kA, kl, kc, da, oA, ol, oc, rfl, e0_0, e1_0, e2_0, e3_0, e4_0, e5_0, e6_0⟩
theorem cz14 : Try.prog.cellsOf 49 = 19 := by kernel_rfl
set_option maxRecDepth 100000 in
theorem trod_pa (h : DataW.trod enc Try.prog w 0 spare held fuel 49 cs = some x) : ∃ (ki : Int) (cA : Option Addr) (cl : List Int) (cc : Nat) (e_k : Int) (e_r : Int) (e_a : Int) (e_n : Int) (e_sA : Option Addr) (e_sl : List (Int × Int)) (e_sc : Nat) (e_af : Int) (e_g : Int) (e_b : Bool) (e_f : Bool) (e_p : Int) (e_re : Int) (e_v_a : Int) (e_v_b : Int) (e_u : Int) (e_t : Int) (e_w_ : Bool) (da : Int), cs = [.int .i64 ki, .slice cA cl.length cc, .int .i64 e_k, .int .i64 e_r, .int .i64 e_a, .int .i64 e_n, .slice e_sA e_sl.length e_sc, .int .i64 e_af, .int .i64 e_g, .bool e_b, .bool e_f, .int .i64 e_p, .int .i64 e_re, .int .i64 e_v_a, .int .i64 e_v_b, .int .i64 e_u, .int .i64 e_t, .bool e_w_, .int .i64 da] ∧ I64 ki ∧ LstM w (eI) 1 (fun _ => True) cA cl cc ∧ I64 e_k ∧ I64 e_r ∧ I64 e_a ∧ I64 e_n ∧ LstM w (eS) 2 (fun _ => True) e_sA e_sl e_sc ∧ I64 e_af ∧ I64 e_g ∧ I64 e_p ∧ I64 e_re ∧ I64 e_v_a ∧ I64 e_v_b ∧ I64 e_u ∧ I64 e_t ∧ I64 da := by
  obtain ⟨xs, fu_, _, _, hl, hxl, hf⟩ := DataW.trod_struct Try.underlying49 h
  have h0 : DataW.trod enc Try.prog w 0 spare held fu_ 3 ((cs.drop 0).take (Try.prog.cellsOf 3)) = xs[0]? := hf 0 _ rfl
  rw [cz1] at h0
  have h1 : DataW.trod enc Try.prog w 0 spare held fu_ 22 ((cs.drop 1).take (Try.prog.cellsOf 22)) = xs[1]? := hf 1 _ rfl
  rw [cz9] at h1
  have h2 : DataW.trod enc Try.prog w 0 spare held fu_ 47 ((cs.drop 2).take (Try.prog.cellsOf 47)) = xs[2]? := hf 2 _ rfl
  rw [cz8] at h2
  have h3 : DataW.trod enc Try.prog w 0 spare held fu_ 3 ((cs.drop 18).take (Try.prog.cellsOf 3)) = xs[3]? := hf 3 _ rfl
  rw [cz1] at h3
  rw [cz14] at hl
  match cs, hl, xs, hxl with
  | [u0, u1, u2, u3, u4, u5, u6, u7, u8, u9, u10, u11, u12, u13, u14, u15, u16, u17, u18], _, [y0, y1, y2, y3], _ =>
    replace h0 : DataW.trod enc Try.prog w 0 spare held fu_ 3 [u0] = some y0 := h0
    obtain ⟨ki, q0, e0_0⟩ := trod_i64 h0
    cases q0
    replace h1 : DataW.trod enc Try.prog w 0 spare held fu_ 22 [u1] = some y1 := h1
    obtain ⟨cA, cl, cc, q1, e1_0⟩ := open_lstm (eI) 1 (fun _ => True) (fun _ => rfl) (by omega) Try.underlying22 cz1 (fun _ _ _ h => el_i h) h1
    cases q1
    replace h2 : DataW.trod enc Try.prog w 0 spare held fu_ 47 [u2, u3, u4, u5, u6, u7, u8, u9, u10, u11, u12, u13, u14, u15, u16, u17] = some y2 := h2
    obtain ⟨e_k, e_r, e_a, e_n, e_sA, e_sl, e_sc, e_af, e_g, e_b, e_f, e_p, e_re, e_v_a, e_v_b, e_u, e_t, e_w_, q2, e2_0, e2_1, e2_2, e2_3, e2_4, e2_5, e2_6, e2_7, e2_8, e2_9, e2_10, e2_11, e2_12⟩ := trod_cl h2
    cases q2
    replace h3 : DataW.trod enc Try.prog w 0 spare held fu_ 3 [u18] = some y3 := h3
    obtain ⟨da, q3, e3_0⟩ := trod_i64 h3
    cases q3
    exact ⟨ki, cA, cl, cc, e_k, e_r, e_a, e_n, e_sA, e_sl, e_sc, e_af, e_g, e_b, e_f, e_p, e_re, e_v_a, e_v_b, e_u, e_t, e_w_, da, rfl, e0_0, e1_0, e2_0, e2_1, e2_2, e2_3, e2_4, e2_5, e2_6, e2_7, e2_8, e2_9, e2_10, e2_11, e2_12, e3_0⟩
/-- a patch in memory, of any size -/
def fitP (w : World) (y : Pk) : Prop := LstM w eI 1 (fun _ => True) y.m.p y.p.cls y.m.pc ∧ fitK w ⟨y.p.new, y.m.A, y.m.cap⟩
theorem el_pa (h : DataW.trod enc Try.prog w 0 spare held fuel 49 cs = some x) : ∃ y : Pk, cs = eP y ∧ fitP w y := by
  obtain ⟨ki, cA, cl, cc, e_k, e_r, e_a, e_n, e_sA, e_sl, e_sc, e_af, e_g, e_b, e_f, e_p, e_re, e_v_a, e_v_b, e_u, e_t, e_w_, da, rfl, _, g1, _, _, _, _, g6, _, _, _, _, g11, g12, _, _, _⟩ := trod_pa h
  exact ⟨⟨⟨ki, cl, ⟨e_k, e_r, e_a, e_n, e_sl, e_af, e_g, e_b, e_f, e_p, e_re, (e_v_a, e_v_b), e_u, e_t, e_w_⟩, da⟩, ⟨cA, cc, e_sA, e_sc⟩⟩, rfl, g1, g6, g11, g12⟩
end
/-- a contract in memory, of any size -/
structure ContW (w : World) (c : Con) (m : Cm) : Prop where
  h : LstM w eI 1 (fun _ => True) m.h c.hold m.hc
  u : LstM w eU 5 (fun y => I64 y.f.1 ∧ I64 y.f.2) m.u c.un m.uc
  a : LstM w eA 7 (fun y => I64 y.lot.1 ∧ I64 y.lot.2) m.a c.ac m.ac
  k : LstM w eK 16 (fitK w) m.k m.ks m.kc
  o : LstM w eI 1 (fun _ => True) m.o c.off m.oc
  e : m.ks.map (·.k) = c.cl
theorem ContW.cont {w : World} {c : Con} {m : Cm} (h : ContW w c m) (nh : c.hold.length ≤ 1000000) (nu : c.un.length ≤ 1000000) (na : c.ac.length ≤ 1000000) (nk : c.cl.length ≤ 1000000) (no : c.off.length ≤ 1000000) (ns : ∀ k ∈ c.cl, k.start.length ≤ 1000000) : Cont w c m :=
  ⟨h.h.2.2.2, h.u.2.2.2, h.a.2.2.2, h.k.2.2.2, h.o.2.2.2, h.e, fun x hx => ⟨(h.k.2.2.1 x hx).1.2.2.2, (h.k.2.2.1 x hx).2, ns _ (by rw [← h.e]; exact List.mem_map_of_mem hx), (h.k.2.2.1 x hx).1.1⟩, h.u.2.2.1, h.a.2.2.1, nh, nu, na, nk, no, h.h.1, h.u.1, h.a.1, by have := h.k.1; rw [← h.e]; simpa using this, h.o.1⟩
theorem fitP.patM {w : World} {y : Pk} (h : fitP w y) (n : y.p.cls.length ≤ 1000000) (s : y.p.new.start.length ≤ 1000000) : PatM w y.p y.m :=
  ⟨h.1.2.2.2, n, h.1.1, ⟨h.2.1.2.2.2, h.2.2, s, h.2.1.1⟩⟩
/-- a list of patches in memory, of any size -/
def PatsW (w : World) (A : Option Addr) (L : List Pk) (c : Nat) : Prop := LstM w eP 19 (fitP w) A L c
set_option maxRecDepth 100000 in
/-- a contract, opened -/
theorem open_con {H : Type} {enc : TypeId × Value → H} {w : World} {spare : Nat → Bool} {held : Bool} {b0 : Nat} {v : Value} {d : DataW H} {ps : List MemPlace} (hval : Value.okWide Try.prog w .any b0 27 v) (hd : DataW.Trod enc Try.prog w 0 spare held 27 v d ps) :
    ∃ (c : Con) (m : Cm), v = .agg (coA c m) ∧ ContW w c m := by
  obtain ⟨cs, rfl, hcs⟩ := okWide_struct Try.underlying27 hval
  obtain ⟨fuel, hf⟩ := hd
  simp only [Value.cells] at hf
  obtain ⟨pa, hA, hl, hc, uA, ul, uc, aA, al, ac, kA, kl, kc, da, oA, ol, oc, e, _, Lh, Lu, La, Lk, _, Lo⟩ := trod_cn hf
  obtain ⟨l⟩ := cs
  simp only at e
  subst e
  exact ⟨⟨pa, hl, ul, al, kl.map (·.k), da, ol⟩, ⟨hA, hc, uA, uc, aA, ac, kA, kc, oA, oc, kl⟩, by simp [coA], ⟨Lh, Lu, La, Lk, Lo, rfl⟩⟩
set_option maxRecDepth 100000 in
/-- a patch, opened -/
theorem open_pat {H : Type} {enc : TypeId × Value → H} {w : World} {spare : Nat → Bool} {held : Bool} {b0 : Nat} {v : Value} {d : DataW H} {ps : List MemPlace} (hval : Value.okWide Try.prog w .any b0 49 v) (hd : DataW.Trod enc Try.prog w 0 spare held 49 v d ps) :
    ∃ (y : Pk), v = .agg (pL y.p y.m) ∧ fitP w y := by
  obtain ⟨cs, rfl, hcs⟩ := okWide_struct Try.underlying49 hval
  obtain ⟨fuel, hf⟩ := hd
  simp only [Value.cells] at hf
  obtain ⟨y, e, hy⟩ := el_pa hf
  obtain ⟨l⟩ := cs
  simp only at e
  subst e
  exact ⟨y, rfl, hy⟩
set_option maxRecDepth 100000 in
/-- a list of patches, opened -/
theorem open_pats {H : Type} {enc : TypeId × Value → H} {w : World} {spare : Nat → Bool} {held : Bool} {b0 : Nat} {v : Value} {d : DataW H} {ps : List MemPlace} (hval : Value.okWide Try.prog w .any b0 28 v) (hd : DataW.Trod enc Try.prog w 0 spare held 28 v d ps) :
    ∃ (A : Option Addr) (L : List Pk) (c : Nat), v = .slice A L.length c ∧ PatsW w A L c := by
  obtain ⟨a0, len, cap, rfl⟩ := okWide_slice Try.underlying28 hval
  obtain ⟨fuel, hf⟩ := hd
  obtain ⟨A, l, c, e, hl⟩ := open_lstm eP 19 (fitP w) eP_len (by omega) Try.underlying28 cz14 (fun _ _ _ h => el_pa h) (show DataW.trod enc Try.prog w 0 spare held fuel 28 [.slice a0 len cap] = some (d, ps) from hf)
  exact ⟨A, l, c, List.head_eq_of_cons_eq e, hl⟩
end Go.Proofs.Ytcplneglfbdooaa
