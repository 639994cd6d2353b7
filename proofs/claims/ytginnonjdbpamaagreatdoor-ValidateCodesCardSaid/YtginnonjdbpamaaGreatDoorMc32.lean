/- Contracts of functions and plain laws, joined: VbC, Up, Uq, Wa1, Wa2. -/
import Derived.Test.YtginnonjdbpamaaGreatDoorMc22
import Derived.Test.YtginnonjdbpamaaGreatDoorMc31
import Derived.Test.YtginnonjdbpamaaGreatDoorMc12
import Derived.Test.YtginnonjdbpamaaGreatDoorMc13
/- States of a run against the readings of its trace: what validate.Agrees computes, and that they agree. No program in sight. -/
import Derived.Test.YtginnonjdbpamaaGreatDoorMc1
set_option maxHeartbeats 6400000
set_option maxRecDepth 100000
namespace Go.Proofs.YtginnonjdbpamaaGreatDoor
def Mk.tri (m : Mk) : Int × Int × Int := (m.st, m.got, m.brr)
def Out.tri (o : Out) : Int × Int × Int := (o.st, o.got, o.brr)
def agrP (s : Sta) (d : Int) (hol : List Int) (oc : List Out) : Bool := decide (s.day = d ∧ s.hol = hol ∧ s.marks.map Mk.tri = oc.map Out.tri)
def agrR (s : Sta) (r : Rd) : Bool := agrP s r.day r.hol (r.oc.map (·.1))
def agL : Nat → List Sta → List Rd → Int × Bool
 | k, s :: ss, r :: rs => if agrR s r = true then agL (k + 1) ss rs else ((k : Int), false)
 | _, _, _ => (-1, true)
def Con.agr (c : Con) (l : List Int) (S : List Sta) : Int × Bool := if S.length ≠ l.length + 1 ∨ c.chk l ≠ 0 then (-1, false) else agL 0 S (xCt c c.read0 l)
structure RS (c : Con) (r : Rd) (s : Sta) : Prop where
 rel : Rel c r s
 inv : RInv c r
 shut : Shut c (r.marks c)
 ok : SOk c s
theorem RS.first {c : Con} (hc : c.ok = true) : RS c c.read0 c.first := by
 obtain ⟨h1, h2⟩ := first_rel (xCa hc)
 exact ⟨h1, h2, xCi (xCa hc) (xE3 (xCa hc)), first_ok hc⟩
theorem stepE_x {c : Con} {s : Sta} {x : Int} (h : s.stepE c x = 0) : -1 ≤ x ∧ x < (c.ac.length : Int) := by
 unfold Sta.stepE at h
 split at h
 ·cases h
 ·next h1 =>
  rw [not_or, not_or] at h1
  omega
theorem RS.step {c : Con} {r : Rd} {s : Sta} {x : Int} (hc : c.ok = true) (h : RS c r s) (he : s.stepE c x = 0) : RS c (r.step c x) (s.step c x) := by
 have hs := step_ok h.ok he
 have hx := stepE_x he
 have hg := xCa hc
 unfold Rd.step Sta.step at *
 by_cases e : x = -1
 ·rw [if_pos e] at hs ⊢
  rw [if_pos e]
  obtain ⟨h1, h2⟩ := tick_rel hg h.inv h.rel
  refine ⟨h1, h2, ?_, hs⟩
  rw [tick_W]
  exact xCi hg (xHb hg (xD3 h.inv)).1
 ·rw [if_neg e] at hs ⊢
  rw [if_neg e]
  have hn : x.toNat < c.ac.length := by omega
  obtain ⟨h1, h2⟩ := act_rel hg (xD6 hc) h.inv h.shut h.rel hn
  refine ⟨h1, h2, ?_, hs⟩
  obtain ⟨a, ha⟩ : ∃ a, c.ac[x.toNat]? = some a := ⟨_, qzJ hn⟩
  rw [act_W ha]
  exact xCi hg (xG8 hg (xD6 hc) (xD3 h.inv) ha).1
theorem runS_ok {c : Con} {l : List Int} (h : c.runE l = 0) : c.runS l = xB0 c c.first l := by unfold Con.runS; rw [if_pos h]
theorem runS_len {c : Con} {l : List Int} (h : c.runE l = 0) : (c.runS l).length = l.length + 1 := by rw [runS_ok h, xFb]
def Sta.breach (c : Con) (s : Sta) (p : Int) : Bool :=
 decide (0 ≤ p) && decide (p < c.par) && s.ok c && (List.zipWith (fun (k : Cla) (m : Mk) => k.fin && m.st == 4 && m.brr == p) c.cl s.marks).any id
def failed (c : Con) (oc : List Out) (p : Int) : Bool := (List.zipWith (fun (k : Cla) (o : Out) => k.fin && o.st == 4 && o.brr == p) c.cl oc).any id
def Con.follow (c : Con) (l : List Int) : Rd := l.foldl (fun r x => r.step c x) c.read0
end Go.Proofs.YtginnonjdbpamaaGreatDoor
/- The walks of trace.follow and trace.Outcomes. -/
namespace Go.Proofs.YtginnonjdbpamaaGreatDoor
open Go.RowKit Go.Sort Go.Maps
theorem xGq {c : Con} {r : Rd} {x : Int} (hx : -1 ≤ x ∧ x < (c.ac.length : Int)) : (r.step c x).steps = r.steps + 1 ∧ (r.step c x).day = if x = -1 then r.day + 1 else r.day := by
 unfold Rd.step
 by_cases e : x = -1
 ·rw [if_pos e, if_pos e]; exact ⟨rfl, rfl⟩
 ·rw [if_neg e, if_neg e]
  obtain ⟨a, ha⟩ : ∃ a, c.ac[x.toNat]? = some a := ⟨_, qzJ (by omega)⟩
  unfold Rd.act
  rw [ha]
  simp only
  split <;> exact ⟨rfl, rfl⟩
theorem xGh {c : Con} : ∀ {l : List Int} {d : Int}, chkL c d l = 0 → ∀ x ∈ l, -1 ≤ x ∧ x < (c.ac.length : Int)
 | [], _, _, _, hx => by cases hx
 | y :: l, d, h, x, hx => by
  rw [chkL] at h
  split at h
  ·cases h
  ·next h1 =>
   split at h
   ·cases h
   ·rcases List.mem_cons.1 hx with rfl | hx
    ·rw [not_or] at h1; omega
    ·exact xGh h x hx
theorem xE2 {c : Con} {l : List Int} (h : c.chk l = 0) : c.ok = true ∧ l.length ≤ 4000 ∧ ∀ x ∈ l, -1 ≤ x ∧ x < (c.ac.length : Int) := by
 unfold Con.chk at h
 split at h
 ·cases h
 ·next h1 =>
  split at h
  ·cases h
  ·exact ⟨by cases hc : c.ok with | true => rfl | false => exact absurd hc h1, by omega, xGh h⟩
structure FL (w W : World) (b : Nat) (c : Con) (m : Cm) (l : List Int) (i : Nat) (r : Rd) (wl : Int → List Int) (q : Rq) : Prop where
 rd : Rdm w W b c m r wl q
 g : RG c r wl
 n : q.n ≤ 1000000 + 1000 * i
 e : r = (l.take i).foldl (fun r x => r.step c x) c.read0
 s : r.steps = i
 d : 0 ≤ r.day ∧ r.day ≤ i
theorem FL.start {w W : World} {b : Nat} {c : Con} {m : Cm} {l : List Int} {wl : Int → List Int} {q : Rq} (h : Rdm w W b c m c.read0 wl q) (hG : RG c c.read0 wl) (hn : q.n ≤ 1000000) : FL w W b c m l 0 c.read0 wl q :=
 ⟨h, hG, by omega, rfl, rfl, Int.le_refl _, Int.le_refl _⟩
theorem FL.next {w W W' : World} {b : Nat} {c : Con} {m : Cm} {l : List Int} {i : Nat} {r : Rd} {wl : Int → List Int} {q : Rq} {x : Int} (h : FL w W b c m l i r wl q) (hx : l[i]? = some x) (hr : -1 ≤ x ∧ x < (c.ac.length : Int)) {W0 : World} (hs : StepR w W0 W' b c m (r.step c x) q) : ∃ wl' q', FL w W' b c m l (i + 1) (r.step c x) wl' q' ∧ q'.o = q.o ∧ q'.h = q.h := by
 obtain ⟨wl', f, n, h1, h2, h3⟩ := hs.x
 obtain ⟨e1, e2⟩ := xGq (c := c) (r := r) hr
 refine ⟨wl', q.wf f n, ⟨h1, h2, ?_, ?_, ?_, ?_⟩, rfl, rfl⟩
 ·have h4 := h.n
  have h5 : n ≤ 1000000 + 1000 * (i + 1) := by omega
  exact h5
 ·rw [List.take_add_one, hx, List.foldl_append, ← h.e]
  rfl
 ·rw [e1, h.s]; rfl
 ·rw [e2]
  have := h.d
  split <;> omega
theorem FL.then_ {w W W' : World} {b : Nat} {c : Con} {m : Cm} {l : List Int} {i : Nat} {r : Rd} {wl : Int → List Int} {q : Rq} (h : FL w W b c m l i r wl q) (hb : Below W.heap.size W W') : FL w W' b c m l i r wl q := ⟨h.rd.then_ hb, h.g, h.n, h.e, h.s, h.d⟩
theorem FL.call {w W : World} {b : Nat} {c : Con} {m : Cm} {l : List Int} {i : Nat} {r : Rd} {wl : Int → List Int} {q : Rq} {x : Int} (h : FL w W b c m l i r wl q) (hok : c.ok = true) (hi : i ≤ 1000000) (hx : l[i]? = some x) (hr : -1 ≤ x ∧ x < (c.ac.length : Int)) :
  Calls Tryz.prog 62 #[.pointer (some ⟨b, 0, none⟩), .int .i64 x] W fun e w' => e = .returned (.tuple #[]) ∧ (∃ wl' q', FL w w' b c m l (i + 1) (r.step c x) wl' q' ∧ q'.o = q.o ∧ q'.h = q.h) ∧ Kept W w' (q.pS b) :=
 (stepR_any w b c m r wl q x W h.rd hok (xCr hok).1 (xCr hok).2.1 h.g (by rw [h.s]; omega) ⟨h.d.1, by have := h.d.2; omega⟩ hr (by have := h.n; omega)).mono fun e w' ⟨h1, h2⟩ => ⟨h1, h.next hx hr h2, h2.k⟩
theorem follow_any (c : Con) (m : Cm) (l : List Int) (A : Option Addr) (cap : Nat) (w : World) (hC : Cont w c m) (hA : Seg w w.heap.size 1 eI A l) (hk : c.chk l = 0) :
  Calls Tryz.prog 33 #[.agg (coA c m), .slice A l.length cap] w fun e w' => ∃ b wl q, e = .returned (.pointer (some ⟨b, 0, none⟩)) ∧ Rdm w w' b c m (c.follow l) wl q ∧ RG c (c.follow l) wl ∧ Below w.heap.size w w' := by
 obtain ⟨hok, hl, hr⟩ := xE2 hk
 have HC := qzL hC
 have HA := qzL hA
 have HOK := qzL hok
 have HR := qzL hr
 have na := hC.na
 clear hC hA hok hr hk
 go_enter Tryz.func33, Tryz.ntmps33
 go_upto_region 1 with (fail)
 refine xAf ?_
 intro X hX
 have ga : Blk X w.heap.size 27 (coA c m) := by rw [hX]; exact Blk.new _ _ _
 have HB : Below w.heap.size w X := by rw [hX]; exact wa1 _ _
 obtain ⟨ba, eba⟩ : ∃ b, w.heap.size = b := ⟨_, rfl⟩
 rw [eba] at ga ⊢
 have lX := HB.size
 clear hX eba
 go_upto_region 2 with (first | (refine xAi (by rfl) 27 _ rfl ba rfl 27 _ ga ⟨_, Tryz.underlying27⟩ (by kernel_rfl) ?_; simp only [Act.put, qzG, qzH, qzI]) | (go_at_call 61; (with_reducible refine (xIj c m X (HC.out.then_ HB) HOK.out).mono ?_); rintro e w1 ⟨b, wl0, q0, rfl, hR0, hG0, hn0, hb1⟩))
 have h0 : Hid (FL X w1 b c m l 0 c.read0 wl0 q0) := FL.start hR0 hG0 hn0
 have HAX := qzL (show Seg X X.heap.size 1 eI A l from (HA.out.below HB).more HB.size)
 clear hR0 hG0 hn0 hb1 ga
 go_upto_region 3 with (fail)
 go_loopw [7, 12] (fun _ y WR => ∃ (i : Nat) (r : Rd) (wl : Int → List Int) (q : Rq), y = .int .i64 i ∧ i ≤ l.length ∧ Hid (FL X WR b c m l i r wl q)) (fun _ y _ => 2000000 - (intOf y).toNat)
 case atStart => exact ⟨0, _, _, _, rfl, by omega, h0⟩
 case round =>
  clear h0
  obtain ⟨i, r, wl, q, rfl, hi, hL⟩ := hrel
  by_cases hlt : i < l.length
  case neg =>
   obtain rfl : i = l.length := by omega
   have tl : decide (((l.length : Nat) : Int) < ((l.length : Nat) : Int)) = false := qzN (by omega)
   go_wp2
   go_ret
   have e := hL.out.e
   rw [List.take_length] at e
   have hb : Below w.heap.size w wr := xAa HB hL.out.rd.hb
   have hrd := hL.out.rd
   subst e
   exact ⟨b, wl, q, rfl, ⟨hrd.g, hrd.gc, hrd.oh.more lX, hrd.oa.more lX, hrd.ok.more lX, hrd.oo.more lX, hrd.mp, fun k => (hrd.ol k).more lX, hrd.ap, hrd.ah, hb, ⟨by have := hrd.lb; omega, by have := hrd.lb; omega, by have := hrd.lb; omega⟩, hrd.bb, HC.out, hrd.lo, hrd.lh, hrd.la⟩, hL.out.g, hb⟩
  have tl : decide ((i : Int) < (l.length : Int)) = true := qzO (by omega)
  obtain ⟨x, hx⟩ : ∃ x, l[i]? = some x := ⟨_, qzJ hlt⟩
  obtain ⟨b0, o0, eA0, hb0, hc0⟩ := xAx (HAX.out.below hL.out.rd.hb) hx
  have hix := fun W => xAq (t := 22) (size := 1) (cap := cap) eA0 hlt (by kernel_rfl) (fun W => by kernel_rfl) W
  have d0 : wr.cell? ⟨b0, o0 + i, none⟩ = some (.int .i64 x) := by simpa using hc0 0 _ rfl
  simp only [Nat.mul_one] at hix
  have HX := qzL hx
  have HCL := qzL (hL.out.call HOK.out (by omega) hx (HR.out x (qzK hx)))
  clear hc0 eA0 hx
  go_wp2_with (go_at_call 62; (with_reducible refine HCL.out.mono ?_); rintro e w2 ⟨rfl, ⟨wl', q', hL', _, _⟩, _⟩; have HL' := qzL hL'; clear hL')
  go_roundw
  case rel => exact ⟨i + 1, _, _, _, by simp, by omega, HL'⟩
  case measure => simp [intOf]; omega
def RetO (w : World) (E : Int) (L : List Out) (e : Ending) (w' : World) : Prop :=
 (∃ A n cap, e = .returned (.tuple #[.slice A n cap, .int .i64 E]) ∧ (E = 0 → n = L.length ∧ Seg w' w'.heap.size 5 eO A L ∧ L.length ≤ cap)) ∧ Below w.heap.size w w'
theorem Own.seg_ {α : Type} {w : World} {B : Nat} {T : TypeId} {size : Nat} {enc : α → List Value} {g n cap : Nat} {xs : List α} (hl : ∀ x, (enc x).length = size) (h : Own w B T size enc (.slice (some ⟨g, 0, none⟩) n cap) xs) : Seg w w.heap.size size enc (some ⟨g, 0, none⟩) xs ∧ xs.length = n ∧ n ≤ cap := by
 obtain ⟨A, c2, e, hc, hs⟩ := h.seg hl
 cases e
 exact ⟨hs, rfl, hc⟩
theorem xHo (c : Con) (m : Cm) (l : List Int) (A : Option Addr) (cap : Nat) (w : World) (hC : Cont w c m) (hA : Seg w w.heap.size 1 eI A l) (nl : l.length ≤ 1000000) :
  Calls Tryz.prog 16 #[.agg (coA c m), .slice A l.length cap] w (RetO w (c.chk l) ((c.follow l).oc.map (·.1))) := by
 have HC := qzL hC
 have HA := qzL hA
 obtain ⟨E, hE⟩ : ∃ E, c.chk l = E := ⟨_, rfl⟩
 rw [hE]
 have HE := qzL hE
 have HCK := qzL (fun W (hb : Below w.heap.size w W) => xIh c m l A cap W (hC.then_ hb) ((hA.below hb).more hb.size) nl)
 rw [hE] at HCK
 clear hC hA hE
 go_enter Tryz.func16, Tryz.ntmps16
 go_upto_region 1 with (fail)
 refine xAf ?_
 intro X hX
 have ga : Blk X w.heap.size 27 (coA c m) := by rw [hX]; exact Blk.new _ _ _
 have HB : Below w.heap.size w X := by rw [hX]; exact wa1 _ _
 obtain ⟨ba, eba⟩ : ∃ b, w.heap.size = b := ⟨_, rfl⟩
 rw [eba] at ga ⊢
 clear hX eba
 go_upto_region 2 with (first | (refine xAi (by rfl) 27 _ rfl ba rfl 27 _ ga ⟨_, Tryz.underlying27⟩ (by kernel_rfl) ?_; simp only [Act.put, qzG, qzH, qzI]) | (go_at_call 32; (with_reducible refine (HCK.out _ HB).mono ?_); rintro e w1 ⟨rfl, hb1⟩))
 have ga1 := ga.then_ hb1
 have HB1 := qzL (xAa HB hb1)
 clear ga HB hb1
 by_cases h1 : E = 0
 case neg =>
  have t1 : (E != 0) = true := by simpa using h1
  have t1' : (E == 0) = false := by simpa using h1
  have H1 := qzL h1
  clear h1
  go_wp2
  refine bodyPost_ret (results_tmp2 rfl _ _ _) rfl ?_
  exact ⟨⟨_, _, _, rfl, fun h => absurd h H1.out⟩, HB1.out⟩
 have t1 : (E != 0) = false := by simpa using h1
 have t1' : (E == 0) = true := by simpa using h1
 have HZ : Hid (c.chk l = 0) := by unfold Hid; rw [HE.out, h1]
 have H1 := qzL h1
 clear h1
 go_upto_region 4 with (fail)
 clear t1 t1'
 have HFO := qzL (follow_any c m l A cap w1 (HC.out.then_ HB1.out) ((HA.out.below HB1.out).more HB1.out.size) HZ.out)
 go_wp2_with (first | (refine xAi (by rfl) 27 _ rfl ba rfl 27 _ ga1 ⟨_, Tryz.underlying27⟩ (by kernel_rfl) ?_; simp only [Act.put, qzG, qzH, qzI]) | (go_at_call 33; (with_reducible refine HFO.out.mono ?_); rintro e w2 ⟨b, wl, q, rfl, hR, hG, hb2⟩; have HRD := qzL hR; have k14 : w2.cell? ⟨b, 14, none⟩ = some (.slice (some ⟨q.o, 0, none⟩) (c.follow l).oc.length q.oc) := hR.g.cell 14; clear hR hG))
 refine bodyPost_ret (results_tmp2 rfl _ _ _) rfl ?_
 rw [H1.out]
 obtain ⟨s1, s2, s3⟩ := Own.seg_ xDf HRD.out.oo
 refine ⟨⟨_, _, _, rfl, fun _ => ⟨?_, s1, ?_⟩⟩, xAa HB1.out hb2⟩
 ·rw [s2]
 ·rw [s2]; exact s3
end Go.Proofs.YtginnonjdbpamaaGreatDoor
/- The iterator trace.Course: all readings of a trace, one after the other. -/
namespace Go.Proofs.YtginnonjdbpamaaGreatDoor
open Go.RowKit Go.Sort Go.Maps
def cutW (W : World) (N : Nat) : World := { W with heap := W.heap.extract 0 N }
theorem xEd {W : World} {N : Nat} (h : N ≤ W.heap.size) : (cutW W N).heap.size = N := by simp [cutW]; omega
theorem cutW_at {W : World} {N k : Nat} (hk : k < N) (h : N ≤ W.heap.size) : (cutW W N).heap[k]? = W.heap[k]? := by
 unfold cutW
 rw [Array.getElem?_extract]
 simp
 omega
theorem below_cut {W : World} {N : Nat} (h : N ≤ W.heap.size) : Below N (cutW W N) W := ⟨rfl, rfl, rfl, by rw [xEd h]; exact h, fun k hk => (cutW_at hk h).symm⟩
theorem below_cut2 {w W : World} {N : Nat} (hb : Below w.heap.size w W) (h : N ≤ W.heap.size) (hw : w.heap.size ≤ N) : Below w.heap.size w (cutW W N) :=
 ⟨hb.os, hb.tape, hb.output, by rw [xEd h]; exact hw, fun k hk => (cutW_at (by omega) h).trans (hb.block k hk)⟩
theorem Own.base {α : Type} {w : World} {B B' : Nat} {T : TypeId} {size : Nat} {enc : α → List Value} {v : Value} {xs : List α} (h : Own w B T size enc v xs) (e : B = B') : Own w B' T size enc v xs := e ▸ h
theorem Rdm.rebase {w w0 W W' : World} {b : Nat} {c : Con} {m : Cm} {r : Rd} {wl : Int → List Int} {q : Rq} (h : Rdm w0 W b c m r wl q) {p : Nat → Prop} (hk : Kept W W' p) (hp : ∀ x, p x → x < w0.heap.size) (hC : Cont w c m) (hB : Below w.heap.size w W') (hw : w.heap.size ≤ w0.heap.size) :
  Rdm (cutW W' w0.heap.size) W' b c m r wl q := by
 have hs : w0.heap.size ≤ W'.heap.size := Nat.le_trans h.hb.size hk.size
 have e := xEd hs
 have np : ∀ x, w0.heap.size ≤ x → ¬ p x := fun x hx hpx => by have := hp x hpx; omega
 have lb := h.lb
 refine ⟨h.g.kept hk (np _ lb.1), h.gc.kept hk (np _ lb.2.1), (h.oh.kept_ hk (np _ h.oh.lt_.1)).base e.symm, (h.oa.kept_ hk (np _ h.oa.lt_.1)).base e.symm, (h.ok.kept_ hk (np _ h.ok.lt_.1)).base e.symm, (h.oo.kept_ hk (np _ h.oo.lt_.1)).base e.symm, h.mp.keep (hk.k _ h.mp.lt (np _ lb.2.2)), fun k => ?_, h.ap, h.ah, ?_, by rw [e]; exact lb, h.bb, hC.then_ (below_cut2 hB hs hw), h.lo, h.lh, h.la⟩
 ·refine ⟨(h.ol k).1, ?_⟩
  rcases (h.ol k).2 with h2 | ⟨g', cap', cur, hv, hg', hh, r⟩
  ·exact .inl h2
  ·exact .inr ⟨g', cap', cur, hv, by rw [e]; exact hg', by rw [hk.k g' (Array.getElem?_eq_some_iff.1 hh).1 (np _ hg')]; exact hh, r⟩
 ·rw [e]; exact below_cut hs
theorem FL.rebase {w w0 W W' : World} {b : Nat} {c : Con} {m : Cm} {l : List Int} {i : Nat} {r : Rd} {wl : Int → List Int} {q : Rq} (h : FL w0 W b c m l i r wl q) {p : Nat → Prop} (hk : Kept W W' p) (hp : ∀ x, p x → x < w0.heap.size) (hC : Cont w c m) (hB : Below w.heap.size w W') (hw : w.heap.size ≤ w0.heap.size) :
  FL (cutW W' w0.heap.size) W' b c m l i r wl q := ⟨h.rd.rebase hk hp hC hB hw, h.g, h.n, h.e, h.s, h.d⟩
theorem FL.pS {w0 W : World} {b : Nat} {c : Con} {m : Cm} {l : List Int} {i : Nat} {r : Rd} {wl : Int → List Int} {q : Rq} (h : FL w0 W b c m l i r wl q) : ∀ x, q.pS b x → w0.heap.size ≤ x := fun x hx => by
 rcases hx with e | e | e | e | e | e
 ·rw [e]; exact h.rd.lb.1
 ·rw [e]; exact h.rd.oa.lt_.1
 ·rw [e]; exact h.rd.oo.lt_.1
 ·rw [e]; exact h.rd.ok.lt_.1
 ·rw [e]; exact h.rd.oh.lt_.1
 ·rw [e]; exact h.rd.lb.2.2
theorem course_any (c : Con) (m : Cm) (A : Option Addr) (n cap : Nat) (w : World) : Calls Tryz.prog 30 #[.agg (coA c m), .slice A n cap] w fun e w' => ∃ ba bl, e = .returned (.func (.func 60) #[] #[.pointer (some ⟨ba, 0, none⟩), .pointer (some ⟨bl, 0, none⟩)]) ∧
  Blk w' ba 27 (coA c m) ∧ Blk w' bl 22 #[.slice A n cap] ∧ Below w.heap.size w w' ∧ w.heap.size ≤ ba ∧ w.heap.size ≤ bl := by
 go_enter Tryz.func30, Tryz.ntmps30
 go_wp2
 go_ret
 refine ⟨_, _, rfl, ?_, ?_, ?_, Nat.le_refl _, ?_⟩
 ·exact (xA5 (by simp)).alloc _
 ·exact xA5 (by simp)
 ·(repeat (first | (with_reducible first | assumption | exact Below.refl _ _ | refine xAk ?_ _ | refine Below.drew ?_ | refine xAc ?_ _ | refine Below.setCell ?_ (by first | omega | (simp; done) | (simp; omega)) _ | refine xAa ?_ (by assumption)) | (refine xAa (a := World.drew _) ?_ (by with_reducible assumption))))
 ·simp
structure CJ (w : World) (c : Con) (m : Cm) (l : List Int) (A : Option Addr) (cap ba bl n₀ : Nat) (J : Nat → World → Prop) : Prop where
 s : ∀ i W, J i W → n₀ ≤ W.heap.size
 j : ∀ i W W', J i W → Below n₀ W W' → J i W'
 b : ∀ i W, J i W → Blk W ba 27 (coA c m) ∧ Blk W bl 22 #[.slice A l.length cap]
 e : ∀ i W, J i W → Below w.heap.size w W
 n : w.heap.size ≤ n₀
 c : Cont w c m
 a : Seg w w.heap.size 1 eI A l
def YR (c : Con) (l : List Int) (n lp n₀ : Nat) (p : Nat → Prop) (J : Nat → World → Prop) (Jx : World → Prop) : Prop :=
 ∀ (i : Nat) (W : World) (r : Rd) (gh ch go co : Nat), i ≤ l.length → J i W → r = (l.take i).foldl (fun r x => r.step c x) c.read0 → n₀ ≤ gh ∧ n₀ ≤ go → r.hol.length = c.hold.length ∧ r.oc.length = c.cl.length → Seg W W.heap.size 1 eI (some ⟨gh, 0, none⟩) r.hol → Seg W W.heap.size 5 eO (some ⟨go, 0, none⟩) (r.oc.map (·.1)) →
  YieldAt Fence.wide (n - 1) Tryz.prog lp #[.slice (some ⟨gh, 0, none⟩) r.hol.length ch, .slice (some ⟨go, 0, none⟩) r.oc.length co] W fun e W' => ∃ bv, e = .returned (.bool bv) ∧ (bv = true → J (i + 1) W' ∧ Kept W W' p) ∧ (bv = false → Jx W')
theorem FL.yield {w0 W : World} {b : Nat} {c : Con} {m : Cm} {l : List Int} {i n lp n₀ : Nat} {p : Nat → Prop} {J : Nat → World → Prop} {Jx : World → Prop} {r : Rd} {wl : Int → List Int} {q : Rq} (h : FL w0 W b c m l i r wl q) (hY : YR c l n lp n₀ p J Jx) (hi : i ≤ l.length) (hJ : J i W) (hN : n₀ ≤ w0.heap.size) :
  YieldAt Fence.wide (n - 1) Tryz.prog lp #[.slice (some ⟨q.h, 0, none⟩) r.hol.length q.hc, .slice (some ⟨q.o, 0, none⟩) r.oc.length q.oc] W fun e W' => ∃ bv, e = .returned (.bool bv) ∧ (bv = true → J (i + 1) W' ∧ Kept W W' p) ∧ (bv = false → Jx W') :=
 hY i W r q.h q.hc q.o q.oc hi hJ h.e ⟨Nat.le_trans hN h.rd.oh.lt_.1, Nat.le_trans hN h.rd.oo.lt_.1⟩ ⟨h.rd.lh, h.rd.lo⟩ (Own.seg_ xAz h.rd.oh).1 (Own.seg_ xDf h.rd.oo).1
theorem fl_keep {w W W' : World} {c : Con} {m : Cm} {l : List Int} {A : Option Addr} {cap ba bl n₀ N j b i : Nat} {J : Nat → World → Prop} {p : Nat → Prop} {r : Rd} {wl : Int → List Int} {q : Rq} (hJ : CJ w c m l A cap ba bl n₀ J) (hp : ∀ x, p x → x < n₀) (hN : n₀ ≤ N) (h : ∃ w0 : World, w0.heap.size = N ∧ FL w0 W b c m l i r wl q) (hj : J j W') (hk : Kept W W' p) :
  ∃ w0 : World, w0.heap.size = N ∧ FL w0 W' b c m l i r wl q := by
 obtain ⟨w0, e, h⟩ := h
 refine ⟨_, ?_, h.rebase hk (fun x hx => by have := hp x hx; omega) hJ.c (hJ.e j W' hj) (by have := hJ.n; omega)⟩
 rw [xEd (Nat.le_trans h.rd.hb.size hk.size), e]
theorem course1_in (n lp n₀ : Nat) (hn : 1 ≤ n) (w : World) (c : Con) (m : Cm) (l : List Int) (A : Option Addr) (cap ba bl : Nat) (hk : c.chk l = 0) (p : Nat → Prop) (hp : ∀ x, p x → x < n₀) (J : Nat → World → Prop) (Jx : World → Prop) (hJ : CJ w c m l A cap ba bl n₀ J) (hY : YR c l n lp n₀ p J Jx) (W : World) (h0 : J 0 W) :
  CallsIn Fence.wide n Tryz.prog 60 #[.func (.yield lp) #[] #[], .pointer (some ⟨ba, 0, none⟩), .pointer (some ⟨bl, 0, none⟩)] W fun e W' => (∃ v, e = .returned v) ∧ (J (l.length + 1) W' ∨ Jx W') := by
 obtain ⟨hok, hl, hr⟩ := xE2 hk
 have HJ := qzL hJ
 have HY := qzL hY
 have HP := qzL hp
 have HOK := qzL hok
 have HR := qzL hr
 have H0 := qzL h0
 have na := hJ.c.na
 obtain ⟨ga, gl⟩ := hJ.b 0 W h0
 have hw := hJ.e 0 W h0
 have lw := hJ.n
 have lW := hJ.s 0 W h0
 have HCK := qzL (xIh c m l A cap W (hJ.c.then_ hw) ((hJ.a.below hw).more hw.size) (by omega))
 rw [hk] at HCK
 have k0 : W.cell? ⟨bl, 0, none⟩ = some (.slice A l.length cap) := gl.cell 0
 have HA := qzL ga
 have HL := qzL gl
 clear hJ hY hp hok hr h0 hk ga gl
 refine callsIn_of_wp Tryz.func60 rfl trivial ?_ rfl
 simp only [Tryz.ntmps60, List.size_toArray, List.length_cons, List.length_nil, Nat.reduceAdd, Nat.reduceSub, Array.replicate_succ, Array.replicate_zero, List.push_toArray, List.append_toArray, qzF, qzE]
 refine wpIn_wide.2 ?_
 go_upto_region 1 with (first | (refine xAi (by rfl) 27 _ rfl ba rfl 27 _ HA.out ⟨_, Tryz.underlying27⟩ (by kernel_rfl) ?_; simp only [Act.put, qzG, qzH, qzI]) | (go_at_call 32; (with_reducible refine HCK.out.mono ?_); rintro e w1 ⟨rfl, hb1⟩))
 have HA1 := qzL (HA.out.then_ hb1)
 have h01 := qzL (HJ.out.j 0 W w1 H0.out (hb1.mono lW))
 have HBG := qzL (xIj c m w1 (HJ.out.c.then_ (HJ.out.e 0 w1 h01.out)) HOK.out)
 have l1 := HJ.out.s 0 w1 h01.out
 clear HA HL HCK hb1 k0 H0 hw lW
 go_upto_region 2 with (first | (refine xAi (by rfl) 27 _ rfl ba rfl 27 _ HA1.out ⟨_, Tryz.underlying27⟩ (by kernel_rfl) ?_; simp only [Act.put, qzG, qzH, qzI]) | (go_at_call 61; (with_reducible refine HBG.out.mono ?_); rintro e w2 ⟨b, wl0, q0, rfl, hR0, hG0, hn0, hb2⟩))
 have hF0 : Hid (FL w1 w2 b c m l 0 c.read0 wl0 q0) := FL.start hR0 hG0 hn0
 have h02 := qzL (HJ.out.j 0 w1 w2 h01.out (hb2.mono l1))
 obtain ⟨N, hN⟩ : ∃ N, w1.heap.size = N := ⟨_, rfl⟩
 have hNn : n₀ ≤ N := by omega
 have HF : Hid (∃ w0 : World, w0.heap.size = N ∧ FL w0 w2 b c m l 0 c.read0 wl0 q0) := ⟨w1, hN, hF0.out⟩
 clear HA1 HBG h01 l1 hR0 hG0 hn0 hb2 hF0 hN
 have b9 : w2.cell? ⟨b, 9, none⟩ = some (.slice (some ⟨q0.h, 0, none⟩) c.read0.hol.length q0.hc) := by obtain ⟨w0, _, h⟩ := HF.out; exact h.rd.g.cell 9
 have b14 : w2.cell? ⟨b, 14, none⟩ = some (.slice (some ⟨q0.o, 0, none⟩) c.read0.oc.length q0.oc) := by obtain ⟨w0, _, h⟩ := HF.out; exact h.rd.g.cell 14
 have HYD : Hid (YieldAt Fence.wide (n - 1) Tryz.prog lp #[.slice (some ⟨q0.h, 0, none⟩) c.read0.hol.length q0.hc, .slice (some ⟨q0.o, 0, none⟩) c.read0.oc.length q0.oc] w2.drew fun e W' => ∃ bv, e = .returned (.bool bv) ∧ (bv = true → J (0 + 1) W' ∧ Kept w2.drew W' p) ∧ (bv = false → Jx W')) := by
  obtain ⟨w0, e0, h⟩ := HF.out
  exact (h.then_ (Below.drew (Below.refl _ _))).yield HY.out (by omega) (HJ.out.j 0 w2 _ h02.out (Below.drew (Below.refl _ _))) (by omega)
 obtain ⟨fn, tmps, asg, bd, hy, hRR⟩ := HYD.out
 have HRR := qzL hRR
 clear hRR HYD
 refine (wpIn_wide (n := n)).1 ?_
 gi_region_with (refine HRR.out.mono ?_; rintro e W3 ⟨bv, rfl, hbt, hbf⟩)
 all_goals
  have Hbt := qzL hbt
  have Hbf := qzL hbf
  clear hbt hbf hy HRR b9 b14
  cases bv with
  | false =>
   go_wp2
   refine bodyPost_ret (results_none rfl _ _ _) rfl ?_
   exact ⟨⟨_, rfl⟩, .inr (Hbf.out (by trivial))⟩
  | true =>
   obtain ⟨hJ1, hK1⟩ := Hbt.out (by trivial)
   have HF1 : Hid (∃ w0 : World, w0.heap.size = N ∧ FL w0 W3 b c m l 0 c.read0 wl0 q0) := by
    refine fl_keep HJ.out HP.out hNn (W := w2.drew) ?_ hJ1 hK1
    obtain ⟨w0, e, h⟩ := HF.out
    exact ⟨w0, e, h.then_ (Below.drew (Below.refl _ _))⟩
   have HJ1 := qzL hJ1
   have k0 : W3.cell? ⟨bl, 0, none⟩ = some (.slice A l.length cap) := (HJ.out.b _ _ hJ1).2.cell 0
   clear Hbt Hbf hJ1 hK1 HF h02
   go_upto_region 4 with (fail)
   clear k0
   go_loopw [26] (fun y WR => ∃ (i : Nat) (r : Rd) (wl : Int → List Int) (q : Rq), y = .int .i64 i ∧ i ≤ l.length ∧ Hid (J (i + 1) WR) ∧ Hid (∃ w0 : World, w0.heap.size = N ∧ FL w0 WR b c m l i r wl q)) (fun y _ => 2000000 - (intOf y).toNat)
   case atStart => exact ⟨0, _, _, _, rfl, by omega, HJ1, HF1⟩
   case round =>
    clear HJ1 HF1
    obtain ⟨i, r, wl, q, rfl, hi, hJi, hF⟩ := hrel
    by_cases hlt : i < l.length
    case neg =>
     obtain rfl : i = l.length := by omega
     have tl : decide (((l.length : Nat) : Int) < ((l.length : Nat) : Int)) = false := qzN (by omega)
     go_wp2
     go_end0
     exact ⟨⟨_, rfl⟩, .inl hJi.out⟩
    have tl : decide ((i : Int) < (l.length : Int)) = true := qzO (by omega)
    obtain ⟨w0, e0, hL⟩ := hF.out
    obtain ⟨x, hx⟩ : ∃ x, l[i]? = some x := ⟨_, qzJ hlt⟩
    have hBw := HJ.out.e _ _ hJi.out
    obtain ⟨b0, o0, eA0, hb0, hc0⟩ := xAx ((HJ.out.a.below hBw).more hBw.size) hx
    have hix := fun W => xAq (t := 22) (size := 1) (cap := cap) eA0 hlt (by kernel_rfl) (fun W => by kernel_rfl) W
    have d0 : wr.cell? ⟨b0, o0 + i, none⟩ = some (.int .i64 x) := by simpa using hc0 0 _ rfl
    simp only [Nat.mul_one] at hix
    have HCL := qzL (hL.call HOK.out (by omega) hx (HR.out x (qzK hx)))
    have HPS := qzL hL.pS
    have lwr := HJ.out.s _ _ hJi.out
    have HE0 := qzL e0
    clear hc0 eA0 hx hBw hL e0 hF
    go_upto_region 7 with (go_at_call 62; (with_reducible refine HCL.out.mono ?_); rintro e w3 ⟨rfl, ⟨wl', q', hL', hq1, hq2⟩, hk3⟩; have HL' := qzL hL'; clear hL' hq1 hq2)
    have h03 := qzL (HJ.out.j _ _ w3 hJi.out (hk3.b n₀ (fun y hy => by have := HPS.out y hy; have := HE0.out; omega) lwr))
    have HF3 : Hid (∃ w0 : World, w0.heap.size = N ∧ FL w0 w3 b c m l (i + 1) (r.step c x) wl' q') := ⟨w0, HE0.out, HL'.out⟩
    have b9 : w3.cell? ⟨b, 9, none⟩ = some (.slice (some ⟨q'.h, 0, none⟩) (r.step c x).hol.length q'.hc) := HL'.out.rd.g.cell 9
    have b14 : w3.cell? ⟨b, 14, none⟩ = some (.slice (some ⟨q'.o, 0, none⟩) (r.step c x).oc.length q'.oc) := HL'.out.rd.g.cell 14
    have HYD : Hid (YieldAt Fence.wide (n - 1) Tryz.prog lp #[.slice (some ⟨q'.h, 0, none⟩) (r.step c x).hol.length q'.hc, .slice (some ⟨q'.o, 0, none⟩) (r.step c x).oc.length q'.oc] w3.drew fun e W' => ∃ bv, e = .returned (.bool bv) ∧ (bv = true → J (i + 1 + 1) W' ∧ Kept w3.drew W' p) ∧ (bv = false → Jx W')) :=
     (HL'.out.then_ (Below.drew (Below.refl _ _))).yield HY.out (by omega) (HJ.out.j _ w3 _ h03.out (Below.drew (Below.refl _ _))) (by have := HE0.out; omega)
    obtain ⟨fn, tmps, asg, bd, hy, hRR⟩ := HYD.out
    have HRR := qzL hRR
    clear hRR HYD HL' HE0 HPS HCL hk3 lwr hJi hix d0 hb0
    refine (wpIn_wide (n := n)).1 ?_
    gi_region_with (refine HRR.out.mono ?_; rintro e W4 ⟨bv, rfl, hbt, hbf⟩)
    all_goals
     have Hbt := qzL hbt
     have Hbf := qzL hbf
     clear hbt hbf hy HRR b9 b14
     cases bv with
     | false =>
      go_wp2
      refine bodyPost_ret (results_none rfl _ _ _) rfl ?_
      exact ⟨⟨_, rfl⟩, .inr (Hbf.out (by trivial))⟩
     | true =>
      obtain ⟨hJ1, hK1⟩ := Hbt.out (by trivial)
      have HF4 : Hid (∃ w0 : World, w0.heap.size = N ∧ FL w0 W4 b c m l (i + 1) (r.step c x) wl' q') := by
       refine fl_keep HJ.out HP.out hNn (W := w3.drew) ?_ hJ1 hK1
       obtain ⟨w0, e, h⟩ := HF3.out
       exact ⟨w0, e, h.then_ (Below.drew (Below.refl _ _))⟩
      have HJ4 := qzL hJ1
      clear Hbt Hbf hJ1 hK1 HF3 h03
      go_wp2
      go_roundw
      case rel => exact ⟨i + 1, _, _, _, by simp, by omega, HJ4, HF4⟩
      case measure => simp [intOf]; omega
end Go.Proofs.YtginnonjdbpamaaGreatDoor
/- The walk of validate.agrees. -/
namespace Go.Proofs.YtginnonjdbpamaaGreatDoor
open Go.RowKit Go.Sort
abbrev oL (o : Out) : List Value := [.int .i64 o.st, .int .i64 o.from_, .int .i64 o.to_, .int .i64 o.got, .int .i64 o.brr]
theorem elOu : ElT Tryz.prog 54 5 := ⟨⟨_, Tryz.underlying54⟩, by kernel_rfl, ⟨.agg #[.int .i64 0, .int .i64 0, .int .i64 0, .int .i64 0, .int .i64 0], rfl, fun w => by kernel_rfl⟩⟩
theorem agrees_any (s : Sta) (q : Qm) (d : Int) (hol : List Int) (oc : List Out) (Ah : Option Addr) (ch : Nat) (Ao : Option Addr) (co : Nat) (w : World) (hS : Stm w s q) (hh : Seg w w.heap.size 1 eI Ah hol) (ho : Seg w w.heap.size 5 eO Ao oc) (nh : hol.length ≤ 1000000) (no : oc.length ≤ 1000000) :
  Calls Tryz.prog 31 #[.agg (stA s q), .int .i64 d, .slice Ah hol.length ch, .slice Ao oc.length co] w fun e w' => e = .returned (.bool (agrP s d hol oc)) ∧ Below w.heap.size w w' := by
 obtain ⟨R, hR⟩ : ∃ R, agrP s d hol oc = R := ⟨_, rfl⟩
 rw [hR]
 have HR : Hid (R = decide (s.day = d ∧ s.hol = hol ∧ s.marks.map Mk.tri = oc.map Out.tri)) := hR.symm
 have HS := qzL hS
 have HH := qzL hh
 have HO := qzL ho
 have nh2 := hS.nh
 have nm2 := hS.nm
 clear hR hS hh ho
 go_enter Tryz.func31, Tryz.ntmps31
 go_upto_region 1 with (fail)
 refine xAf ?_
 intro X hX
 have gs : Blk X w.heap.size 43 (stA s q) := by rw [hX]; exact Blk.new _ _ _
 have HB : Hid (Below w.heap.size w X) := by rw [hX]; exact wa1 _ _
 obtain ⟨bs, ebs⟩ : ∃ b, w.heap.size = b := ⟨_, rfl⟩
 rw [ebs] at gs ⊢
 clear hX ebs
 have s0 : X.cell? ⟨bs, 0, none⟩ = some (.int .i64 s.day) := gs.cell 0
 have s1 : X.cell? ⟨bs, 1, none⟩ = some (.slice q.h s.hol.length q.hc) := gs.cell 1
 have s3 : X.cell? ⟨bs, 3, none⟩ = some (.slice q.m s.marks.length q.mc) := gs.cell 3
 have GS := qzL gs
 clear gs
 by_cases e1 : s.day = d
 case neg =>
  have t1 : (s.day != d) = true := by simpa using e1
  have t1' : (s.day == d) = false := by simpa using e1
  have hf : Hid (R = false) := by unfold Hid; rw [HR.out]; exact qzN fun h => e1 h.1
  clear e1
  go_wp2
  go_ret
  exact ⟨xAb hf.out.symm, HB.out⟩
 have t1 : (s.day != d) = false := by simpa using e1
 have t1' : (s.day == d) = true := by simpa using e1
 have HE1 := qzL e1
 clear e1
 by_cases e2 : s.hol.length = hol.length
 case neg =>
  have t2 : (((s.hol.length : Nat) : Int) == ((hol.length : Nat) : Int)) = false := beq_eq_false_iff_ne.2 (by omega)
  have t2' : (((s.hol.length : Nat) : Int) != ((hol.length : Nat) : Int)) = true := bne_iff_ne.2 (by omega)
  have hf : Hid (R = false) := by unfold Hid; rw [HR.out]; exact qzN fun h => e2 (by rw [h.2.1])
  clear e2
  go_wp2
  go_ret
  exact ⟨xAb hf.out.symm, HB.out⟩
 have t2 : (((s.hol.length : Nat) : Int) == ((hol.length : Nat) : Int)) = true := by simp [e2]
 have t2' : (((s.hol.length : Nat) : Int) != ((hol.length : Nat) : Int)) = false := by simp [e2]
 have HE2 := qzL e2
 clear e2
 by_cases e3 : s.marks.length = oc.length
 case neg =>
  have t3 : (((s.marks.length : Nat) : Int) == ((oc.length : Nat) : Int)) = false := beq_eq_false_iff_ne.2 (by omega)
  have t3' : (((s.marks.length : Nat) : Int) != ((oc.length : Nat) : Int)) = true := bne_iff_ne.2 (by omega)
  have hf : Hid (R = false) := by unfold Hid; rw [HR.out]; exact qzN fun h => e3 (by have := congrArg List.length h.2.2; simpa using this)
  clear e3
  go_wp2
  go_ret
  exact ⟨xAb hf.out.symm, HB.out⟩
 have t3 : (((s.marks.length : Nat) : Int) == ((oc.length : Nat) : Int)) = true := by simp [e3]
 have t3' : (((s.marks.length : Nat) : Int) != ((oc.length : Nat) : Int)) = false := by simp [e3]
 have HE3 := qzL e3
 clear e3
 go_upto_region 4 with (fail)
 clear t1 t1' t2 t2' t3 t3' s0 s1 s3
 go_loopw [36] (fun y WR => ∃ j : Nat, j ≤ hol.length ∧ y = .int .i64 j ∧ Hid (∀ n, n < j → s.hol[n]? = hol[n]?) ∧ X = WR) (fun y _ => 2000000 - (intOf y).toNat)
 case atStart => exact ⟨0, by omega, rfl, fun n h => absurd h (by omega), rfl⟩
 case round =>
  obtain ⟨j, hj, rfl, hN, rfl⟩ := hrel
  by_cases hlt : j < hol.length
  ·have tj : decide ((j : Int) < (hol.length : Int)) = true := qzO (by omega)
   have hlt2 : j < s.hol.length := by have := HE2.out; omega
   obtain ⟨x, hx⟩ : ∃ h, hol[j]? = some h := ⟨_, qzJ hlt⟩
   obtain ⟨y, hy⟩ : ∃ h, s.hol[j]? = some h := ⟨_, qzJ hlt2⟩
   obtain ⟨b0, o0, eA0, hb0, hc0⟩ := xAx ((HH.out.below HB.out).more HB.out.size) hx
   obtain ⟨b1, o1, eA1, hb1, hc1⟩ := xAx (HS.out.then_ HB.out).h hy
   have hix := fun W => xAq (t := 22) (size := 1) (cap := ch) eA0 hlt (by kernel_rfl) (fun W => by kernel_rfl) W
   have hiy := fun W => xAq (t := 22) (size := 1) (cap := q.hc) eA1 hlt2 (by kernel_rfl) (fun W => by kernel_rfl) W
   have d0 : X.cell? ⟨b0, o0 + j, none⟩ = some (.int .i64 x) := by simpa using hc0 0 _ rfl
   have d1 : X.cell? ⟨b1, o1 + j, none⟩ = some (.int .i64 y) := by simpa using hc1 0 _ rfl
   simp only [Nat.mul_one] at hix hiy
   have s1 : X.cell? ⟨bs, 1, none⟩ = some (.slice q.h s.hol.length q.hc) := GS.out.cell 1
   have HX := qzL hx
   have HY := qzL hy
   clear hc0 eA0 hx hc1 eA1 hy
   by_cases e : y = x
   ·have t1 : (y == x) = true := by simpa using e
    have t1' : (y != x) = false := by simpa using e
    have hE : Hid (∀ n, n < j + 1 → s.hol[n]? = hol[n]?) := fun n hn => by
     by_cases en : n = j
     ·rw [en, HX.out, HY.out, e]
     ·exact hN.out n (by omega)
    clear e hN
    go_wp2
    go_roundw
    case rel => exact ⟨j + 1, by omega, by simp, hE, by first | trivial | rfl⟩
    case measure => simp [intOf]; omega
   ·have t1 : (y == x) = false := by simpa using e
    have t1' : (y != x) = true := by simpa using e
    have hf : Hid (R = false) := by
     unfold Hid
     rw [HR.out]
     refine qzN fun h => e ?_
     have h1 := HY.out
     rw [h.2.1, HX.out] at h1
     exact (Option.some.inj h1).symm
    clear e hN
    go_wp2
    go_ret
    exact ⟨xAb hf.out.symm, HB.out⟩
  have tj : decide ((j : Int) < (hol.length : Int)) = false := qzN (by omega)
  have HEH : Hid (s.hol = hol) := List.ext_getElem? fun n => by
   by_cases hn : n < hol.length
   ·exact hN.out n (by omega)
   ·rw [List.getElem?_eq_none (by have := HE2.out; omega), List.getElem?_eq_none (by omega)]
  clear hN
  go_upto_region 10 with (fail)
  clear tj hlt
  go_loopw [51] (fun y WR => ∃ j : Nat, j ≤ oc.length ∧ y = .int .i64 j ∧ Hid (∀ n, n < j → (s.marks[n]?).map Mk.tri = (oc[n]?).map Out.tri) ∧ Hid (Below X.heap.size X WR)) (fun y _ => 2000000 - (intOf y).toNat)
  case atStart => exact ⟨0, by omega, rfl, fun n h => absurd h (by omega), Below.refl _ _⟩
  case round =>
   obtain ⟨j, hj, rfl, hN, hBR⟩ := hrel
   by_cases hlt : j < oc.length
   ·have tj : decide ((j : Int) < (oc.length : Int)) = true := qzO (by omega)
    have hlt2 : j < s.marks.length := by have := HE3.out; omega
    have HBW := qzL (xAa HB.out hBR.out)
    obtain ⟨x, hx⟩ : ∃ h, oc[j]? = some h := ⟨_, qzJ hlt⟩
    obtain ⟨y, hy⟩ : ∃ h, s.marks[j]? = some h := ⟨_, qzJ hlt2⟩
    obtain ⟨b0, o0, eA0, hb0, hc0⟩ := xAx ((HO.out.below HBW.out).more HBW.out.size) hx
    have hix := fun W => xAq (t := 37) (size := 5) (cap := co) eA0 hlt (by kernel_rfl) (fun W => by kernel_rfl) W
    have hrg : wr.rangeAt b0 (o0 + j * 5) (oL x) := fun j v hv => hc0 j v hv
    have HX := qzL hx
    have HY := qzL hy
    clear hc0 eA0 hx hy
    go_upto_region 12 with ((refine xBu 54 elOu _ _ _ _ _ rfl rfl rfl rfl rfl rfl rfl rfl rfl rfl rfl rfl b0 _ rfl (oL x) rfl hrg (by simp [Value.oneCell']) (by decide) (by decide) (by decide) (by simp) (by simp) (.int .i64 (j : Nat)) rfl ?_; simp only [Act.put, qzG, qzH, qzI]))
    refine xAf ?_
    intro V hV
    have go_ : Blk V wr.heap.size 54 (oL x).toArray := by rw [hV]; exact Blk.new _ _ _
    have HBV : Hid (Below wr.heap.size wr V) := by rw [hV]; exact wa1 _ _
    obtain ⟨bo, ebo⟩ : ∃ b, wr.heap.size = b := ⟨_, rfl⟩
    rw [ebo] at go_ ⊢
    have GO := qzL go_
    clear hV hrg hix hb0 go_ ebo
    have HBV2 := qzL (xAa HBW.out HBV.out)
    obtain ⟨b1, o1, eA1, hb1, hc1⟩ := xAx (HS.out.then_ HBV2.out).m HY.out
    have hiy := fun W => xAq (t := 41) (size := 5) (cap := q.mc) eA1 hlt2 (by kernel_rfl) (fun W => by kernel_rfl) W
    have hrg : V.rangeAt b1 (o1 + j * 5) (mL y) := fun j v hv => hc1 j v hv
    have s3 : V.cell? ⟨bs, 3, none⟩ = some (.slice q.m s.marks.length q.mc) := (GS.out.then_ (xAa hBR.out HBV.out)).cell 3
    clear hc1 eA1
    go_upto_region 13 with ((refine xAo 46 elM _ _ _ rfl rfl rfl rfl rfl rfl rfl rfl rfl b1 _ rfl (mL y) rfl hrg (by simp [Value.oneCell']) (by decide) (by simp) (by simp) ?_; simp only [Act.put, qzG, qzH, qzI]))
    refine xAf ?_
    intro U hU
    have gm : Blk U V.heap.size 46 (mA y) := by rw [hU]; exact Blk.new _ _ _
    have HBU : Hid (Below V.heap.size V U) := by rw [hU]; exact wa1 _ _
    have gx := GO.out.then_ HBU.out
    obtain ⟨bm, ebm⟩ : ∃ b, V.heap.size = b := ⟨_, rfl⟩
    rw [ebm] at gm ⊢
    have HBF := qzL (xAa hBR.out (xAa HBV.out HBU.out))
    have m0 : U.cell? ⟨bm, 0, none⟩ = some (.int .i64 y.st) := gm.cell 0
    have m2 : U.cell? ⟨bm, 2, none⟩ = some (.int .i64 y.got) := gm.cell 2
    have m3 : U.cell? ⟨bm, 3, none⟩ = some (.int .i64 y.brr) := gm.cell 3
    have o0_ : U.cell? ⟨bo, 0, none⟩ = some (.int .i64 x.st) := gx.cell 0
    have o3_ : U.cell? ⟨bo, 3, none⟩ = some (.int .i64 x.got) := gx.cell 3
    have o4_ : U.cell? ⟨bo, 4, none⟩ = some (.int .i64 x.brr) := gx.cell 4
    clear hU hrg hiy hb1 s3 gm gx ebm HBU HBV HBV2
    have bad : y.tri ≠ x.tri → Hid (R = false) := fun e => by
     unfold Hid
     rw [HR.out]
     refine qzN fun h => e ?_
     have h1 := congrArg (fun l => l[j]?) h.2.2
     simp only [List.getElem?_map, HX.out, HY.out, Option.map_some, Option.some.injEq] at h1
     exact h1
    have good : y.tri = x.tri → Hid (∀ n, n < j + 1 → (s.marks[n]?).map Mk.tri = (oc[n]?).map Out.tri) := fun e n hn => by
     by_cases en : n = j
     ·rw [en, HX.out, HY.out, Option.map_some, Option.map_some, e]
     ·exact hN.out n (by omega)
    by_cases q1 : y.st = x.st
    case neg =>
     have t1 : (y.st != x.st) = true := by simpa using q1
     have t1' : (y.st == x.st) = false := by simpa using q1
     have hf := bad fun h => q1 (congrArg (·.1) h)
     clear q1 bad good
     go_wp2
     go_ret
     exact ⟨xAb hf.out.symm, xAa HB.out HBF.out⟩
    have t1 : (y.st != x.st) = false := by simpa using q1
    have t1' : (y.st == x.st) = true := by simpa using q1
    by_cases q2 : y.got = x.got
    case neg =>
     have t2 : (y.got != x.got) = true := by simpa using q2
     have t2' : (y.got == x.got) = false := by simpa using q2
     have hf := bad fun h => q2 (congrArg (fun z => z.2.1) h)
     clear q1 q2 bad good
     go_wp2
     go_ret
     exact ⟨xAb hf.out.symm, xAa HB.out HBF.out⟩
    have t2 : (y.got != x.got) = false := by simpa using q2
    have t2' : (y.got == x.got) = true := by simpa using q2
    by_cases q3 : y.brr = x.brr
    case neg =>
     have t3 : (y.brr != x.brr) = true := by simpa using q3
     have t3' : (y.brr == x.brr) = false := by simpa using q3
     have hf := bad fun h => q3 (congrArg (fun z => z.2.2) h)
     clear q1 q2 q3 bad good
     go_wp2
     go_ret
     exact ⟨xAb hf.out.symm, xAa HB.out HBF.out⟩
    have t3 : (y.brr != x.brr) = false := by simpa using q3
    have t3' : (y.brr == x.brr) = true := by simpa using q3
    have hE := good (by unfold Mk.tri Out.tri; rw [q1, q2, q3])
    clear q1 q2 q3 bad good hN
    go_wp2
    go_roundw
    case rel => exact ⟨j + 1, by omega, by simp, hE, HBF⟩
    case measure => simp [intOf]; omega
   have tj : decide ((j : Int) < (oc.length : Int)) = false := qzN (by omega)
   have hf : Hid (R = true) := by
    unfold Hid
    rw [HR.out]
    refine qzO ⟨HE1.out, HEH.out, List.ext_getElem? fun n => ?_⟩
    rw [List.getElem?_map, List.getElem?_map]
    by_cases hn : n < oc.length
    ·exact hN.out n (by omega)
    ·rw [List.getElem?_eq_none (by have := HE3.out; omega), List.getElem?_eq_none (by omega)]
     rfl
   go_wp2
   go_ret
   exact ⟨xAb hf.out.symm, xAa HB.out hBR.out⟩
end Go.Proofs.YtginnonjdbpamaaGreatDoor
/- The walk of validate.Agrees. -/
namespace Go.Proofs.YtginnonjdbpamaaGreatDoor
open Go.RowKit Go.Sort
attribute [local go_sem] Oper.semAt_some
abbrev rdAt (c : Con) (l : List Int) (j : Nat) : Rd := (l.take j).foldl (fun r x => r.step c x) c.read0
theorem reads_at (c : Con) : ∀ (l : List Int) (r : Rd) (j : Nat), j ≤ l.length → (xCt c r l)[j]? = some ((l.take j).foldl (fun r x => r.step c x) r)
 | [], r, 0, _ => rfl
 | x :: l, r, 0, _ => rfl
 | x :: l, r, j + 1, h => by
  rw [xCt, qzB, reads_at c l _ j (by simpa using h)]
  rfl
theorem xHn {c : Con} {l : List Int} {j : Nat} {x : Int} (h : l[j]? = some x) : rdAt c l (j + 1) = (rdAt c l j).step c x := by
 unfold rdAt
 rw [List.take_add_one, h, List.foldl_append]
 rfl
theorem rdAt_end {c : Con} {l : List Int} {j : Nat} (h : l.length ≤ j) : rdAt c l (j + 1) = rdAt c l j := by
 unfold rdAt
 rw [List.take_of_length_le h, List.take_of_length_le (by omega)]
theorem agL_step {S : List Sta} {R : List Rd} {j : Nat} {s : Sta} {r : Rd} (hs : S[j]? = some s) (hr : R[j]? = some r) : agL j (S.drop j) (R.drop j) = if agrR s r = true then agL (j + 1) (S.drop (j + 1)) (R.drop (j + 1)) else ((j : Int), false) := by
 obtain ⟨h1, e1⟩ := qzM hs
 obtain ⟨h2, e2⟩ := qzM hr
 rw [List.drop_eq_getElem_cons h1, List.drop_eq_getElem_cons h2, e1, e2, agL]
theorem agL_over {S : List Sta} {R : List Rd} {j : Nat} (h : S.length ≤ j) : agL j (S.drop j) (R.drop j) = (-1, true) := by
 rw [List.drop_eq_nil_of_le h]
 simp [agL]
theorem res_ib {fn : Func} {tmps : Array Value} {w : World} {r s g g2 : Nat} {v : Int} {b : Bool} (hres : fn.results = #[.cell r 3, .cell s 4]) (hp : tmps.getD r undef = .pointer (some ⟨g, 0, none⟩)) (hp2 : tmps.getD s undef = .pointer (some ⟨g2, 0, none⟩)) (c1 : w.cell? ⟨g, 0, none⟩ = some (.int .i64 v)) (c2 : w.cell? ⟨g2, 0, none⟩ = some (.bool b)) :
  (results fn tmps).run Tryz.prog w = .ok (.tuple #[.int .i64 v, .bool b]) w := by
 simp only [Array.getD_eq_getD_getElem?] at hp hp2
 simp [results, hres, hp, hp2, go_sem, c1, c2]
structure Stl (w : World) (A : Option Addr) (rows : List (Sta × Qm)) : Prop where
 s : Seg w w.heap.size 4 eQ A rows
 r : ∀ x ∈ rows, Stm w x.1 x.2
theorem Stl.then_ {w w' : World} {A : Option Addr} {rows : List (Sta × Qm)} (h : Stl w A rows) (hb : Below w.heap.size w w') : Stl w' A rows := ⟨(h.s.below hb).more hb.size, fun x hx => (h.r x hx).then_ hb⟩
structure AJ (w W : World) (c : Con) (m : Cm) (l : List Int) (A : Option Addr) (cap : Nat) (Av : Option Addr) (capv : Nat) (rows : List (Sta × Qm)) (ba bl bv r0 r1 s10 d11 ca cl j : Nat) : Prop where
 e : Below w.heap.size w W
 gl : Blk W bl 22 #[.slice A l.length cap]
 gv : Blk W bv 30 #[.slice Av rows.length capv]
 g0 : Blk W r0 3 #[.int .i64 0]
 g1 : Blk W r1 4 #[.bool false]
 gs : Blk W s10 3 #[.int .i64 (j : Nat)]
 gd : Blk W d11 3 #[.int .i64 (rdAt c l j).day]
 ca_ : Blk W ca 27 (coA c m)
 cl_ : Blk W cl 22 #[.slice A l.length cap]
 g : agL j ((rows.map (·.1)).drop j) ((xCt c c.read0 l).drop j) = agL 0 (rows.map (·.1)) (xCt c c.read0 l)
theorem AJ.below {w W W' : World} {c : Con} {m : Cm} {l : List Int} {A : Option Addr} {cap : Nat} {Av : Option Addr} {capv : Nat} {rows : List (Sta × Qm)} {ba bl bv r0 r1 s10 d11 ca cl j n : Nat} (h : AJ w W c m l A cap Av capv rows ba bl bv r0 r1 s10 d11 ca cl j) (hb : Below n W W') (hn : bl < n ∧ bv < n ∧ r0 < n ∧ r1 < n ∧ s10 < n ∧ d11 < n ∧ ca < n ∧ cl < n) (hw : w.heap.size ≤ n) :
  AJ w W' c m l A cap Av capv rows ba bl bv r0 r1 s10 d11 ca cl j :=
 ⟨h.e.trans (hb.mono hw), h.gl.below hb hn.1, h.gv.below hb hn.2.1, h.g0.below hb hn.2.2.1, h.g1.below hb hn.2.2.2.1, h.gs.below hb hn.2.2.2.2.1, h.gd.below hb hn.2.2.2.2.2.1, h.ca_.below hb hn.2.2.2.2.2.2.1, h.cl_.below hb hn.2.2.2.2.2.2.2, h.g⟩
end Go.Proofs.YtginnonjdbpamaaGreatDoor
