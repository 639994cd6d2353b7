/- Contracts of functions and plain laws, joined: VbC, Up, Uq. -/
import Derived.Test.YtginnonjdbpamaaGreatDoorMb22
import Derived.Test.YtginnonjdbpamaaGreatDoorMb31
import Derived.Test.YtginnonjdbpamaaGreatDoorMb12
/- States of a run against the readings of its trace: what validate.Agrees computes, and that they agree. No program in sight. -/
import Derived.Test.YtginnonjdbpamaaGreatDoorMb1
set_option maxHeartbeats 6400000
set_option maxRecDepth 100000
namespace Go.Proofs.YtginnonjdbpamaaGreatDoor
def Mk.tri (m : Mk) : Int × Int × Int := (m.st, m.got, m.brr)
def Out.tri (o : Out) : Int × Int × Int := (o.st, o.got, o.brr)
def agrP (s : Sta) (d : Int) (hol : List Int) (oc : List Out) : Bool := decide (s.day = d ∧ s.hol = hol ∧ s.marks.map Mk.tri = oc.map Out.tri)
def agrR (s : Sta) (r : Rd) : Bool := agrP s r.day r.hol (r.oc.map (·.1))
def agL : Nat → List Sta → List Rd → Int × Bool
 | k, s :: ss, r :: rs => if agrR s r = true then agL (k + 1) ss rs else ((k : Int), false)
 | _, _, _ => (-1, true)
def Con.agr (c : Con) (l : List Int) (S : List Sta) : Int × Bool := if S.length ≠ l.length + 1 ∨ c.chk l ≠ 0 then (-1, false) else agL 0 S (reads c c.read0 l)
theorem agL_all : ∀ (k : Nat) (S : List Sta) (R : List Rd), (∀ (i : Nat) s r, S[i]? = some s → R[i]? = some r → agrR s r = true) → agL k S R = (-1, true)
 | _, [], _, _ => by simp [agL]
 | _, _ :: _, [], _ => by simp [agL]
 | k, s :: S, r :: R, h => by
  rw [agL, if_pos (h 0 s r rfl rfl)]
  exact agL_all (k + 1) S R fun i s' r' h1 h2 => h (i + 1) s' r' h1 h2
theorem agL_at : ∀ (n k : Nat) (S : List Sta) (R : List Rd) (s : Sta) (r : Rd), S[n]? = some s → R[n]? = some r → agrR s r = false → (∀ (i : Nat) s r, i < n → S[i]? = some s → R[i]? = some r → agrR s r = true) → agL k S R = (((k + n : Nat) : Int), false)
 | 0, k, s :: S, r :: R, s', r', h1, h2, h3, _ => by
  cases h1; cases h2
  rw [agL, if_neg (by rw [h3]; decide)]
  rfl
 | n + 1, k, s :: S, r :: R, s', r', h1, h2, h3, h => by
  rw [agL, if_pos (h 0 s r (by omega) rfl rfl), agL_at n (k + 1) S R s' r' h1 h2 h3 fun i a b hi e1 e2 => h (i + 1) a b (by omega) e1 e2]
  congr 2
  omega
 | _, _, [], _, _, _, h1, _, _, _ => by simp at h1
 | _, _, _ :: _, [], _, _, _, h2, _, _ => by simp at h2
theorem zip_tri {c : Con} {r : Rd} (h : r.oc.length = c.cl.length) : (r.marks c).map Mk.tri = (r.oc.map (·.1)).map Out.tri := by
 refine List.ext_getElem? fun i => ?_
 rw [List.getElem?_map, List.map_map, List.getElem?_map]
 by_cases hi : i < c.cl.length
 ·obtain ⟨k, hk⟩ : ∃ k, c.cl[i]? = some k := ⟨_, qzJ hi⟩
  obtain ⟨p, hp⟩ : ∃ p, r.oc[i]? = some p := ⟨_, qzJ (by omega)⟩
  rw [marks_at hk hp, hp]
  simp only [Option.map_some, Function.comp, Mk.tri, Out.tri, Option.some.injEq]
  unfold mkOf
  split
  ·next e => simp [e]
  ·split
   ·next e => simp [e]
   ·rfl
 ·rw [List.getElem?_eq_none (by rw [marks_len h]; omega), List.getElem?_eq_none (by omega)]
  rfl
theorem rel_agr {c : Con} {r : Rd} {s : Sta} (h : RInv c r) (hr : Rel c r s) : agrR s r = true := by
 unfold agrR agrP
 rw [decide_eq_true_eq, hr.marks]
 exact ⟨hr.day, hr.hol, zip_tri h.len⟩
structure RS (c : Con) (r : Rd) (s : Sta) : Prop where
 rel : Rel c r s
 inv : RInv c r
 shut : Shut c (r.marks c)
 ok : SOk c s
theorem RS.first {c : Con} (hc : c.ok = true) : RS c c.read0 c.first := by
 obtain ⟨h1, h2⟩ := first_rel (ok_good hc)
 exact ⟨h1, h2, startR_shut (ok_good hc) (base_inv (ok_good hc)), first_ok hc⟩
theorem stepE_x {c : Con} {s : Sta} {x : Int} (h : s.stepE c x = 0) : -1 ≤ x ∧ x < (c.ac.length : Int) := by
 unfold Sta.stepE at h
 split at h
 ·cases h
 ·next h1 =>
  rw [not_or, not_or] at h1
  omega
theorem RS.step {c : Con} {r : Rd} {s : Sta} {x : Int} (hc : c.ok = true) (h : RS c r s) (he : s.stepE c x = 0) : RS c (r.step c x) (s.step c x) := by
 have hs := step_ok h.ok he
 have hx := stepE_x he
 have hg := ok_good hc
 unfold Rd.step Sta.step at *
 by_cases e : x = -1
 ·rw [if_pos e] at hs ⊢
  rw [if_pos e]
  obtain ⟨h1, h2⟩ := tick_rel hg h.inv h.rel
  refine ⟨h1, h2, ?_, hs⟩
  rw [tick_W]
  exact startR_shut hg (tickW_inv hg (rinv_bump h.inv)).1
 ·rw [if_neg e] at hs ⊢
  rw [if_neg e]
  have hn : x.toNat < c.ac.length := by omega
  obtain ⟨h1, h2⟩ := act_rel hg (ok_pause hc) h.inv h.shut h.rel hn
  refine ⟨h1, h2, ?_, hs⟩
  obtain ⟨a, ha⟩ : ∃ a, c.ac[x.toNat]? = some a := ⟨_, qzJ hn⟩
  rw [act_W ha]
  exact startR_shut hg (actW_inv hg (ok_pause hc) (rinv_bump h.inv) ha).1
theorem reads_len (c : Con) : ∀ (l : List Int) (r : Rd), (reads c r l).length = l.length + 1
 | [], _ => rfl
 | x :: l, r => by rw [reads, List.length_cons, reads_len c l]; rfl
theorem rs_at {c : Con} (hc : c.ok = true) : ∀ (l : List Int) (r : Rd) (s : Sta), RS c r s → runE c s l = 0 → ∀ (i : Nat) s' r', (statesS c s l)[i]? = some s' → (reads c r l)[i]? = some r' → RS c r' s'
 | [], r, s, h, _, 0, s', r', h1, h2 => by cases h1; cases h2; exact h
 | [], r, s, h, _, i + 1, s', r', h1, h2 => by simp [statesS] at h1
 | x :: l, r, s, h, _, 0, s', r', h1, h2 => by cases h1; cases h2; exact h
 | x :: l, r, s, h, he, i + 1, s', r', h1, h2 => by
  rw [runE] at he
  split at he
  ·next e => exact rs_at hc l _ _ (h.step hc e) he i s' r' h1 h2
  ·next e => exact absurd he e
theorem run_zero {c : Con} {l : List Int} (h : c.runE l = 0) : c.ok = true ∧ l.length ≤ 4000 ∧ runE c c.first l = 0 := by
 unfold Con.runE at h
 split at h
 ·next e => exact absurd h e
 ·next e =>
  split at h
  ·cases h
  ·next e2 =>
   refine ⟨?_, by omega, h⟩
   rw [Decidable.not_not] at e
   unfold Con.startE at e
   cases hc : c.ok with
   | true => rfl
   | false => rw [hc] at e; exact absurd e (by decide)
theorem runS_ok {c : Con} {l : List Int} (h : c.runE l = 0) : c.runS l = statesS c c.first l := by unfold Con.runS; rw [if_pos h]
theorem runS_len {c : Con} {l : List Int} (h : c.runE l = 0) : (c.runS l).length = l.length + 1 := by rw [runS_ok h, statesS_len]
theorem runS_no {c : Con} {l : List Int} (h : c.runE l ≠ 0) : c.runS l = [] := by unfold Con.runS; rw [if_neg h]
theorem run_rs {c : Con} {l : List Int} (h : c.runE l = 0) {i : Nat} {s : Sta} {r : Rd} (h1 : (c.runS l)[i]? = some s) (h2 : (reads c c.read0 l)[i]? = some r) : RS c r s := by
 obtain ⟨hc, _, he⟩ := run_zero h
 rw [runS_ok h] at h1
 exact rs_at hc l _ _ (RS.first hc) he i s r h1 h2
theorem differs_law {c : Con} {l : List Int} (h : c.runE l = 0) {n : Nat} {s x : Sta} (hs : (c.runS l)[n]? = some s) :
  (¬ (x.day = s.day ∧ x.hol = s.hol ∧ x.marks.map Mk.tri = s.marks.map Mk.tri) → c.agr l ((c.runS l).set n x) = ((n : Int), false)) ∧
  ((x.day = s.day ∧ x.hol = s.hol ∧ x.marks.map Mk.tri = s.marks.map Mk.tri) → c.agr l ((c.runS l).set n x) = (-1, true)) := by
 have hn := (List.getElem?_eq_some_iff.1 hs).1
 have hl := runS_len h
 obtain ⟨r, hr⟩ : ∃ r, (reads c c.read0 l)[n]? = some r := ⟨_, qzJ (by rw [reads_len]; omega)⟩
 have hrs := run_rs h hs hr
 have ha := rel_agr hrs.inv hrs.rel
 unfold agrR agrP at ha
 rw [decide_eq_true_eq] at ha
 have hx : (c.runS l |>.set n x)[n]? = some x := List.getElem?_set_self hn
 have hne : ∀ (i : Nat) (a : Sta) (b : Rd), i ≠ n → ((c.runS l).set n x)[i]? = some a → (reads c c.read0 l)[i]? = some b → agrR a b = true := fun i a b hi h1 h2 => by
  rw [List.getElem?_set_ne (Ne.symm hi)] at h1
  have := run_rs h h1 h2
  exact rel_agr this.inv this.rel
 unfold Con.agr
 rw [← run_chk, List.length_set, if_neg (by rw [hl]; simp [h])]
 constructor
 ·intro hd
  rw [agL_at n 0 _ _ x r hx hr ?_ fun i a b hi h1 h2 => hne i a b (by omega) h1 h2]
  ·simp
  ·unfold agrR agrP
   rw [decide_eq_false_iff_not]
   intro hq
   exact hd ⟨hq.1.trans ha.1.symm, hq.2.1.trans ha.2.1.symm, hq.2.2.trans ha.2.2.symm⟩
 ·intro hd
  refine agL_all _ _ _ fun i a b h1 h2 => ?_
  by_cases hi : i = n
  ·subst hi
   rw [hx] at h1
   rw [hr] at h2
   cases h1; cases h2
   unfold agrR agrP
   rw [decide_eq_true_eq]
   exact ⟨hd.1.trans ha.1, hd.2.1.trans ha.2.1, hd.2.2.trans ha.2.2⟩
  ·exact hne i a b hi h1 h2
def Sta.breach (c : Con) (s : Sta) (p : Int) : Bool :=
 decide (0 ≤ p) && decide (p < c.par) && s.ok c && (List.zipWith (fun (k : Cla) (m : Mk) => k.fin && m.st == 4 && m.brr == p) c.cl s.marks).any id
def failed (c : Con) (oc : List Out) (p : Int) : Bool := (List.zipWith (fun (k : Cla) (o : Out) => k.fin && o.st == 4 && o.brr == p) c.cl oc).any id
def Con.follow (c : Con) (l : List Int) : Rd := l.foldl (fun r x => r.step c x) c.read0
end Go.Proofs.YtginnonjdbpamaaGreatDoor
/- The walks of trace.follow and trace.Outcomes. -/
namespace Go.Proofs.YtginnonjdbpamaaGreatDoor
open Go.RowKit Go.Sort Go.Maps
theorem step_cnt {c : Con} {r : Rd} {x : Int} (hx : -1 ≤ x ∧ x < (c.ac.length : Int)) : (r.step c x).steps = r.steps + 1 ∧ (r.step c x).day = if x = -1 then r.day + 1 else r.day := by
 unfold Rd.step
 by_cases e : x = -1
 ·rw [if_pos e, if_pos e]; exact ⟨rfl, rfl⟩
 ·rw [if_neg e, if_neg e]
  obtain ⟨a, ha⟩ : ∃ a, c.ac[x.toNat]? = some a := ⟨_, qzJ (by omega)⟩
  unfold Rd.act
  rw [ha]
  simp only
  split <;> exact ⟨rfl, rfl⟩
theorem chkL_range {c : Con} : ∀ {l : List Int} {d : Int}, chkL c d l = 0 → ∀ x ∈ l, -1 ≤ x ∧ x < (c.ac.length : Int)
 | [], _, _, _, hx => by cases hx
 | y :: l, d, h, x, hx => by
  rw [chkL] at h
  split at h
  ·cases h
  ·next h1 =>
   split at h
   ·cases h
   ·rcases List.mem_cons.1 hx with rfl | hx
    ·rw [not_or] at h1; omega
    ·exact chkL_range h x hx
theorem chk_zero {c : Con} {l : List Int} (h : c.chk l = 0) : c.ok = true ∧ l.length ≤ 4000 ∧ ∀ x ∈ l, -1 ≤ x ∧ x < (c.ac.length : Int) := by
 unfold Con.chk at h
 split at h
 ·cases h
 ·next h1 =>
  split at h
  ·cases h
  ·exact ⟨by cases hc : c.ok with | true => rfl | false => exact absurd hc h1, by omega, chkL_range h⟩
structure FL (w W : World) (b : Nat) (c : Con) (m : Cm) (l : List Int) (i : Nat) (r : Rd) (wl : Int → List Int) (q : Rq) : Prop where
 rd : Rdm w W b c m r wl q
 g : RG c r wl
 n : q.n ≤ 1000000 + 1000 * i
 e : r = (l.take i).foldl (fun r x => r.step c x) c.read0
 s : r.steps = i
 d : 0 ≤ r.day ∧ r.day ≤ i
theorem FL.start {w W : World} {b : Nat} {c : Con} {m : Cm} {l : List Int} {wl : Int → List Int} {q : Rq} (h : Rdm w W b c m c.read0 wl q) (hG : RG c c.read0 wl) (hn : q.n ≤ 1000000) : FL w W b c m l 0 c.read0 wl q :=
 ⟨h, hG, by omega, rfl, rfl, Int.le_refl _, Int.le_refl _⟩
theorem FL.next {w W W' : World} {b : Nat} {c : Con} {m : Cm} {l : List Int} {i : Nat} {r : Rd} {wl : Int → List Int} {q : Rq} {x : Int} (h : FL w W b c m l i r wl q) (hx : l[i]? = some x) (hr : -1 ≤ x ∧ x < (c.ac.length : Int)) {W0 : World} (hs : StepR w W0 W' b c m (r.step c x) q) : ∃ wl' q', FL w W' b c m l (i + 1) (r.step c x) wl' q' ∧ q'.o = q.o ∧ q'.h = q.h := by
 obtain ⟨wl', f, n, h1, h2, h3⟩ := hs.x
 obtain ⟨e1, e2⟩ := step_cnt (c := c) (r := r) hr
 refine ⟨wl', q.wf f n, ⟨h1, h2, ?_, ?_, ?_, ?_⟩, rfl, rfl⟩
 ·have h4 := h.n
  have h5 : n ≤ 1000000 + 1000 * (i + 1) := by omega
  exact h5
 ·rw [List.take_add_one, hx, List.foldl_append, ← h.e]
  rfl
 ·rw [e1, h.s]; rfl
 ·rw [e2]
  have := h.d
  split <;> omega
theorem FL.then_ {w W W' : World} {b : Nat} {c : Con} {m : Cm} {l : List Int} {i : Nat} {r : Rd} {wl : Int → List Int} {q : Rq} (h : FL w W b c m l i r wl q) (hb : Below W.heap.size W W') : FL w W' b c m l i r wl q := ⟨h.rd.then_ hb, h.g, h.n, h.e, h.s, h.d⟩
theorem FL.call {w W : World} {b : Nat} {c : Con} {m : Cm} {l : List Int} {i : Nat} {r : Rd} {wl : Int → List Int} {q : Rq} {x : Int} (h : FL w W b c m l i r wl q) (hok : c.ok = true) (hi : i ≤ 1000000) (hx : l[i]? = some x) (hr : -1 ≤ x ∧ x < (c.ac.length : Int)) :
  Calls Tryz.prog 62 #[.pointer (some ⟨b, 0, none⟩), .int .i64 x] W fun e w' => e = .returned (.tuple #[]) ∧ (∃ wl' q', FL w w' b c m l (i + 1) (r.step c x) wl' q' ∧ q'.o = q.o ∧ q'.h = q.h) ∧ Kept W w' (q.pS b) :=
 (stepR_any w b c m r wl q x W h.rd hok (ok_start hok).1 (ok_start hok).2.1 h.g (by rw [h.s]; omega) ⟨h.d.1, by have := h.d.2; omega⟩ hr (by have := h.n; omega)).mono fun e w' ⟨h1, h2⟩ => ⟨h1, h.next hx hr h2, h2.k⟩
theorem follow_any (c : Con) (m : Cm) (l : List Int) (A : Option Addr) (cap : Nat) (w : World) (hC : Cont w c m) (hA : Seg w w.heap.size 1 eI A l) (hk : c.chk l = 0) :
  Calls Tryz.prog 33 #[.agg (coA c m), .slice A l.length cap] w fun e w' => ∃ b wl q, e = .returned (.pointer (some ⟨b, 0, none⟩)) ∧ Rdm w w' b c m (c.follow l) wl q ∧ RG c (c.follow l) wl ∧ Below w.heap.size w w' := by
 obtain ⟨hok, hl, hr⟩ := chk_zero hk
 have HC := Lib.hid hC
 have HA := Lib.hid hA
 have HOK := Lib.hid hok
 have HR := Lib.hid hr
 have na := hC.na
 clear hC hA hok hr hk
 go_enter Tryz.func33, Tryz.ntmps33
 go_upto_region 1 with (fail)
 refine name_wp ?_
 intro X hX
 have ga : Blk X w.heap.size 27 (coA c m) := by rw [hX]; exact Blk.new _ _ _
 have HB : Below w.heap.size w X := by rw [hX]; exact wa1 _ _
 obtain ⟨ba, eba⟩ : ∃ b, w.heap.size = b := ⟨_, rfl⟩
 rw [eba] at ga ⊢
 have lX := HB.size
 clear hX eba
 go_upto_region 2 with (first | (refine wpList_row_w (by rfl) 27 _ rfl ba rfl 27 _ ga ⟨_, Tryz.underlying27⟩ (by kernel_rfl) ?_; simp only [Act.put, qzG, qzH, qzI]) | (go_at_call 61; (with_reducible refine (begin_any c m X (HC.out.then_ HB) HOK.out).mono ?_); rintro e w1 ⟨b, wl0, q0, rfl, hR0, hG0, hn0, hb1⟩))
 have h0 : Hid (FL X w1 b c m l 0 c.read0 wl0 q0) := FL.start hR0 hG0 hn0
 have HAX := Lib.hid (show Seg X X.heap.size 1 eI A l from (HA.out.below HB).more HB.size)
 clear hR0 hG0 hn0 hb1 ga
 go_upto_region 3 with (fail)
 go_loopw [7, 12] (fun _ y WR => ∃ (i : Nat) (r : Rd) (wl : Int → List Int) (q : Rq), y = .int .i64 i ∧ i ≤ l.length ∧ Hid (FL X WR b c m l i r wl q)) (fun _ y _ => 2000000 - (intOf y).toNat)
 case atStart => exact ⟨0, _, _, _, rfl, by omega, h0⟩
 case round =>
  clear h0
  obtain ⟨i, r, wl, q, rfl, hi, hL⟩ := hrel
  by_cases hlt : i < l.length
  case neg =>
   obtain rfl : i = l.length := by omega
   have tl : decide (((l.length : Nat) : Int) < ((l.length : Nat) : Int)) = false := decide_eq_false (by omega)
   go_wp2
   go_ret
   have e := hL.out.e
   rw [List.take_length] at e
   have hb : Below w.heap.size w wr := below_then HB hL.out.rd.hb
   have hrd := hL.out.rd
   subst e
   exact ⟨b, wl, q, rfl, ⟨hrd.g, hrd.gc, hrd.oh.more lX, hrd.oa.more lX, hrd.ok.more lX, hrd.oo.more lX, hrd.mp, fun k => (hrd.ol k).more lX, hrd.ap, hrd.ah, hb, ⟨by have := hrd.lb; omega, by have := hrd.lb; omega, by have := hrd.lb; omega⟩, hrd.bb, HC.out, hrd.lo, hrd.lh, hrd.la⟩, hL.out.g, hb⟩
  have tl : decide ((i : Int) < (l.length : Int)) = true := decide_eq_true (by omega)
  obtain ⟨x, hx⟩ : ∃ x, l[i]? = some x := ⟨_, qzJ hlt⟩
  obtain ⟨b0, o0, eA0, hb0, hc0⟩ := segAt (HAX.out.below hL.out.rd.hb) hx
  have hix := fun W => idx_at (t := 22) (size := 1) (cap := cap) eA0 hlt (by kernel_rfl) (fun W => by kernel_rfl) W
  have d0 : wr.cell? ⟨b0, o0 + i, none⟩ = some (.int .i64 x) := by simpa using hc0 0 _ rfl
  simp only [Nat.mul_one] at hix
  have HX := Lib.hid hx
  have HCL := Lib.hid (hL.out.call HOK.out (by omega) hx (HR.out x (qzK hx)))
  clear hc0 eA0 hx
  go_wp2_with (go_at_call 62; (with_reducible refine HCL.out.mono ?_); rintro e w2 ⟨rfl, ⟨wl', q', hL', _, _⟩, _⟩; have HL' := Lib.hid hL'; clear hL')
  go_roundw
  case rel => exact ⟨i + 1, _, _, _, by simp, by omega, HL'⟩
  case measure => simp [intOf]; omega
def RetO (w : World) (E : Int) (L : List Out) (e : Ending) (w' : World) : Prop :=
 (∃ A n cap, e = .returned (.tuple #[.slice A n cap, .int .i64 E]) ∧ (E = 0 → n = L.length ∧ Seg w' w'.heap.size 5 eO A L ∧ L.length ≤ cap)) ∧ Below w.heap.size w w'
theorem Own.seg_ {α : Type} {w : World} {B : Nat} {T : TypeId} {size : Nat} {enc : α → List Value} {g n cap : Nat} {xs : List α} (hl : ∀ x, (enc x).length = size) (h : Own w B T size enc (.slice (some ⟨g, 0, none⟩) n cap) xs) : Seg w w.heap.size size enc (some ⟨g, 0, none⟩) xs ∧ xs.length = n ∧ n ≤ cap := by
 obtain ⟨A, c2, e, hc, hs⟩ := h.seg hl
 cases e
 exact ⟨hs, rfl, hc⟩
theorem outcomes_any (c : Con) (m : Cm) (l : List Int) (A : Option Addr) (cap : Nat) (w : World) (hC : Cont w c m) (hA : Seg w w.heap.size 1 eI A l) (nl : l.length ≤ 1000000) :
  Calls Tryz.prog 16 #[.agg (coA c m), .slice A l.length cap] w (RetO w (c.chk l) ((c.follow l).oc.map (·.1))) := by
 have HC := Lib.hid hC
 have HA := Lib.hid hA
 obtain ⟨E, hE⟩ : ∃ E, c.chk l = E := ⟨_, rfl⟩
 rw [hE]
 have HE := Lib.hid hE
 have HCK := Lib.hid (fun W (hb : Below w.heap.size w W) => check_any c m l A cap W (hC.then_ hb) ((hA.below hb).more hb.size) nl)
 rw [hE] at HCK
 clear hC hA hE
 go_enter Tryz.func16, Tryz.ntmps16
 go_upto_region 1 with (fail)
 refine name_wp ?_
 intro X hX
 have ga : Blk X w.heap.size 27 (coA c m) := by rw [hX]; exact Blk.new _ _ _
 have HB : Below w.heap.size w X := by rw [hX]; exact wa1 _ _
 obtain ⟨ba, eba⟩ : ∃ b, w.heap.size = b := ⟨_, rfl⟩
 rw [eba] at ga ⊢
 clear hX eba
 go_upto_region 2 with (first | (refine wpList_row_w (by rfl) 27 _ rfl ba rfl 27 _ ga ⟨_, Tryz.underlying27⟩ (by kernel_rfl) ?_; simp only [Act.put, qzG, qzH, qzI]) | (go_at_call 32; (with_reducible refine (HCK.out _ HB).mono ?_); rintro e w1 ⟨rfl, hb1⟩))
 have ga1 := ga.then_ hb1
 have HB1 := Lib.hid (below_then HB hb1)
 clear ga HB hb1
 by_cases h1 : E = 0
 case neg =>
  have t1 : (E != 0) = true := by simpa using h1
  have t1' : (E == 0) = false := by simpa using h1
  have H1 := Lib.hid h1
  clear h1
  go_wp2
  refine bodyPost_ret (results_tmp2 rfl _ _ _) rfl ?_
  exact ⟨⟨_, _, _, rfl, fun h => absurd h H1.out⟩, HB1.out⟩
 have t1 : (E != 0) = false := by simpa using h1
 have t1' : (E == 0) = true := by simpa using h1
 have HZ : Hid (c.chk l = 0) := by unfold Hid; rw [HE.out, h1]
 have H1 := Lib.hid h1
 clear h1
 go_upto_region 4 with (fail)
 clear t1 t1'
 have HFO := Lib.hid (follow_any c m l A cap w1 (HC.out.then_ HB1.out) ((HA.out.below HB1.out).more HB1.out.size) HZ.out)
 go_wp2_with (first | (refine wpList_row_w (by rfl) 27 _ rfl ba rfl 27 _ ga1 ⟨_, Tryz.underlying27⟩ (by kernel_rfl) ?_; simp only [Act.put, qzG, qzH, qzI]) | (go_at_call 33; (with_reducible refine HFO.out.mono ?_); rintro e w2 ⟨b, wl, q, rfl, hR, hG, hb2⟩; have HRD := Lib.hid hR; have k14 : w2.cell? ⟨b, 14, none⟩ = some (.slice (some ⟨q.o, 0, none⟩) (c.follow l).oc.length q.oc) := hR.g.cell 14; clear hR hG))
 refine bodyPost_ret (results_tmp2 rfl _ _ _) rfl ?_
 rw [H1.out]
 obtain ⟨s1, s2, s3⟩ := Own.seg_ eO_len HRD.out.oo
 refine ⟨⟨_, _, _, rfl, fun _ => ⟨?_, s1, ?_⟩⟩, below_then HB1.out hb2⟩
 ·rw [s2]
 ·rw [s2]; exact s3
end Go.Proofs.YtginnonjdbpamaaGreatDoor
/- The iterator trace.Course: all readings of a trace, one after the other. -/
namespace Go.Proofs.YtginnonjdbpamaaGreatDoor
open Go.RowKit Go.Sort Go.Maps
def cutW (W : World) (N : Nat) : World := { W with heap := W.heap.extract 0 N }
theorem cutW_size {W : World} {N : Nat} (h : N ≤ W.heap.size) : (cutW W N).heap.size = N := by simp [cutW]; omega
theorem cutW_at {W : World} {N k : Nat} (hk : k < N) (h : N ≤ W.heap.size) : (cutW W N).heap[k]? = W.heap[k]? := by
 unfold cutW
 rw [Array.getElem?_extract]
 simp
 omega
theorem below_cut {W : World} {N : Nat} (h : N ≤ W.heap.size) : Below N (cutW W N) W := ⟨rfl, rfl, rfl, by rw [cutW_size h]; exact h, fun k hk => (cutW_at hk h).symm⟩
theorem below_cut2 {w W : World} {N : Nat} (hb : Below w.heap.size w W) (h : N ≤ W.heap.size) (hw : w.heap.size ≤ N) : Below w.heap.size w (cutW W N) :=
 ⟨hb.os, hb.tape, hb.output, by rw [cutW_size h]; exact hw, fun k hk => (cutW_at (by omega) h).trans (hb.block k hk)⟩
theorem Own.base {α : Type} {w : World} {B B' : Nat} {T : TypeId} {size : Nat} {enc : α → List Value} {v : Value} {xs : List α} (h : Own w B T size enc v xs) (e : B = B') : Own w B' T size enc v xs := e ▸ h
theorem Rdm.rebase {w w0 W W' : World} {b : Nat} {c : Con} {m : Cm} {r : Rd} {wl : Int → List Int} {q : Rq} (h : Rdm w0 W b c m r wl q) {p : Nat → Prop} (hk : Kept W W' p) (hp : ∀ x, p x → x < w0.heap.size) (hC : Cont w c m) (hB : Below w.heap.size w W') (hw : w.heap.size ≤ w0.heap.size) :
  Rdm (cutW W' w0.heap.size) W' b c m r wl q := by
 have hs : w0.heap.size ≤ W'.heap.size := Nat.le_trans h.hb.size hk.size
 have e := cutW_size hs
 have np : ∀ x, w0.heap.size ≤ x → ¬ p x := fun x hx hpx => by have := hp x hpx; omega
 have lb := h.lb
 refine ⟨h.g.kept hk (np _ lb.1), h.gc.kept hk (np _ lb.2.1), (h.oh.kept_ hk (np _ h.oh.lt_.1)).base e.symm, (h.oa.kept_ hk (np _ h.oa.lt_.1)).base e.symm, (h.ok.kept_ hk (np _ h.ok.lt_.1)).base e.symm, (h.oo.kept_ hk (np _ h.oo.lt_.1)).base e.symm, h.mp.keep (hk.k _ h.mp.lt (np _ lb.2.2)), fun k => ?_, h.ap, h.ah, ?_, by rw [e]; exact lb, h.bb, hC.then_ (below_cut2 hB hs hw), h.lo, h.lh, h.la⟩
 ·refine ⟨(h.ol k).1, ?_⟩
  rcases (h.ol k).2 with h2 | ⟨g', cap', cur, hv, hg', hh, r⟩
  ·exact .inl h2
  ·exact .inr ⟨g', cap', cur, hv, by rw [e]; exact hg', by rw [hk.k g' (Array.getElem?_eq_some_iff.1 hh).1 (np _ hg')]; exact hh, r⟩
 ·rw [e]; exact below_cut hs
theorem FL.rebase {w w0 W W' : World} {b : Nat} {c : Con} {m : Cm} {l : List Int} {i : Nat} {r : Rd} {wl : Int → List Int} {q : Rq} (h : FL w0 W b c m l i r wl q) {p : Nat → Prop} (hk : Kept W W' p) (hp : ∀ x, p x → x < w0.heap.size) (hC : Cont w c m) (hB : Below w.heap.size w W') (hw : w.heap.size ≤ w0.heap.size) :
  FL (cutW W' w0.heap.size) W' b c m l i r wl q := ⟨h.rd.rebase hk hp hC hB hw, h.g, h.n, h.e, h.s, h.d⟩
theorem FL.pS {w0 W : World} {b : Nat} {c : Con} {m : Cm} {l : List Int} {i : Nat} {r : Rd} {wl : Int → List Int} {q : Rq} (h : FL w0 W b c m l i r wl q) : ∀ x, q.pS b x → w0.heap.size ≤ x := fun x hx => by
 rcases hx with e | e | e | e | e | e
 ·rw [e]; exact h.rd.lb.1
 ·rw [e]; exact h.rd.oa.lt_.1
 ·rw [e]; exact h.rd.oo.lt_.1
 ·rw [e]; exact h.rd.ok.lt_.1
 ·rw [e]; exact h.rd.oh.lt_.1
 ·rw [e]; exact h.rd.lb.2.2
theorem course_any (c : Con) (m : Cm) (A : Option Addr) (n cap : Nat) (w : World) : Calls Tryz.prog 30 #[.agg (coA c m), .slice A n cap] w fun e w' => ∃ ba bl, e = .returned (.func (.func 60) #[] #[.pointer (some ⟨ba, 0, none⟩), .pointer (some ⟨bl, 0, none⟩)]) ∧
  Blk w' ba 27 (coA c m) ∧ Blk w' bl 22 #[.slice A n cap] ∧ Below w.heap.size w w' ∧ w.heap.size ≤ ba ∧ w.heap.size ≤ bl := by
 go_enter Tryz.func30, Tryz.ntmps30
 go_wp2
 go_ret
 refine ⟨_, _, rfl, ?_, ?_, ?_, Nat.le_refl _, ?_⟩
 ·exact (blk_at (by simp)).alloc _
 ·exact blk_at (by simp)
 ·(repeat (first | (with_reducible first | assumption | exact Below.refl _ _ | refine below_drewN ?_ _ | refine Below.drew ?_ | refine below_alloc ?_ _ | refine Below.setCell ?_ (by first | omega | (simp; done) | (simp; omega)) _ | refine below_then ?_ (by assumption)) | (refine below_then (a := World.drew _) ?_ (by with_reducible assumption))))
 ·simp
structure CJ (w : World) (c : Con) (m : Cm) (l : List Int) (A : Option Addr) (cap ba bl n₀ : Nat) (J : Nat → World → Prop) : Prop where
 s : ∀ i W, J i W → n₀ ≤ W.heap.size
 j : ∀ i W W', J i W → Below n₀ W W' → J i W'
 b : ∀ i W, J i W → Blk W ba 27 (coA c m) ∧ Blk W bl 22 #[.slice A l.length cap]
 e : ∀ i W, J i W → Below w.heap.size w W
 n : w.heap.size ≤ n₀
 c : Cont w c m
 a : Seg w w.heap.size 1 eI A l
def YR (c : Con) (l : List Int) (n lp n₀ : Nat) (p : Nat → Prop) (J : Nat → World → Prop) (Jx : World → Prop) : Prop :=
 ∀ (i : Nat) (W : World) (r : Rd) (gh ch go co : Nat), i ≤ l.length → J i W → r = (l.take i).foldl (fun r x => r.step c x) c.read0 → n₀ ≤ gh ∧ n₀ ≤ go → r.hol.length = c.hold.length ∧ r.oc.length = c.cl.length → Seg W W.heap.size 1 eI (some ⟨gh, 0, none⟩) r.hol → Seg W W.heap.size 5 eO (some ⟨go, 0, none⟩) (r.oc.map (·.1)) →
  YieldAt Fence.wide (n - 1) Tryz.prog lp #[.slice (some ⟨gh, 0, none⟩) r.hol.length ch, .slice (some ⟨go, 0, none⟩) r.oc.length co] W fun e W' => ∃ bv, e = .returned (.bool bv) ∧ (bv = true → J (i + 1) W' ∧ Kept W W' p) ∧ (bv = false → Jx W')
theorem FL.yield {w0 W : World} {b : Nat} {c : Con} {m : Cm} {l : List Int} {i n lp n₀ : Nat} {p : Nat → Prop} {J : Nat → World → Prop} {Jx : World → Prop} {r : Rd} {wl : Int → List Int} {q : Rq} (h : FL w0 W b c m l i r wl q) (hY : YR c l n lp n₀ p J Jx) (hi : i ≤ l.length) (hJ : J i W) (hN : n₀ ≤ w0.heap.size) :
  YieldAt Fence.wide (n - 1) Tryz.prog lp #[.slice (some ⟨q.h, 0, none⟩) r.hol.length q.hc, .slice (some ⟨q.o, 0, none⟩) r.oc.length q.oc] W fun e W' => ∃ bv, e = .returned (.bool bv) ∧ (bv = true → J (i + 1) W' ∧ Kept W W' p) ∧ (bv = false → Jx W') :=
 hY i W r q.h q.hc q.o q.oc hi hJ h.e ⟨Nat.le_trans hN h.rd.oh.lt_.1, Nat.le_trans hN h.rd.oo.lt_.1⟩ ⟨h.rd.lh, h.rd.lo⟩ (Own.seg_ eI_len h.rd.oh).1 (Own.seg_ eO_len h.rd.oo).1
theorem fl_keep {w W W' : World} {c : Con} {m : Cm} {l : List Int} {A : Option Addr} {cap ba bl n₀ N j b i : Nat} {J : Nat → World → Prop} {p : Nat → Prop} {r : Rd} {wl : Int → List Int} {q : Rq} (hJ : CJ w c m l A cap ba bl n₀ J) (hp : ∀ x, p x → x < n₀) (hN : n₀ ≤ N) (h : ∃ w0 : World, w0.heap.size = N ∧ FL w0 W b c m l i r wl q) (hj : J j W') (hk : Kept W W' p) :
  ∃ w0 : World, w0.heap.size = N ∧ FL w0 W' b c m l i r wl q := by
 obtain ⟨w0, e, h⟩ := h
 refine ⟨_, ?_, h.rebase hk (fun x hx => by have := hp x hx; omega) hJ.c (hJ.e j W' hj) (by have := hJ.n; omega)⟩
 rw [cutW_size (Nat.le_trans h.rd.hb.size hk.size), e]
theorem course1_in (n lp n₀ : Nat) (hn : 1 ≤ n) (w : World) (c : Con) (m : Cm) (l : List Int) (A : Option Addr) (cap ba bl : Nat) (hk : c.chk l = 0) (p : Nat → Prop) (hp : ∀ x, p x → x < n₀) (J : Nat → World → Prop) (Jx : World → Prop) (hJ : CJ w c m l A cap ba bl n₀ J) (hY : YR c l n lp n₀ p J Jx) (W : World) (h0 : J 0 W) :
  CallsIn Fence.wide n Tryz.prog 60 #[.func (.yield lp) #[] #[], .pointer (some ⟨ba, 0, none⟩), .pointer (some ⟨bl, 0, none⟩)] W fun e W' => (∃ v, e = .returned v) ∧ (J (l.length + 1) W' ∨ Jx W') := by
 obtain ⟨hok, hl, hr⟩ := chk_zero hk
 have HJ := Lib.hid hJ
 have HY := Lib.hid hY
 have HP := Lib.hid hp
 have HOK := Lib.hid hok
 have HR := Lib.hid hr
 have H0 := Lib.hid h0
 have na := hJ.c.na
 obtain ⟨ga, gl⟩ := hJ.b 0 W h0
 have hw := hJ.e 0 W h0
 have lw := hJ.n
 have lW := hJ.s 0 W h0
 have HCK := Lib.hid (check_any c m l A cap W (hJ.c.then_ hw) ((hJ.a.below hw).more hw.size) (by omega))
 rw [hk] at HCK
 have k0 : W.cell? ⟨bl, 0, none⟩ = some (.slice A l.length cap) := gl.cell 0
 have HA := Lib.hid ga
 have HL := Lib.hid gl
 clear hJ hY hp hok hr h0 hk ga gl
 refine callsIn_of_wp Tryz.func60 rfl trivial ?_ rfl
 simp only [Tryz.ntmps60, List.size_toArray, List.length_cons, List.length_nil, Nat.reduceAdd, Nat.reduceSub, Array.replicate_succ, Array.replicate_zero, List.push_toArray, List.append_toArray, qzF, qzE]
 refine wpIn_wide.2 ?_
 go_upto_region 1 with (first | (refine wpList_row_w (by rfl) 27 _ rfl ba rfl 27 _ HA.out ⟨_, Tryz.underlying27⟩ (by kernel_rfl) ?_; simp only [Act.put, qzG, qzH, qzI]) | (go_at_call 32; (with_reducible refine HCK.out.mono ?_); rintro e w1 ⟨rfl, hb1⟩))
 have HA1 := Lib.hid (HA.out.then_ hb1)
 have h01 := Lib.hid (HJ.out.j 0 W w1 H0.out (hb1.mono lW))
 have HBG := Lib.hid (begin_any c m w1 (HJ.out.c.then_ (HJ.out.e 0 w1 h01.out)) HOK.out)
 have l1 := HJ.out.s 0 w1 h01.out
 clear HA HL HCK hb1 k0 H0 hw lW
 go_upto_region 2 with (first | (refine wpList_row_w (by rfl) 27 _ rfl ba rfl 27 _ HA1.out ⟨_, Tryz.underlying27⟩ (by kernel_rfl) ?_; simp only [Act.put, qzG, qzH, qzI]) | (go_at_call 61; (with_reducible refine HBG.out.mono ?_); rintro e w2 ⟨b, wl0, q0, rfl, hR0, hG0, hn0, hb2⟩))
 have hF0 : Hid (FL w1 w2 b c m l 0 c.read0 wl0 q0) := FL.start hR0 hG0 hn0
 have h02 := Lib.hid (HJ.out.j 0 w1 w2 h01.out (hb2.mono l1))
 obtain ⟨N, hN⟩ : ∃ N, w1.heap.size = N := ⟨_, rfl⟩
 have hNn : n₀ ≤ N := by omega
 have HF : Hid (∃ w0 : World, w0.heap.size = N ∧ FL w0 w2 b c m l 0 c.read0 wl0 q0) := ⟨w1, hN, hF0.out⟩
 clear HA1 HBG h01 l1 hR0 hG0 hn0 hb2 hF0 hN
 have b9 : w2.cell? ⟨b, 9, none⟩ = some (.slice (some ⟨q0.h, 0, none⟩) c.read0.hol.length q0.hc) := by obtain ⟨w0, _, h⟩ := HF.out; exact h.rd.g.cell 9
 have b14 : w2.cell? ⟨b, 14, none⟩ = some (.slice (some ⟨q0.o, 0, none⟩) c.read0.oc.length q0.oc) := by obtain ⟨w0, _, h⟩ := HF.out; exact h.rd.g.cell 14
 have HYD : Hid (YieldAt Fence.wide (n - 1) Tryz.prog lp #[.slice (some ⟨q0.h, 0, none⟩) c.read0.hol.length q0.hc, .slice (some ⟨q0.o, 0, none⟩) c.read0.oc.length q0.oc] w2.drew fun e W' => ∃ bv, e = .returned (.bool bv) ∧ (bv = true → J (0 + 1) W' ∧ Kept w2.drew W' p) ∧ (bv = false → Jx W')) := by
  obtain ⟨w0, e0, h⟩ := HF.out
  exact (h.then_ (Below.drew (Below.refl _ _))).yield HY.out (by omega) (HJ.out.j 0 w2 _ h02.out (Below.drew (Below.refl _ _))) (by omega)
 obtain ⟨fn, tmps, asg, bd, hy, hRR⟩ := HYD.out
 have HRR := Lib.hid hRR
 clear hRR HYD
 refine (wpIn_wide (n := n)).1 ?_
 gi_region_with (refine HRR.out.mono ?_; rintro e W3 ⟨bv, rfl, hbt, hbf⟩)
 all_goals
  have Hbt := Lib.hid hbt
  have Hbf := Lib.hid hbf
  clear hbt hbf hy HRR b9 b14
  cases bv with
  | false =>
   go_wp2
   refine bodyPost_ret (results_none rfl _ _ _) rfl ?_
   exact ⟨⟨_, rfl⟩, .inr (Hbf.out (by trivial))⟩
  | true =>
   obtain ⟨hJ1, hK1⟩ := Hbt.out (by trivial)
   have HF1 : Hid (∃ w0 : World, w0.heap.size = N ∧ FL w0 W3 b c m l 0 c.read0 wl0 q0) := by
    refine fl_keep HJ.out HP.out hNn (W := w2.drew) ?_ hJ1 hK1
    obtain ⟨w0, e, h⟩ := HF.out
    exact ⟨w0, e, h.then_ (Below.drew (Below.refl _ _))⟩
   have HJ1 := Lib.hid hJ1
   have k0 : W3.cell? ⟨bl, 0, none⟩ = some (.slice A l.length cap) := (HJ.out.b _ _ hJ1).2.cell 0
   clear Hbt Hbf hJ1 hK1 HF h02
   go_upto_region 4 with (fail)
   clear k0
   go_loopw [26] (fun y WR => ∃ (i : Nat) (r : Rd) (wl : Int → List Int) (q : Rq), y = .int .i64 i ∧ i ≤ l.length ∧ Hid (J (i + 1) WR) ∧ Hid (∃ w0 : World, w0.heap.size = N ∧ FL w0 WR b c m l i r wl q)) (fun y _ => 2000000 - (intOf y).toNat)
   case atStart => exact ⟨0, _, _, _, rfl, by omega, HJ1, HF1⟩
   case round =>
    clear HJ1 HF1
    obtain ⟨i, r, wl, q, rfl, hi, hJi, hF⟩ := hrel
    by_cases hlt : i < l.length
    case neg =>
     obtain rfl : i = l.length := by omega
     have tl : decide (((l.length : Nat) : Int) < ((l.length : Nat) : Int)) = false := decide_eq_false (by omega)
     go_wp2
     go_end0
     exact ⟨⟨_, rfl⟩, .inl hJi.out⟩
    have tl : decide ((i : Int) < (l.length : Int)) = true := decide_eq_true (by omega)
    obtain ⟨w0, e0, hL⟩ := hF.out
    obtain ⟨x, hx⟩ : ∃ x, l[i]? = some x := ⟨_, qzJ hlt⟩
    have hBw := HJ.out.e _ _ hJi.out
    obtain ⟨b0, o0, eA0, hb0, hc0⟩ := segAt ((HJ.out.a.below hBw).more hBw.size) hx
    have hix := fun W => idx_at (t := 22) (size := 1) (cap := cap) eA0 hlt (by kernel_rfl) (fun W => by kernel_rfl) W
    have d0 : wr.cell? ⟨b0, o0 + i, none⟩ = some (.int .i64 x) := by simpa using hc0 0 _ rfl
    simp only [Nat.mul_one] at hix
    have HCL := Lib.hid (hL.call HOK.out (by omega) hx (HR.out x (qzK hx)))
    have HPS := Lib.hid hL.pS
    have lwr := HJ.out.s _ _ hJi.out
    have HE0 := Lib.hid e0
    clear hc0 eA0 hx hBw hL e0 hF
    go_upto_region 7 with (go_at_call 62; (with_reducible refine HCL.out.mono ?_); rintro e w3 ⟨rfl, ⟨wl', q', hL', hq1, hq2⟩, hk3⟩; have HL' := Lib.hid hL'; clear hL' hq1 hq2)
    have h03 := Lib.hid (HJ.out.j _ _ w3 hJi.out (hk3.b n₀ (fun y hy => by have := HPS.out y hy; have := HE0.out; omega) lwr))
    have HF3 : Hid (∃ w0 : World, w0.heap.size = N ∧ FL w0 w3 b c m l (i + 1) (r.step c x) wl' q') := ⟨w0, HE0.out, HL'.out⟩
    have b9 : w3.cell? ⟨b, 9, none⟩ = some (.slice (some ⟨q'.h, 0, none⟩) (r.step c x).hol.length q'.hc) := HL'.out.rd.g.cell 9
    have b14 : w3.cell? ⟨b, 14, none⟩ = some (.slice (some ⟨q'.o, 0, none⟩) (r.step c x).oc.length q'.oc) := HL'.out.rd.g.cell 14
    have HYD : Hid (YieldAt Fence.wide (n - 1) Tryz.prog lp #[.slice (some ⟨q'.h, 0, none⟩) (r.step c x).hol.length q'.hc, .slice (some ⟨q'.o, 0, none⟩) (r.step c x).oc.length q'.oc] w3.drew fun e W' => ∃ bv, e = .returned (.bool bv) ∧ (bv = true → J (i + 1 + 1) W' ∧ Kept w3.drew W' p) ∧ (bv = false → Jx W')) :=
     (HL'.out.then_ (Below.drew (Below.refl _ _))).yield HY.out (by omega) (HJ.out.j _ w3 _ h03.out (Below.drew (Below.refl _ _))) (by have := HE0.out; omega)
    obtain ⟨fn, tmps, asg, bd, hy, hRR⟩ := HYD.out
    have HRR := Lib.hid hRR
    clear hRR HYD HL' HE0 HPS HCL hk3 lwr hJi hix d0 hb0
    refine (wpIn_wide (n := n)).1 ?_
    gi_region_with (refine HRR.out.mono ?_; rintro e W4 ⟨bv, rfl, hbt, hbf⟩)
    all_goals
     have Hbt := Lib.hid hbt
     have Hbf := Lib.hid hbf
     clear hbt hbf hy HRR b9 b14
     cases bv with
     | false =>
      go_wp2
      refine bodyPost_ret (results_none rfl _ _ _) rfl ?_
      exact ⟨⟨_, rfl⟩, .inr (Hbf.out (by trivial))⟩
     | true =>
      obtain ⟨hJ1, hK1⟩ := Hbt.out (by trivial)
      have HF4 : Hid (∃ w0 : World, w0.heap.size = N ∧ FL w0 W4 b c m l (i + 1) (r.step c x) wl' q') := by
       refine fl_keep HJ.out HP.out hNn (W := w3.drew) ?_ hJ1 hK1
       obtain ⟨w0, e, h⟩ := HF3.out
       exact ⟨w0, e, h.then_ (Below.drew (Below.refl _ _))⟩
      have HJ4 := Lib.hid hJ1
      clear Hbt Hbf hJ1 hK1 HF3 h03
      go_wp2
      go_roundw
      case rel => exact ⟨i + 1, _, _, _, by simp, by omega, HJ4, HF4⟩
      case measure => simp [intOf]; omega
end Go.Proofs.YtginnonjdbpamaaGreatDoor
