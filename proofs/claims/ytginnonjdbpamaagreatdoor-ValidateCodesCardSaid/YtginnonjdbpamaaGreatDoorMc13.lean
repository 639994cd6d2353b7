/- Contracts of functions and plain laws, joined: Sc, Sd, Se. -/
import Derived.Test.YtginnonjdbpamaaGreatDoorMc12
import Derived.Deep.Cut
/- Loops over the clauses that run: what lies in memory between two rounds. -/
import Derived.Test.YtginnonjdbpamaaGreatDoorMc1
set_option maxHeartbeats 6400000
set_option maxRecDepth 100000
namespace Go.Proofs.YtginnonjdbpamaaGreatDoor
open Go.RowKit
def mixM (f : Cla → Mk → Mk) (cl : List Cla) (ms : List Mk) (i : Nat) : List Mk := (List.zipWith f cl ms).take i ++ ms.drop i
section
variable {f : Cla → Mk → Mk} {cl : List Cla} {ms : List Mk} {i : Nat}
theorem xDs (h : ms.length = cl.length) (hi : i < cl.length) : (mixM f cl ms i)[i]? = ms[i]? := by
 unfold mixM
 have e : ((List.zipWith f cl ms).take i).length = i := by rw [List.length_take, List.length_zipWith]; omega
 rw [List.getElem?_append_right (by omega), e, Nat.sub_self, List.getElem?_drop, Nat.add_zero]
theorem xFk {k : Cla} {x : Mk} (h : ms.length = cl.length) (hk : cl[i]? = some k) (hx : ms[i]? = some x) : mixM f cl ms (i + 1) = (mixM f cl ms i).set i (f k x) := by
 have hi : i < cl.length := (qzM hk).1
 have e : ((List.zipWith f cl ms).take i).length = i := by rw [List.length_take, List.length_zipWith]; omega
 unfold mixM
 rw [List.set_append_right _ _ (by omega), e, Nat.sub_self, List.take_add_one, List.getElem?_zipWith, hk, hx]
 have hd : ms.drop i = x :: ms.drop (i + 1) := by
  rw [List.drop_eq_getElem_cons (by omega)]
  rw [qzJ (by omega)] at hx
  injection hx with hx
  rw [hx]
 rw [hd]
 simp
theorem xHz {k : Cla} {x : Mk} (h : ms.length = cl.length) (hk : cl[i]? = some k) (hx : ms[i]? = some x) (hf : f k x = x) : mixM f cl ms (i + 1) = mixM f cl ms i := by
 rw [xFk h hk hx, hf]
 exact xC2 ((xDs h (qzM hk).1).trans hx)
theorem xD9 (h : ms.length = cl.length) : mixM f cl ms cl.length = List.zipWith f cl ms := by
 unfold mixM
 rw [List.take_of_length_le (by rw [List.length_zipWith]; omega), List.drop_eq_nil_of_le (by omega), List.append_nil]
end
def rsOf (ms : List Mk) (i : Nat) : Bool := match ms[i]? with | some x => x.runs | none => false
section
variable {w0 w W W' : World} {b : Nat} {c : Con} {m : Cm} {s : Sta} {q : Qn} {p : Nat → Prop}
theorem Wk.bnd (h : Wk w0 w b c m s q) : b < w.heap.size ∧ q.h < w.heap.size ∧ q.u < w.heap.size ∧ q.m < w.heap.size := ⟨h.g.lt, h.oh.lt_.2, h.ou.lt_.2, h.om.lt_.2⟩
theorem Wk.belowN {n : Nat} (h : Wk w0 W b c m s q) (hb : Below n W W') (hn : b < n ∧ q.h < n ∧ q.u < n ∧ q.m < n) (h0 : w0.heap.size ≤ n) : Wk w0 W' b c m s q :=
 ⟨h.g.below hb hn.1, h.oh.keepB hb (by intro k hk; cases hk; exact hn.2.1), h.ou.keepB hb (by intro k hk; cases hk; exact hn.2.2.1), h.om.keepB hb (by intro k hk; cases hk; exact hn.2.2.2), h.hb.trans (hb.mono h0), h.lb, h.cn, h.lm, h.nh, h.nu⟩
theorem Kept.thenB (h : Kept w W p) (hb : Below w.heap.size W W') : Kept w W' p :=
 ⟨fun B hB hs => (h.b B hB hs).trans (hb.mono hs), fun x hx hp => (hb.block x hx).trans (h.k x hx hp)⟩
theorem Wk.setH (h : Wk w0 w b c m s q) {r : Nat} (v : Int) (hr : r < s.hol.length) : Wk w0 (w.setCell ⟨q.h, r, none⟩ (.int .i64 v)) b c m { s with hol := s.hol.set r v } q := by
 have e : (s.hol.set r v).length = s.hol.length := List.length_set
 obtain ⟨x, hx⟩ : ∃ x, s.hol[r]? = some x := ⟨_, qzJ hr⟩
 refine ⟨?_, ?_, h.ou.setNe (by intro k hk; cases hk; exact h.hu.symm) _, h.om.setNe (by intro k hk; cases hk; exact h.hm.symm) _, h.hb.setCell (p := ⟨q.h, _, none⟩) h.oh.lt_.1 _, h.lb, h.cn, h.lm, by show (s.hol.set r v).length ≤ _; rw [e]; exact h.nh, h.nu⟩
 ·have h2 := h.g.far (p := ⟨q.h, r, none⟩) h.bh (.int .i64 v)
  unfold wkA at h2 ⊢
  rw [show ({ s with hol := s.hol.set r v } : Sta).hol.length = s.hol.length from e]
  exact h2
 ·have h2 := h.oh.setAt xAz rfl (k := r) (j := 0) (y := v) (u := .int .i64 v) hx (by omega) rfl
  rw [show ({ s with hol := s.hol.set r v } : Sta).hol.length = s.hol.length from e]
  simpa using h2
theorem Wk.setU (h : Wk w0 w b c m s q) {r : Nat} (v : Bool) (hr : r < s.used.length) : Wk w0 (w.setCell ⟨q.u, r, none⟩ (.bool v)) b c m { s with used := s.used.set r v } q := by
 have e : (s.used.set r v).length = s.used.length := List.length_set
 obtain ⟨x, hx⟩ : ∃ x, s.used[r]? = some x := ⟨_, qzJ hr⟩
 refine ⟨?_, h.oh.setNe (by intro k hk; cases hk; exact h.hu) _, ?_, h.om.setNe (by intro k hk; cases hk; exact h.um.symm) _, h.hb.setCell (p := ⟨q.u, _, none⟩) h.ou.lt_.1 _, h.lb, h.cn, h.lm, h.nh, by show (s.used.set r v).length ≤ _; rw [e]; exact h.nu⟩
 ·have h2 := h.g.far (p := ⟨q.u, r, none⟩) h.bu (.bool v)
  unfold wkA at h2 ⊢
  rw [show ({ s with used := s.used.set r v } : Sta).used.length = s.used.length from e]
  exact h2
 ·have h2 := h.ou.setAt xBd rfl (k := r) (j := 0) (y := v) (u := .bool v) hx (by omega) rfl
  rw [show ({ s with used := s.used.set r v } : Sta).used.length = s.used.length from e]
  simpa using h2
theorem Wk.setDay (h : Wk w0 w b c m s q) (d : Int) : Wk w0 (w.setCell ⟨b, 7, none⟩ (.int .i64 d)) b c m { s with day := d } q :=
 ⟨h.g.set_ 7 _, h.oh.setNe (by intro k hk; cases hk; exact h.bh.symm) _, h.ou.setNe (by intro k hk; cases hk; exact h.bu.symm) _, h.om.setNe (by intro k hk; cases hk; exact h.bm.symm) _, h.hb.setCell (p := ⟨b, _, none⟩) h.lb _, h.lb, h.cn, h.lm, h.nh, h.nu⟩
theorem Wk.holAt (h : Wk w0 w b c m s q) {r : Nat} {v : Int} (hv : s.hol[r]? = some v) : w.cell? ⟨q.h, r, none⟩ = some (.int .i64 v) ∧ w.frozen? ⟨q.h, r, none⟩ = false := by
 have := h.oh.getAt xAz rfl hv (j := 0) (by omega)
 simpa [eI] using this
theorem Wk.useAt (h : Wk w0 w b c m s q) {r : Nat} {v : Bool} (hv : s.used[r]? = some v) : w.cell? ⟨q.u, r, none⟩ = some (.bool v) ∧ w.frozen? ⟨q.u, r, none⟩ = false := by
 have := h.ou.getAt xBd rfl hv (j := 0) (by omega)
 simpa [eB] using this
end
structure LI (w0 w : World) (b : Nat) (c : Con) (m : Cm) (s : Sta) (q : Qn) (p : Nat → Prop) (f : Cla → Mk → Mk) (bx : Nat) (E : World → Prop) (i : Nat) (W : World) : Prop where
 wk : Wk w0 W b c m { s with marks := mixM f c.cl s.marks i } q
 k : Kept w W p
 x : Blk W bx 110 #[.pointer (some ⟨b, 0, none⟩)]
 e : E W
section
variable {w0 w W W' : World} {b : Nat} {c : Con} {m : Cm} {s : Sta} {q : Qn} {p : Nat → Prop} {f : Cla → Mk → Mk} {bx : Nat} {E : World → Prop} {i : Nat}
theorem LI.start (hW : Wk w0 w b c m s q) (hx : Blk w bx 110 #[.pointer (some ⟨b, 0, none⟩)]) (hE : E w) : LI w0 w b c m s q p f bx E 0 w := ⟨hW, Kept.refl _ _, hx, hE⟩
theorem LI.then_ (h : LI w0 w b c m s q p f bx E i W) (hb : Below w.heap.size W W') (hW : Wk w0 w b c m s q) (hbx : bx < w.heap.size) (hE : ∀ W W', E W → Below w.heap.size W W' → E W') : LI w0 w b c m s q p f bx E i W' :=
 ⟨h.wk.belowN hb hW.bnd hW.hb.size, h.k.thenB hb, h.x.below hb hbx, hE _ _ h.e hb⟩
theorem LI.rv (h : LI w0 w b c m s q p f bx E i W) (hlm : s.marks.length = c.cl.length) (_hi : i ≤ c.cl.length) : RV W bx b q.m c.cl.length q.mc (rsOf s.marks) i := by
 have hl : (mixM f c.cl s.marks i).length = c.cl.length := h.wk.lm
 refine ⟨h.x.cell 0, by rw [← hl]; exact h.wk.g.cell 10, fun hlt => ?_⟩
 obtain ⟨x, hx⟩ : ∃ x, s.marks[i]? = some x := ⟨_, qzJ (by omega)⟩
 have hx2 : (mixM f c.cl s.marks i)[i]? = some x := (xDs hlm hlt).trans hx
 obtain ⟨⟨m0, _⟩, ⟨m1, _⟩, ⟨m2, _⟩, ⟨m3, _⟩, ⟨m4, _⟩⟩ := h.wk.mark hx2
 exact ⟨x, by unfold rsOf; rw [hx], m0, m1, m2, m3, m4⟩
theorem LI.skip (h : LI w0 w b c m s q p f bx E i W) (hlm : s.marks.length = c.cl.length) (hi : i < c.cl.length) (hr : rsOf s.marks i = false) (hf : ∀ k x, x.runs = false → f k x = x) : LI w0 w b c m s q p f bx E (i + 1) W := by
 obtain ⟨x, hx⟩ : ∃ x, s.marks[i]? = some x := ⟨_, qzJ (by omega)⟩
 obtain ⟨k, hk⟩ : ∃ k, c.cl[i]? = some k := ⟨_, qzJ hi⟩
 unfold rsOf at hr
 rw [hx] at hr
 refine ⟨?_, h.k, h.x, h.e⟩
 rw [xHz hlm hk hx (hf k x hr)]
 exact h.wk
end
section
variable {w0 w W W' : World} {b : Nat} {c : Con} {m : Cm} {s : Sta} {q : Qn} {p : Nat → Prop} {f : Cla → Mk → Mk} {bx : Nat} {E : World → Prop} {i : Nat} {k : Cla} {x y : Mk}
theorem LI.next (h : LI w0 w b c m s q p f bx E i W) (hlm : s.marks.length = c.cl.length) (hk : c.cl[i]? = some k) (hx : s.marks[i]? = some x) (hW : Wk w0 W' b c m { s with marks := (mixM f c.cl s.marks i).set i y } q) (hy : y = f k x) (hK : Kept W W' p) (hxb : ¬ p bx) (hE : E W') : LI w0 w b c m s q p f bx E (i + 1) W' :=
 ⟨by rw [xFk hlm hk hx, ← hy]; exact hW, h.k.trans hK, h.x.kept hK hxb, hE⟩
theorem LI.same (h : LI w0 w b c m s q p f bx E i W) (hlm : s.marks.length = c.cl.length) (hk : c.cl[i]? = some k) (hx : s.marks[i]? = some x) (hy : f k x = x) (hb : Below W.heap.size W W') (hE : E W') : LI w0 w b c m s q p f bx E (i + 1) W' :=
 ⟨by rw [xHz hlm hk hx hy]; exact h.wk.then_ hb, h.k.trans (Kept.of_below hb), h.x.then_ hb, hE⟩
end
theorem xBy {P : Program} {ops : Array Oper} {l : List Oper} {Q : Exit → Act → World → Prop} {a : Act} {w : World} (h : ∀ w', w' = w → wpList P ops Q l a w') : wpList P ops Q l a w := h w rfl
theorem xD4 {ps : Array Tmp} {assign body : Code} {Q : Exit → Act → World → Prop} {a : Act} {w w0 : World} {g : Operand} {b : Nat} {c : Con} {m : Cm} {s : Sta} {q : Qn} (bx : Nat) (p0 d : Tmp) (rid : Nat) (o : Oper)
  (hg : a.eval g = .func (.func 109) #[] #[.pointer (some ⟨bx, 0, none⟩)]) (hps : ps = #[p0]) (hp0 : p0 < a.tmps.size) (has : assign = Code.region rid #[o] false) (ho : o.op = .assign (.tmp p0)) (hd : o.dst = some d) (hgd : o.guard = none)
  (hW : Wk w0 w b c m s q) (hx : Blk w bx 110 #[.pointer (some ⟨b, 0, none⟩)]) (p : Nat → Prop) (hp : ∀ x, p x → x < w.heap.size) (f : Cla → Mk → Mk) (hf : ∀ k x, x.runs = false → f k x = x) (E : World → Prop) (hE : ∀ W W', E W → Below w.heap.size W W' → E W') (hE0 : E w)
  (hbody : ∀ (l i : Nat) (k : Cla) (x : Mk) (W : World), LI w0 w b c m s q p f bx E i W → c.cl[i]? = some k → s.marks[i]? = some x → x.runs = true → w.heap.size + 1 < W.heap.size →
   body.wpIn (Fence.wide.inRound l) (6 - 1 - 1) Tryz.prog (xF4 p W (LI w0 w b c m s q p f bx E (i + 1))) { tmps := (a.tmps.setIfInBounds p0 (.int .i64 (i : Nat))).setIfInBounds d (.int .i64 (i : Nat)), defers := [] } W)
  (hdone : ∀ (D : Nat) (W : World), w.heap.size ≤ D → LI w0 w b c m s q p f bx E c.cl.length W → W.heap[D]? = some (.deferred (some [])) → Q .normal { a with defers := { target := .collected D, args := #[] } :: a.defers } W) :
  (Code.rangeFunc g ps assign body).wp Tryz.prog Q a w := by
 subst hps has
 refine wpIn_wide.1 (xGk bx b q.m c.cl.length q.mc rfl hg rfl hW.cn.nk p hp (rsOf s.marks) (fun i W => i ≤ c.cl.length ∧ LI w0 w b c m s q p f bx E i W) (fun i W h => h.2.k.size) (fun i W W' h hb => ⟨h.1, h.2.then_ hb hW hx.lt hE⟩)
  (fun i W h => h.2.rv hW.lm h.1) (fun i W h hi hr => ⟨by omega, h.2.skip hW.lm hi hr hf⟩) ⟨by omega, LI.start hW hx hE0⟩
  (fun i => { tmps := (a.tmps.setIfInBounds p0 (.int .i64 (i : Nat))).setIfInBounds d (.int .i64 (i : Nat)), defers := [] }) ?_ ?_ ?_)
 ·intro l i W K hK
  refine xAj (l := [o]) (by simp [noD, ho]) (xCk (fun ⟨_, _, h⟩ => h)) ?_
  refine wpList_plain hgd fun K' hK' => ?_
  unfold Oper.wp execOp
  simp only [ho]
  refine hK' _ _ ?_
  rw [hd]
  show K _ W
  have e : ({ tmps := (#[p0].zip #[Value.int .i64 (i : Nat)]).foldl (fun t (p, v) => t.setIfInBounds p v) a.tmps, defers := [] } : Act).eval (.tmp p0) = .int .i64 (i : Nat) := by
   simp [Act.eval, hp0]
  rw [e]
  simpa [Act.put] using hK
 ·intro l i W h hi hr hl
  obtain ⟨x, hx⟩ : ∃ x, s.marks[i]? = some x := ⟨_, qzJ (by rw [hW.lm]; exact hi)⟩
  obtain ⟨k, hk⟩ : ∃ k, c.cl[i]? = some k := ⟨_, qzJ hi⟩
  refine wpIn_mono (hbody l i k x W h.2 hk hx (by unfold rsOf at hr; rw [hx] at hr; exact hr) hl) ?_
  rintro e a3 W3 hq
  cases e with
  | normal => exact ⟨hq.1, by omega, hq.2⟩
  | ret => exact hq.elim
  | exit id => exact hq.elim
  | goto t => exact hq.elim
  | panic ch => exact hq.elim
  | outgrown => exact hq.elim
 ·intro D W hD h hK
  exact hdone D W hD h.2 hK
end Go.Proofs.YtginnonjdbpamaaGreatDoor
/- The walk of the method shift: a role given to another party. -/
namespace Go.Proofs.YtginnonjdbpamaaGreatDoor
open Go.RowKit
attribute [local go_sem] Oper.semAt_some
theorem xH0 {P : Program} {fn : Func} {R : Ending → World → Prop} {tmps : Array Value} {w : World} (hres : fn.results = #[]) (hR : R (.returned (.tuple #[])) w) : LeavesInM Fence.wide 6 P fn tmps R [] .returning w :=
 ⟨_, results_none hres _ _ _, hR⟩
theorem xGb {P : Program} {fn : Func} {R : Ending → World → Prop} {tmps : Array Value} {w : World} {D : Nat} {ds : List Deferred} (hK : w.heap[D]? = some (.deferred (some []))) (h : LeavesInM Fence.wide 6 P fn tmps R ds .returning (w.putObj D (.deferred none))) :
  LeavesInM Fence.wide 6 P fn tmps R ({ target := .collected D, args := #[] } :: ds) .returning w :=
 ⟨by simp, .inl ⟨_, _, rfl, run_takeDeferred hK, h⟩⟩
theorem xF5 {P : Program} {fn : Func} {R : Ending → World → Prop} {a : Act} {w : World} (h : LeavesInM Fence.wide 6 P fn a.tmps R a.defers .returning w) : Qs (bodyPostM Fence.wide 6 P fn R) .ret a w := h
theorem xD5 {P : Program} {fn : Func} {R : Ending → World → Prop} {a : Act} {w : World} (h : LeavesInM Fence.wide 6 P fn a.tmps R a.defers .returning w) : Qs (bodyPostM Fence.wide 6 P fn R) .normal a w := h
theorem xHu {a : Atc} (k : Cla) (x : Mk) (h : x.runs = false) : xBc a k x = x := by
 unfold xBc
 rw [if_neg (fun ⟨e, _⟩ => by rw [h] at e; cases e)]
abbrev pS (q : Qn) (x : Nat) : Prop := x = q.h ∨ x = q.u ∨ x = q.m
abbrev shS (s : Sta) (n : Nat) (a : Atc) : Sta := { s with hol := s.hol.set a.give.toNat a.to_, used := s.used.set n true }
theorem shift_any (w0 : World) (b : Nat) (c : Con) (m : Cm) (s : Sta) (q : Qn) (n : Nat) (a : Atc) (w : World) (hW : Wk w0 w b c m s q) (ha : c.ac[n]? = some a) (hgv : 0 ≤ a.give ∧ a.give < (s.hol.length : Int)) (hu : n < s.used.length) :
  Calls Tryz.prog 81 #[.pointer (some ⟨b, 0, none⟩), .int .i64 (n : Nat)] w fun e w' => e = .returned (.tuple #[]) ∧
   Wk w0 w' b c m { shS s n a with marks := if a.kind = 3 then List.zipWith (xBc a) c.cl s.marks else s.marks } q ∧ Kept w w' (pS q) := by
 obtain ⟨M, hM⟩ : ∃ M, (if a.kind = 3 then List.zipWith (xBc a) c.cl s.marks else s.marks) = M := ⟨_, rfl⟩
 rw [hM]
 have HM := qzL hM
 clear hM
 have hna : n < c.ac.length := (qzM ha).1
 obtain ⟨g, hg⟩ : ∃ g : Nat, a.give = (g : Int) := ⟨a.give.toNat, by omega⟩
 have hgl : g < s.hol.length := by omega
 obtain ⟨hv, hhv⟩ : ∃ v, s.hol[g]? = some v := ⟨_, qzJ hgl⟩
 obtain ⟨uv, huv⟩ : ∃ v, s.used[n]? = some v := ⟨_, qzJ hu⟩
 obtain ⟨b0, o0, eA0, hb0, hc0⟩ := xAx hW.cont.a ha
 have hix0 := fun W => xAq (t := 24) (size := 7) (cap := m.ac) eA0 hna (by kernel_rfl) (fun W => by kernel_rfl) W
 have hrg0 : w.rangeAt b0 (o0 + n * 7) (aL a) := fun j v hv => hc0 j v hv
 have na := hW.cn.na
 have nh := hW.nh
 have nu := hW.nu
 have hix1 := fun W => xAy (t := 22) (size := 1) (g := q.h) (cap := q.hc) hgl (by kernel_rfl) (fun W => by kernel_rfl) W
 have hix2 := fun W => xAy (t := 40) (size := 1) (g := q.u) (cap := q.uc) hu (by kernel_rfl) (fun W => by kernel_rfl) W
 simp only [Nat.mul_one] at hix1 hix2
 have HW := qzL hW
 have HG := qzL hg
 have HHV := qzL hhv
 have HUV := qzL huv
 clear hW ha hgv hc0 eA0 hg hhv huv
 refine (callsIn_wide (n := 6)).1 ?_
 refine callsIn_of_wp_marks Tryz.func81 rfl trivial ?_
 simp only [Tryz.ntmps81, List.size_toArray, List.length_cons, List.length_nil, Nat.reduceAdd, Nat.reduceSub, Array.replicate_succ, Array.replicate_zero, List.push_toArray, List.append_toArray, qzF, qzE]
 refine wpIn_wide.2 ?_
 refine wp_qs ?_
 go_upto_region 1 with (fail)
 refine xAf ?_
 intro X hX
 have gx : Blk X w.heap.size 110 #[.pointer (some ⟨b, 0, none⟩)] := by rw [hX]; exact Blk.new _ _ _
 have hbX : Below w.heap.size w X := by rw [hX]; exact wa1 _ _
 obtain ⟨bx, ebx⟩ : ∃ b, w.heap.size = b := ⟨_, rfl⟩
 have HEX : Hid (w.heap.size = bx) := ebx
 rw [ebx] at gx ⊢
 clear hX ebx
 have hWX := qzL (HW.out.then_ hbX)
 have hrg : X.rangeAt b0 (o0 + n * 7) (aL a) := fun j v hv => (hbX.cell (p := ⟨b0, _, none⟩) hb0).trans (hrg0 j v hv)
 have x0 : X.cell? ⟨bx, 0, none⟩ = some (.pointer (some ⟨b, 0, none⟩)) := gx.cell 0
 have k3 : X.cell? ⟨b, 3, none⟩ = some (.slice m.a c.ac.length m.ac) := hWX.out.g.cell 3
 clear hrg0
 go_upto_region 2 with ((refine xAo 118 el7 _ _ _ rfl rfl rfl rfl rfl rfl rfl rfl rfl b0 _ rfl (aL a) rfl hrg (by simp [Value.oneCell']) (by decide) (by simp) (by simp) ?_; simp only [Act.put, qzG, qzH, qzI]))
 refine xAf ?_
 intro Y hY
 have ga : Blk Y X.heap.size 118 (aL a).toArray := by rw [hY]; exact Blk.new _ _ _
 have hbY : Below X.heap.size X Y := by rw [hY]; exact wa1 _ _
 have gxY := gx.then_ hbY
 have hWY := qzL (hWX.out.then_ hbY)
 have HB : Hid (Below w.heap.size w Y) := xAa hbX hbY
 obtain ⟨ba, eba⟩ : ∃ b, X.heap.size = b := ⟨_, rfl⟩
 have hla : Hid (w.heap.size ≤ bx ∧ w.heap.size ≤ ba) := ⟨by have := HEX.out; omega, by have := hbX.size; omega⟩
 rw [eba] at ga ⊢
 clear hY eba hrg x0 k3 hWX gx hbX hbY
 have x0 : Y.cell? ⟨bx, 0, none⟩ = some (.pointer (some ⟨b, 0, none⟩)) := gxY.cell 0
 have k8 : Y.cell? ⟨b, 8, none⟩ = some (.slice (some ⟨q.h, 0, none⟩) s.hol.length q.hc) := hWY.out.g.cell 8
 have a2 : Y.cell? ⟨ba, 2, none⟩ = some (.int .i64 (g : Int)) := by rw [← HG.out]; exact ga.cell 2
 have a3 : Y.cell? ⟨ba, 3, none⟩ = some (.int .i64 a.to_) := ga.cell 3
 have rg0 := cR x0
 have rg1 := cR k8
 have rg2 := cR a2
 have rg3 := cR a3
 refine xBk [] [0, 1, 2, 3, 4, 5, 6, 7, 8] [9, 10] (by kernel_rfl) (by kernel_rfl) pO ?_
 simp only [xAm, qzA, qzB, qzC, qzD, qzE, qzF]
 repeat (go_big_quiet_step (skip))
 refine wpQuiet_nil ?_
 intro Z hw2
 have hbZ := xAh hw2
 clear hw2 rg0 rg1 rg2 rg3
 have hWZ := qzL (hWY.out.then_ hbZ)
 have gxZ := gxY.then_ hbZ
 have gaZ := ga.then_ hbZ
 have HBZ := qzL (xAa HB.out hbZ)
 obtain ⟨h0, hf0⟩ := hWZ.out.holAt HHV.out
 clear x0 k8 a2 a3 hWY gxY ga hbZ HB
 go_upto_region 3 with (fail)
 refine xAf ?_
 intro U hU
 have hW1 := hWZ.out.setH a.to_ hgl
 rw [← hU] at hW1
 have hK1 : Kept w U (pS q) := by rw [hU]; exact (Kept.of_below HBZ.out).setCell (.inl rfl)
 have uU : Upd Z U q.h := by rw [hU]; exact (Upd.refl _ _).setCell _ _
 have bdx : bx ≠ q.h ∧ bx ≠ q.u ∧ bx ≠ q.m ∧ ba ≠ q.h ∧ ba ≠ q.u ∧ ba ≠ q.m ∧ bx ≠ b ∧ ba ≠ b := by
  have h1 := HW.out.bnd
  have h2 := hla.out
  omega
 have gxU := gxZ.upd uU bdx.1
 have gaU := gaZ.upd uU bdx.2.2.2.1
 have hWU := qzL hW1
 have HKU := qzL hK1
 clear hU hW1 hK1 uU gxZ gaZ h0 hf0 hWZ HBZ
 have x0 : U.cell? ⟨bx, 0, none⟩ = some (.pointer (some ⟨b, 0, none⟩)) := gxU.cell 0
 have k9 : U.cell? ⟨b, 9, none⟩ = some (.slice (some ⟨q.u, 0, none⟩) s.used.length q.uc) := hWU.out.g.cell 9
 obtain ⟨u0, uf0⟩ := hWU.out.useAt HUV.out
 go_upto_region 4 with (fail)
 refine xAf ?_
 intro V hV
 have hW1 := hWU.out.setU true hu
 rw [← hV] at hW1
 have hK1 : Kept w V (pS q) := by rw [hV]; exact HKU.out.setCell (.inr (.inl rfl))
 have uV : Upd U V q.u := by rw [hV]; exact (Upd.refl _ _).setCell _ _
 have gxV := gxU.upd uV bdx.2.1
 have gaV := gaU.upd uV bdx.2.2.2.2.1
 have hWV : Hid (Wk w0 V b c m (shS s n a) q) := by unfold Hid shS; rw [HG.out, Int.toNat_natCast]; exact hW1
 have HKV := qzL hK1
 clear hV hW1 hK1 uV gxU gaU x0 k9 u0 uf0 hWU HKU
 have a0 : V.cell? ⟨ba, 0, none⟩ = some (.int .i64 a.kind) := gaV.cell 0
 cases t3 : (a.kind == 3) with
 | false =>
  have t3' : (a.kind != 3) = true := by simp [bne, t3]
  have hf : Hid (M = s.marks) := by unfold Hid; rw [← HM.out, if_neg (by simpa using t3)]
  go_wp2
  refine xF5 (xH0 rfl ?_)
  rw [hf.out]
  exact ⟨rfl, hWV.out, HKV.out⟩
 | true =>
 have t3' : (a.kind != 3) = false := by simp [bne, t3]
 have hf : Hid (M = List.zipWith (xBc a) c.cl s.marks) := by unfold Hid; rw [← HM.out, if_pos (by simpa using t3)]
 have x0 : V.cell? ⟨bx, 0, none⟩ = some (.pointer (some ⟨b, 0, none⟩)) := gxV.cell 0
 have HRN := qzL (fun W => xCn b W)
 go_wp2_with (go_at_call 77; (with_reducible refine (HRN.out _).mono ?_); rintro e w1 ⟨rfl, hw1⟩; have HW1 := qzL hw1; clear hw1)
 have hw1 := HW1.out
 have hb1 : Below V.heap.size V w1 := by rw [hw1]; exact wa1 _ _
 have gy : Blk w1 V.heap.size 110 #[.pointer (some ⟨b, 0, none⟩)] := by rw [hw1]; exact Blk.new _ _ _
 have hs1 : w1.heap.size = V.heap.size + 1 := by rw [hw1]; simp
 have hW1 := qzL (hWV.out.then_ hb1)
 have hK1 := qzL (HKV.out.trans (Kept.of_below hb1))
 have gx1 := gxV.then_ hb1
 have ga1 := gaV.then_ hb1
 have hlV : Hid (bx < V.heap.size ∧ ba < V.heap.size) := ⟨gxV.lt, gaV.lt⟩
 have hby : Hid (¬ pS q V.heap.size) := by have := hWV.out.bnd; unfold Hid pS; omega
 obtain ⟨by_, eby⟩ : ∃ b, V.heap.size = b := ⟨_, rfl⟩
 rw [eby] at gy hby ⊢
 clear hw1 HW1 HRN x0 a0 gxV gaV hWV HKV
 refine xD4 by_ _ _ _ _ rfl rfl (by simp) rfl rfl rfl rfl hW1.out gy (pS q) (by have := hW1.out.bnd; rintro x (rfl | rfl | rfl) <;> omega) (xBc a) xHu
  (fun W => Blk W bx 110 #[.pointer (some ⟨b, 0, none⟩)] ∧ Blk W ba 118 (aL a).toArray) (fun W W' h hb => ⟨h.1.below hb gx1.lt, h.2.below hb ga1.lt⟩) ⟨gx1, ga1⟩ ?_ ?_
 ·intro l i k x W hI hk hx hr hlW
  simp only [qzG, qzH, qzI]
  have hlm : s.marks.length = c.cl.length := hW1.out.lm
  have hik : i < c.cl.length := (qzM hk).1
  have nk := hW1.out.cn.nk
  obtain ⟨kx, hkx, hkk⟩ := xCv hI.wk.cn.e hk
  obtain ⟨b2, o2, eA2, hb2, hc2⟩ := xAx hI.wk.cont.k hkx
  have hrg : W.rangeAt b2 (o2 + i * 16) (kL kx) := fun j v hv => hc2 j v hv
  have hix3 := fun W => xAq (t := 25) (size := 16) (cap := m.kc) eA2 hik (by kernel_rfl) (fun W => by kernel_rfl) W
  have hx2 : (mixM (xBc a) c.cl s.marks i)[i]? = some x := (xDs hlm hik).trans hx
  have HI := qzL hI
  have HK := qzL hk
  have HX := qzL hx
  have HLM := qzL hlm
  have HXR := qzL hr
  have x0 : W.cell? ⟨bx, 0, none⟩ = some (.pointer (some ⟨b, 0, none⟩)) := hI.e.1.cell 0
  have k4 : W.cell? ⟨b, 4, none⟩ = some (.slice m.k c.cl.length m.kc) := hI.wk.g.cell 4
  clear hI hk hx hr hlm hc2 eA2 hkx
  have HWm := HI.out.wk
  obtain ⟨ms', hms⟩ : ∃ l, mixM (xBc a) c.cl s.marks i = l := ⟨_, rfl⟩
  have HMS := qzL hms
  rw [hms] at hx2 HWm
  have hil : i < ms'.length := (qzM hx2).1
  have nms : ms'.length ≤ 1000000 := HWm.nm
  have hix4 := fun W => xAy (t := 41) (size := 5) (g := q.m) (cap := q.mc) hil (by kernel_rfl) (fun W => by kernel_rfl) W
  have HX2 := qzL hx2
  have HWM := qzL HWm
  clear hms hx2 HWm
  cases hkd : (k.kind != 4) with
  | false =>
   have hsame : Hid (xBc a k x = x) := by unfold Hid xBc; rw [if_neg (fun ⟨_, e, _⟩ => by simp [bne] at hkd; exact e hkd)]
   gi_step
   gi_step
   gi_step
   (with_reducible refine xAj ?_ ?_ ?_; (focus kernel_rfl); exact nO)
   go_wp2_with ((refine xAo 52 el16 _ _ _ rfl rfl rfl rfl rfl rfl rfl rfl rfl b2 _ rfl (kL kx) rfl hrg (by simp [Value.oneCell']) (by decide) (by simp) (by simp) ?_; simp only [Act.put, qzG, qzH, qzI]; refine xBy ?_; intro Y hY; have gk : Blk Y W.heap.size 52 (kL kx).toArray := (by rw [hY]; exact Blk.new _ _ _); have HY : Hid (Below W.heap.size W Y) := (by rw [hY]; exact wa1 _ _); have c0 : Y.cell? ⟨W.heap.size, 0, none⟩ = some (.int .i64 k.kind) := (by rw [← hkk]; exact gk.cell 0); clear hY gk))
   gi_step
   (with_reducible refine xAj ?_ ?_ ?_; (focus kernel_rfl); exact nO)
   go_wp2
   gi_wp2
   exact ⟨Kept.of_below HY.out, HI.out.same HLM.out HK.out HX.out hsame.out HY.out ⟨HI.out.e.1.then_ HY.out, HI.out.e.2.then_ HY.out⟩⟩
  | true =>
  cases hkr : (k.role == (g : Int)) with
  | false =>
   have hsame : Hid (xBc a k x = x) := by unfold Hid xBc; rw [if_neg (fun ⟨_, _, e⟩ => by rw [e, HG.out] at hkr; simp at hkr)]
   gi_step
   gi_step
   gi_step
   (with_reducible refine xAj ?_ ?_ ?_; (focus kernel_rfl); exact nO)
   go_wp2_with ((refine xAo 52 el16 _ _ _ rfl rfl rfl rfl rfl rfl rfl rfl rfl b2 _ rfl (kL kx) rfl hrg (by simp [Value.oneCell']) (by decide) (by simp) (by simp) ?_; simp only [Act.put, qzG, qzH, qzI]; refine xBy ?_; intro Y hY; have gk : Blk Y W.heap.size 52 (kL kx).toArray := (by rw [hY]; exact Blk.new _ _ _); have HY : Hid (Below W.heap.size W Y) := (by rw [hY]; exact wa1 _ _); have c0 : Y.cell? ⟨W.heap.size, 0, none⟩ = some (.int .i64 k.kind) := (by rw [← hkk]; exact gk.cell 0); have c1 : Y.cell? ⟨W.heap.size, 1, none⟩ = some (.int .i64 k.role) := (by rw [← hkk]; exact gk.cell 1); have a2 : Y.cell? ⟨ba, 2, none⟩ = some (.int .i64 (g : Int)) := (by rw [← HG.out]; exact (HI.out.e.2.then_ HY.out).cell 2); clear hY gk))
   gi_step
   (with_reducible refine xAj ?_ ?_ ?_; (focus kernel_rfl); exact nO)
   go_wp2
   gi_wp2
   exact ⟨Kept.of_below HY.out, HI.out.same HLM.out HK.out HX.out hsame.out HY.out ⟨HI.out.e.1.then_ HY.out, HI.out.e.2.then_ HY.out⟩⟩
  | true =>
   have hnov : Hid ({ x with brr := a.to_ } = xBc a k x) := by
    unfold Hid xBc; rw [if_pos ⟨HXR.out, by simpa [bne] using hkd, by rw [HG.out]; simpa using hkr⟩]
   gi_step
   gi_step
   gi_step
   (with_reducible refine xAj ?_ ?_ ?_; (focus kernel_rfl); exact nO)
   go_wp2_with ((refine xAo 52 el16 _ _ _ rfl rfl rfl rfl rfl rfl rfl rfl rfl b2 _ rfl (kL kx) rfl hrg (by simp [Value.oneCell']) (by decide) (by simp) (by simp) ?_; simp only [Act.put, qzG, qzH, qzI]; refine xBy ?_; intro Y hY; have gk : Blk Y W.heap.size 52 (kL kx).toArray := (by rw [hY]; exact Blk.new _ _ _); have HY : Hid (Below W.heap.size W Y) := (by rw [hY]; exact wa1 _ _); have c0 : Y.cell? ⟨W.heap.size, 0, none⟩ = some (.int .i64 k.kind) := (by rw [← hkk]; exact gk.cell 0); have c1 : Y.cell? ⟨W.heap.size, 1, none⟩ = some (.int .i64 k.role) := (by rw [← hkk]; exact gk.cell 1); have a2 : Y.cell? ⟨ba, 2, none⟩ = some (.int .i64 (g : Int)) := (by rw [← HG.out]; exact (HI.out.e.2.then_ HY.out).cell 2); clear hY gk))
   gi_step
   (with_reducible refine xAj ?_ ?_ ?_; (focus kernel_rfl); exact nO)
   go_wp2
   gi_wp2
   have x0' : Y.cell? ⟨bx, 0, none⟩ = some (.pointer (some ⟨b, 0, none⟩)) := (HI.out.e.1.then_ HY.out).cell 0
   have k10 : Y.cell? ⟨b, 10, none⟩ = some (.slice (some ⟨q.m, 0, none⟩) ms'.length q.mc) := (HWM.out.then_ HY.out).g.cell 10
   have a3 : Y.cell? ⟨ba, 3, none⟩ = some (.int .i64 a.to_) := (HI.out.e.2.then_ HY.out).cell 3
   have rg0 := cR x0'
   have rg1 := cR k10
   have rg2 := cR a3
   refine xAv [] [0, 1, 2, 3, 4, 5, 6, 7] [8, 9, 10] (by kernel_rfl) nO (by kernel_rfl) (by kernel_rfl) pO ?_
   simp only [xAm, qzA, qzB, qzC, qzD, qzE, qzF]
   repeat (go_big_quiet_step (skip))
   refine wpQuiet_nil ?_
   intro Z hw2
   have hbZ := xAh hw2
   clear hw2 rg0 rg1 rg2
   have HZ : Hid (Below W.heap.size W Z) := xAa HY.out hbZ
   have HWZ := qzL (HWM.out.then_ HZ.out)
   obtain ⟨_, _, _, ⟨m3, f3⟩, _⟩ := HWZ.out.mark HX2.out
   go_wp2
   have hW9 := HWZ.out.setM (j := 3) (y := { x with brr := a.to_ }) (v := .int .i64 a.to_) HX2.out (by omega) rfl
   have hK9 : Kept W (Z.setCell ⟨q.m, i * 5 + 3, none⟩ (.int .i64 a.to_)) (pS q) := (Kept.of_below HZ.out).setCell (.inr (.inr rfl))
   exact ⟨hK9, HI.out.next HLM.out HK.out HX.out (by rw [HMS.out]; exact hW9) hnov.out hK9 hby.out ⟨HI.out.e.1.kept hK9 (by unfold pS; omega), HI.out.e.2.kept hK9 (by unfold pS; omega)⟩⟩
 ·intro D W hD hI hK
  refine xD5 (xGb hK (xH0 rfl ?_))
  have hu := Upd.putObj (.deferred none) (Array.getElem?_eq_some_iff.1 hK).1
  have hb2 : Below w1.heap.size W (W.putObj D (.deferred none)) := hu.b _ hD
  have hW2 := hI.wk.belowN hb2 hW1.out.bnd hW1.out.hb.size
  rw [xD9 hW1.out.lm] at hW2
  rw [hf.out]
  exact ⟨rfl, hW2, hK1.out.trans (hI.k.thenB hb2)⟩
end Go.Proofs.YtginnonjdbpamaaGreatDoor
/- The walk of slices.BinarySearch at numbers. -/
namespace Go.Proofs.YtginnonjdbpamaaGreatDoor
open Go.RowKit Go.Sort
def befN (a : Int) (l : List Int) : Nat := l.countP fun h => decide (h < a)
theorem nan_any (x : Int) (w : World) : Calls Tryz.prog 83 #[.int .i64 x] w fun e w' => e = .returned (.bool false) ∧ w = w' := by
 go_enter Tryz.func83, Tryz.ntmps83
 go_wp2
 go_ret
 exact ⟨by simp, rfl⟩
theorem cnan_any (x : Int) (w : World) : Calls Tryz.prog 111 #[.int .i64 x] w fun e w' => e = .returned (.bool false) ∧ w = w' := by
 go_enter Tryz.func111, Tryz.ntmps111
 go_wp2
 go_ret
 exact ⟨by simp, rfl⟩
theorem less_any (x y : Int) (w : World) : Calls Tryz.prog 82 #[.int .i64 x, .int .i64 y] w fun e w' => e = .returned (.bool (decide (x < y))) ∧ w = w' := by
 go_enter Tryz.func82, Tryz.ntmps82
 go_wp2_with (go_at_call 111; refine (cnan_any _ _).mono ?_; rintro e w1 ⟨rfl, rfl⟩)
 go_ret
 exact ⟨rfl, rfl⟩
theorem hbb (b : Bool) : b = true ∨ b = false := by cases b <;> simp
theorem xJb {t : Int} : ∀ {zs : List Int} {i : Nat}, i ≤ zs.length → (∀ k x, k < i → zs[k]? = some x → x < t) → (∀ k x, i ≤ k → zs[k]? = some x → t ≤ x) → befN t zs = i
 | [], i, h, _, _ => by simp at h; subst h; rfl
 | z :: zs, 0, _, _, h2 => by
  unfold befN
  rw [List.countP_eq_zero]
  intro x hx
  obtain ⟨k, hk, rfl⟩ := List.getElem_of_mem hx
  have := h2 k _ (by omega) (qzJ hk)
  simp; omega
 | z :: zs, i + 1, h, h1, h2 => by
  have hz := h1 0 z (by omega) rfl
  have ih := xJb (t := t) (zs := zs) (i := i) (by simpa using h) (fun k x hk hx => h1 (k + 1) x (by omega) (by simpa using hx)) (fun k x hk hx => h2 (k + 1) x (by omega) (by simpa using hx))
  unfold befN at ih ⊢
  rw [List.countP_cons, ih]
  simp [hz]
theorem xCd {zs : List Int} (hp : zs.Pairwise (· < ·)) {i j : Nat} {x y : Int} (hx : zs[i]? = some x) (hy : zs[j]? = some y) (h : i < j) : x < y := by
 obtain ⟨h1, rfl⟩ := qzM hx
 obtain ⟨h2, rfl⟩ := qzM hy
 exact List.pairwise_iff_getElem.1 hp i j h1 h2 h
theorem tup_ib {a a' : Int} {b b' : Bool} (h1 : a = a') (h2 : b = b') : Ending.returned (.tuple #[.int .i64 a, .bool b]) = .returned (.tuple #[.int .i64 a', .bool b']) := by rw [h1, h2]
theorem bs_any (A : Option Addr) (zs : List Int) (c : Nat) (t : Int) (w : World) (hl : zs.length ≤ 1000000) (hp : zs.Pairwise (· < ·)) (hm : Seg w w.heap.size 1 (fun x : Int => [Value.int .i64 x]) A zs) :
  Calls Tryz.prog 59 #[.slice A zs.length c, .int .i64 t] w fun e w' => e = .returned (.tuple #[.int .i64 (befN t zs), .bool (zs.contains t)]) ∧ w = w' := by
 have HM := qzL hm
 have HP := qzL hp
 clear hm hp
 go_enter Tryz.func59, Tryz.ntmps59
 go_wp2
 go_loop [7, 8] (fun a b => ∃ i j : Nat, i ≤ j ∧ j ≤ zs.length ∧ a = .int .i64 i ∧ b = .int .i64 j ∧ Hid ((∀ k x, k < i → zs[k]? = some x → x < t) ∧ (∀ k x, j ≤ k → zs[k]? = some x → t ≤ x))) (fun a b => (intOf b).toNat - (intOf a).toNat)
 case atStart => exact ⟨0, zs.length, by omega, by omega, rfl, rfl, ⟨fun k x hk _ => by omega, fun k x hk hx => by have := (qzM hx).1; omega⟩⟩
 case round =>
  obtain ⟨i, j, hij, hj, rfl, rfl, hN⟩ := hrel
  by_cases hlt : i < j
  ·obtain ⟨h, hh⟩ : ∃ h : Nat, h = (i + j) / 2 := ⟨_, rfl⟩
   have q1 : i ≤ h := by omega
   have q2 : h < j := by omega
   have HE := qzL (show ((i : Int) + (j : Int)) / 2 = (h : Int) by omega)
   clear hh
   obtain ⟨x, hx⟩ : ∃ x, zs[h]? = some x := ⟨_, qzJ (by omega)⟩
   obtain ⟨b, off, rfl, hb, hcell⟩ := HM.out h x hx
   have c0 := hcell 0 _ rfl
   simp only [Nat.mul_one, Nat.add_zero] at c0
   have HX := qzL hx
   have HC := qzL hcell
   clear hx hcell
   go_upto_region 5 with (fail)
   rw [HE.out]
   rcases hbb (decide (x < t)) with ht | ht
   ·go_wp2_with (go_at_call 82; refine (less_any _ _ _).mono ?_; rintro e w1 ⟨rfl, rfl⟩)
    go_round
    case rel =>
     refine ⟨h + 1, j, by omega, hj, by go_num, rfl, fun k y hk hy => ?_, hN.out.2⟩
     rcases Nat.lt_or_ge k h with q | q
     ·have := xCd HP.out hy HX.out q
      have := of_decide_eq_true ht
      omega
     ·obtain rfl : k = h := by omega
      have := HX.out.symm.trans hy
      cases this
      exact of_decide_eq_true ht
    case measure => simp [intOf]; omega
   ·go_wp2_with (go_at_call 82; refine (less_any _ _ _).mono ?_; rintro e w1 ⟨rfl, rfl⟩)
    go_round
    case rel =>
     refine ⟨i, h, by omega, by omega, rfl, rfl, hN.out.1, fun k y hk hy => ?_⟩
     have hx' := of_decide_eq_false ht
     rcases Nat.lt_or_ge h k with q | q
     ·have := xCd HP.out HX.out hy q
      omega
     ·obtain rfl : k = h := by omega
      have := HX.out.symm.trans hy
      cases this
      omega
    case measure => simp [intOf]; omega
  ·obtain rfl : i = j := by omega
   have hB := xJb hj hN.out.1 hN.out.2
   by_cases hlt2 : i < zs.length
   ·obtain ⟨x, hx⟩ : ∃ x, zs[i]? = some x := ⟨_, qzJ (by omega)⟩
    obtain ⟨b, off, rfl, hb, hcell⟩ := HM.out i x hx
    have c0 := hcell 0 _ rfl
    simp only [Nat.mul_one, Nat.add_zero] at c0
    have HX := qzL hx
    have HB := qzL hB
    have HN := qzL hN
    clear hx hcell hB
    rcases hbb (x == t) with ht | ht
    ·go_wp2_with (go_at_call 83; refine (nan_any _ _).mono ?_; rintro e w1 ⟨rfl, rfl⟩)
     go_ret2
     refine ⟨?_, rfl⟩
     exact tup_ib (by rw [HB.out]) (by rw [eq_of_beq ht] at HX; exact (qzO (qzK HX.out)).symm)
    ·go_wp2_with (go_at_call 83; refine (nan_any _ _).mono ?_; rintro e w1 ⟨rfl, rfl⟩)
     go_ret2
     have hno : t ∉ zs := fun hm => by
      obtain ⟨k, hk⟩ := List.getElem?_of_mem hm
      have hx' := HX.out
      rcases Nat.lt_trichotomy k i with q | q | q
      ·have := HN.out.out.1 k t q hk; omega
      ·subst q; rw [hk] at hx'; cases hx'; simp at ht
      ·have h1 := xCd HP.out hx' hk q
       have h2 := HN.out.out.2 i x (by omega) hx'
       omega
     exact ⟨tup_ib (by rw [HB.out]) (by first | exact (qzN hno).symm | (simp; exact hno)), rfl⟩
   ·have HB := qzL hB
    have HN := qzL hN.out
    clear hB hN
    go_wp2
    go_ret2
    have hno : t ∉ zs := fun hm => by
     obtain ⟨k, hk⟩ := List.getElem?_of_mem hm
     have hl := (qzM hk).1
     have := HN.out.1 k t (by omega) hk
     omega
    exact ⟨tup_ib (by rw [HB.out]) (by first | exact (qzN hno).symm | (simp; exact hno)), rfl⟩
theorem incO_pw {days : Int} : ∀ {l : List Int} {last : Int}, incO days last l = true → l.Pairwise (· < ·) ∧ (∀ x ∈ l, last < x)
 | [], _, _ => ⟨.nil, by simp⟩
 | d :: l, last, h => by
  simp only [incO, Bool.and_eq_true, decide_eq_true_eq] at h
  obtain ⟨h1, h2⟩ := incO_pw h.2
  refine ⟨List.pairwise_cons.2 ⟨h2, h1⟩, fun x hx => ?_⟩
  rcases List.mem_cons.1 hx with rfl | hx
  ·exact h.1.1
  ·have := h2 x hx; omega
theorem ok_off {c : Con} (h : c.ok = true) : c.off.Pairwise (· < ·) := by
 unfold Con.ok Con.framed at h
 simp only [Bool.and_eq_true] at h
 exact (incO_pw h.1.2.2).1
theorem free_any (A : Option Addr) (zs : List Int) (c : Nat) (t : Int) (w : World) (hl : zs.length ≤ 1000000) (hp : zs.Pairwise (· < ·)) (hm : Seg w w.heap.size 1 eI A zs) (n : Nat) (fr : Bool) (hn : befN t zs = n) (hf : zs.contains t = fr) :
  Calls Tryz.prog 59 #[.slice A zs.length c, .int .i64 t] w fun e w' => e = .returned (.tuple #[.int .i64 n, .bool fr]) ∧ Below w.heap.size w w' :=
 (bs_any A zs c t w hl hp hm).mono fun e w' ⟨h1, h2⟩ => ⟨by rw [h1, hn, hf], h2 ▸ Below.refl _ _⟩
end Go.Proofs.YtginnonjdbpamaaGreatDoor
