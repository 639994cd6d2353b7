/- Contracts of functions and plain laws, joined: Ub, Uc, Ud, Ue. -/
import Derived.Test.YtginnonjdbpamaaGreatDoorMc22
import Derived.Maps.OwnSet
import Derived.Maps.OwnOps
/- A reading of a trace in memory. -/
import Derived.Test.YtginnonjdbpamaaGreatDoorMc1
set_option maxHeartbeats 6400000
set_option maxRecDepth 100000
namespace Go.Proofs.YtginnonjdbpamaaGreatDoor
open Go.RowKit Go.Sort Go.Maps
theorem keyI : Keyed Tryz.prog 3 := int_keyed Tryz.underlying3
theorem keyOf_I {r : Int} (hr : I64 r) : keyOf Tryz.prog 3 (.int .i64 r) = some (.int .i64 r) := keyOf_int_mk Tryz.underlying3 (by simp [Lit.wf, IntKind.min, IntKind.max, IntKind.signed, IntKind.bits]; omega)
def R0 (v : Value) : Option (DataW Value × List MemPlace) := some (.held v, [])
def MapF (w : World) (b n : Nat) (f : Int → Value) : Prop := ∃ D : DataW Value, w.ownsMap Tryz.prog 3 R0 b n D ∧ ∀ k : Int, D.atKey (.int .i64 k) (.held (.slice none 0 0)) = .held (f k)
theorem MapF.made (w : World) : MapF (w.alloc (.map #[] 0)) w.heap.size 0 (fun _ => .slice none 0 0) := ⟨_, World.ownsMap_made w _ _ _, fun _ => rfl⟩
section
variable {w w' : World} {b n : Nat} {f : Int → Value}
theorem MapF.lt (h : MapF w b n f) : b < w.heap.size := by obtain ⟨D, h1, _⟩ := h; exact h1.lt
theorem MapF.keep (h : MapF w b n f) (hk : w'.heap[b]? = w.heap[b]?) : MapF w' b n f := by
 obtain ⟨D, ⟨es, clock, hb, F, hs, hD⟩, h2⟩ := h
 exact ⟨D, ⟨es, clock, hk.trans hb, F, hs, hD⟩, h2⟩
theorem MapF.more (h : MapF w b n f) {n' : Nat} (hn : n ≤ n') : MapF w b n' f := by obtain ⟨D, h1, h2⟩ := h; exact ⟨D, h1.mono hn, h2⟩
theorem MapF.look (h : MapF w b n f) {k : Int} (hk : I64 k) : (Instr.lookup 81 (.map (some b)) (.int .i64 k) false).run Tryz.prog w = .ok (f k) w := by
 obtain ⟨D, h1, h2⟩ := h
 obtain ⟨v, ps, hrun, hv⟩ := h1.lookup keyI Tryz.underlying81 (z := .slice none 0 0) (by kernel_rfl) (zd := .held (.slice none 0 0)) (zp := []) rfl (keyOf_I hk)
 rw [h2 k] at hv
 unfold R0 at hv
 simp only [Option.some.injEq, Prod.mk.injEq, DataW.held.injEq] at hv
 rw [hrun, hv.1]
theorem MapF.put (h : MapF w b n f) {k : Int} (hk : I64 k) (hn : n < maxLen) (v : Value) : ∃ w', (Instr.mapUpdate 81 (.map (some b)) (.int .i64 k) v).run Tryz.prog w = .ok () w' ∧ MapF w' b (n + 1) (fun x => if x = k then v else f x) ∧ Upd w w' b := by
 obtain ⟨D, h1, h2⟩ := h
 obtain ⟨w', hrun, hm, ht⟩ := h1.store keyI Tryz.underlying81 hn (d := .held v) (ps := []) (keyOf_I hk) rfl
 have hD := h1.isMap
 have hg := ht.grown
 obtain ⟨es, clock, es', clock', hb, he⟩ := ht
 have hs : w'.heap.size = w.heap.size := by rw [he]; simp [Go.ChangeMaps.setBlock]
 refine ⟨w', hrun, ⟨_, hm, fun x => ?_⟩, ⟨fun B hB => ⟨hg.os, hg.tape, hg.output, hg.size, fun i hi => ?_⟩, fun x hx => ?_, hs⟩⟩
 ·have hkey : WideAt.IsKeyLit (.int .i64 k) := by trivial
  by_cases e : x = k
  ·subst e
   rw [atKey_put_same hD hkey]
   show _ = DataW.held (if x = x then v else f x)
   rw [if_pos rfl]
  ·rw [atKey_put_other (by simpa using e), h2 x]
   exact congrArg DataW.held (if_neg e).symm
 ·rcases Nat.lt_or_ge i w.heap.size with hl | hl
  ·exact hg.block i hl (fun e => by injection e with e; omega)
  ·rw [Array.getElem?_eq_none (by omega), Array.getElem?_eq_none hl]
 ·rcases Nat.lt_or_ge x w.heap.size with hl | hl
  ·exact hg.block x hl (fun e => by injection e with e; exact hx e)
  ·rw [Array.getElem?_eq_none (by omega), Array.getElem?_eq_none hl]
end
theorem xDo {w : World} {ops : Array Oper} {rest : List Oper} {o : Oper} {a : Act} {Q : Exit → Act → World → Prop} (hg : o.guard = none) (m x v : Operand) (hop : o.op = Op.mapUpdate 81 m x v) (b n : Nat) (f : Int → Value) (k : Int) (V : Value)
  (hm : a.eval m = .map (some b)) (hx : a.eval x = .int .i64 k) (hv : a.eval v = V) (hM : MapF w b n f) (hk : I64 k) (hn : n < maxLen)
  (hK : ∀ w', MapF w' b (n + 1) (fun y => if y = k then V else f y) → Upd w w' b → wpList Tryz.prog ops Q rest (a.put o.dst undef) w') : wpList Tryz.prog ops Q (o :: rest) a w := by
 refine wpList_plain hg fun K' hK' => ?_
 obtain ⟨w', hrun, r1, r2⟩ := hM.put hk hn V
 unfold Oper.wp
 simp [execOp, hop, hm, hx, hv, hrun, Result.andThen]
 exact hK' _ _ (hK w' r1 r2)
def eO (o : Out) : List Value := [.int .i64 o.st, .int .i64 o.from_, .int .i64 o.to_, .int .i64 o.got, .int .i64 o.brr]
def eC (n : Cnt) : List Value := [.int .i64 n.days, .bool n.pau]
theorem xDf (x : Out) : (eO x).length = 5 := rfl
theorem eC_len (x : Cnt) : (eC x).length = 2 := rfl
structure Rq where
 bc : Nat
 h : Nat
 hc : Nat
 a : Nat
 ac : Nat
 k : Nat
 kc : Nat
 o : Nat
 oc : Nat
 mp : Nat
 f : Int → Value
 n : Nat
abbrev Rq.freeV (q : Rq) : Value := .func (.func 84) #[] #[.pointer (some ⟨q.bc, 0, none⟩)]
abbrev rdA (c : Con) (m : Cm) (r : Rd) (q : Rq) : Array Value := #[.int .i64 c.par, .slice m.h c.hold.length m.hc, .slice m.u c.un.length m.uc, .slice m.a c.ac.length m.ac, .slice m.k c.cl.length m.kc, .int .i64 c.days, .slice m.o c.off.length m.oc,
 .int .i64 r.steps, .int .i64 r.day, .slice (some ⟨q.h, 0, none⟩) r.hol.length q.hc, .slice (some ⟨q.a, 0, none⟩) r.hap.length q.ac, q.freeV, .map (some q.mp), .slice (some ⟨q.k, 0, none⟩) r.oc.length q.kc, .slice (some ⟨q.o, 0, none⟩) r.oc.length q.oc]
def Rq.row (q : Rq) (x : Nat) : Prop := ∃ k, (q.f k).ownBlock = some x
structure Rdm (w0 w : World) (b : Nat) (c : Con) (m : Cm) (r : Rd) (wl : Int → List Int) (q : Rq) : Prop where
 g : Blk w b 84 (rdA c m r q)
 gc : Blk w q.bc 27 (coA c m)
 oh : Own w w0.heap.size 3 1 eI (.slice (some ⟨q.h, 0, none⟩) r.hol.length q.hc) r.hol
 oa : Own w w0.heap.size 4 1 eB (.slice (some ⟨q.a, 0, none⟩) r.hap.length q.ac) r.hap
 ok : Own w w0.heap.size 158 2 eC (.slice (some ⟨q.k, 0, none⟩) r.oc.length q.kc) (r.oc.map (·.2))
 oo : Own w w0.heap.size 54 5 eO (.slice (some ⟨q.o, 0, none⟩) r.oc.length q.oc) (r.oc.map (·.1))
 mp : MapF w q.mp q.n q.f
 ol : ∀ k, Own w w0.heap.size 3 1 eI (q.f k) (wl k)
 ap : ∀ k k' x, k ≠ k' → (q.f k).ownBlock = some x → (q.f k').ownBlock ≠ some x
 ah : ¬ q.row q.h
 hb : Below w0.heap.size w0 w
 lb : w0.heap.size ≤ b ∧ w0.heap.size ≤ q.bc ∧ w0.heap.size ≤ q.mp
 bb : b ≠ q.bc
 cn : Cont w0 c m
 lo : r.oc.length = c.cl.length
 lh : r.hol.length = c.hold.length
 la : r.hap.length = c.ac.length
theorem Own.ne_row {α β : Type} {w : World} {B B' : Nat} {T T' : TypeId} {size size' : Nat} {enc : α → List Value} {enc' : β → List Value} {g n cap x : Nat} {v : Value} {xs : List α} {ys : List β} (h : Own w B T size enc (.slice (some ⟨g, 0, none⟩) n cap) xs) (h' : Own w B' T' size' enc' v ys) (ht : T ≠ T') (hv : v.ownBlock = some x) : g ≠ x := by
 obtain ⟨cs, hb⟩ := h.blkT
 rcases h'.2 with ⟨e, _⟩ | ⟨g', cap', cur, e, _, hh, _⟩
 ·rw [e] at hv; cases hv
 ·rw [e] at hv
  obtain rfl : g' = x := Option.some.inj hv
  exact xAw hb (show Blk w g' T' cur from hh) ht
theorem Own.blk_ne_row {β : Type} {w : World} {B' : Nat} {T T' : TypeId} {size' : Nat} {enc' : β → List Value} {g x : Nat} {cs : Array Value} {v : Value} {ys : List β} (h : Blk w g T cs) (h' : Own w B' T' size' enc' v ys) (ht : T ≠ T') (hv : v.ownBlock = some x) : g ≠ x := by
 rcases h'.2 with ⟨e, _⟩ | ⟨g', cap', cur, e, _, hh, _⟩
 ·rw [e] at hv; cases hv
 ·rw [e] at hv
  obtain rfl : g' = x := Option.some.inj hv
  exact xAw h (show Blk w g' T' cur from hh) ht
theorem MapF.ne_blk {w : World} {b n g : Nat} {f : Int → Value} {T : TypeId} {cs : Array Value} (h : MapF w b n f) (hb : Blk w g T cs) : b ≠ g := by
 rintro rfl
 obtain ⟨D, ⟨es, clock, h1, _⟩, _⟩ := h
 have h2 := h1.symm.trans hb
 cases h2
theorem MapF.ne_own {α : Type} {w : World} {b n B : Nat} {f : Int → Value} {T : TypeId} {size x : Nat} {enc : α → List Value} {v : Value} {xs : List α} (h : MapF w b n f) (hO : Own w B T size enc v xs) (hv : v.ownBlock = some x) : b ≠ x := by
 rcases hO.2 with ⟨e, _⟩ | ⟨g', cap', cur, e, _, hh, _⟩
 ·rw [e] at hv; cases hv
 ·rw [e] at hv
  obtain rfl : g' = x := Option.some.inj hv
  exact h.ne_blk (show Blk w g' T cur from hh)
section
variable {w0 w w' : World} {b : Nat} {c : Con} {m : Cm} {r : Rd} {wl : Int → List Int} {q : Rq}
structure QB (q : Rq) (b N : Nat) : Prop where
 b : b < N
 bc : q.bc < N
 h : q.h < N
 a : q.a < N
 k : q.k < N
 o : q.o < N
 mp : q.mp < N
 r : ∀ x, q.row x → x < N
theorem QB.more {N N' : Nat} (h : QB q b N) (hN : N ≤ N') : QB q b N' := ⟨by have := h.b; omega, by have := h.bc; omega, by have := h.h; omega, by have := h.a; omega, by have := h.k; omega, by have := h.o; omega, by have := h.mp; omega, fun x hx => by have := h.r x hx; omega⟩
theorem Rdm.qb (h : Rdm w0 w b c m r wl q) : QB q b w.heap.size :=
 ⟨h.g.lt, h.gc.lt, h.oh.lt_.2, h.oa.lt_.2, h.ok.lt_.2, h.oo.lt_.2, h.mp.lt, fun x ⟨k, hk⟩ => (World.ownsRow.lt (h.ol k) x hk).2⟩
theorem Rdm.keepP {p : Nat → Prop} (h : Rdm w0 w b c m r wl q) (hk : Kept w w' p) (hb : ¬ p b) (hbc : ¬ p q.bc) (hh : ¬ p q.h) (ha : ¬ p q.a) (hkk : ¬ p q.k) (ho : ¬ p q.o) (hm : ¬ p q.mp) (hr : ∀ x, q.row x → ¬ p x) (h0 : ∀ x, p x → w0.heap.size ≤ x) : Rdm w0 w' b c m r wl q :=
 ⟨h.g.kept hk hb, h.gc.kept hk hbc, h.oh.kept_ hk hh, h.oa.kept_ hk ha, h.ok.kept_ hk hkk, h.oo.kept_ hk ho, h.mp.keep (hk.k _ h.mp.lt hm), fun k => by
  refine ⟨(h.ol k).1, ?_⟩
  rcases (h.ol k).2 with h2 | ⟨g', cap', cur, hv, hg', hh, r⟩
  ·exact .inl h2
  ·exact .inr ⟨g', cap', cur, hv, hg', by rw [hk.k g' (Array.getElem?_eq_some_iff.1 hh).1 (hr g' ⟨k, by rw [hv]; rfl⟩)]; exact hh, r⟩, h.ap, h.ah, h.hb.trans (hk.b _ h0 h.hb.size), h.lb, h.bb, h.cn, h.lo, h.lh, h.la⟩
theorem Rdm.then_ (h : Rdm w0 w b c m r wl q) (hb : Below w.heap.size w w') : Rdm w0 w' b c m r wl q :=
 h.keepP (p := fun _ => False) (Kept.of_below hb) id id id id id id id (fun _ _ => id) (fun _ h => h.elim)
theorem Rdm.below {N : Nat} (h : Rdm w0 w b c m r wl q) (hq : QB q b N) (hb : Below N w w') (h0 : w0.heap.size ≤ N) : Rdm w0 w' b c m r wl q := by
 have hk : Kept w w' (fun x => N ≤ x) := ⟨fun B hB hs => by
  have := hB N (Nat.le_refl _)
  exact hb.mono this, fun x hx hp => hb.block x (by omega)⟩
 exact h.keepP hk (by have := hq.b; omega) (by have := hq.bc; omega) (by have := hq.h; omega) (by have := hq.a; omega) (by have := hq.k; omega) (by have := hq.o; omega) (by have := hq.mp; omega) (fun x hx => by have := hq.r x hx; omega) (fun x hx => by omega)
theorem Rdm.bo (h : Rdm w0 w b c m r wl q) : b ≠ q.o := by obtain ⟨_, hb⟩ := h.oo.blkT; exact xAw h.g hb (by decide)
theorem Rdm.bk (h : Rdm w0 w b c m r wl q) : b ≠ q.k := by obtain ⟨_, hb⟩ := h.ok.blkT; exact xAw h.g hb (by decide)
theorem Rdm.bh (h : Rdm w0 w b c m r wl q) : b ≠ q.h := by obtain ⟨_, hb⟩ := h.oh.blkT; exact xAw h.g hb (by decide)
theorem Rdm.ba (h : Rdm w0 w b c m r wl q) : b ≠ q.a := by obtain ⟨_, hb⟩ := h.oa.blkT; exact xAw h.g hb (by decide)
theorem Rdm.bm (h : Rdm w0 w b c m r wl q) : b ≠ q.mp := (h.mp.ne_blk h.g).symm
theorem Rdm.ko (h : Rdm w0 w b c m r wl q) : q.k ≠ q.o := by obtain ⟨_, ha⟩ := h.ok.blkT; obtain ⟨_, hb⟩ := h.oo.blkT; exact xAw ha hb (by decide)
theorem Rdm.ho (h : Rdm w0 w b c m r wl q) : q.h ≠ q.o := by obtain ⟨_, ha⟩ := h.oh.blkT; obtain ⟨_, hb⟩ := h.oo.blkT; exact xAw ha hb (by decide)
theorem Rdm.hk (h : Rdm w0 w b c m r wl q) : q.h ≠ q.k := by obtain ⟨_, ha⟩ := h.oh.blkT; obtain ⟨_, hb⟩ := h.ok.blkT; exact xAw ha hb (by decide)
theorem Rdm.ha (h : Rdm w0 w b c m r wl q) : q.h ≠ q.a := by obtain ⟨_, ha⟩ := h.oh.blkT; obtain ⟨_, hb⟩ := h.oa.blkT; exact xAw ha hb (by decide)
theorem Rdm.ao (h : Rdm w0 w b c m r wl q) : q.a ≠ q.o := by obtain ⟨_, ha⟩ := h.oa.blkT; obtain ⟨_, hb⟩ := h.oo.blkT; exact xAw ha hb (by decide)
theorem Rdm.ak (h : Rdm w0 w b c m r wl q) : q.a ≠ q.k := by obtain ⟨_, ha⟩ := h.oa.blkT; obtain ⟨_, hb⟩ := h.ok.blkT; exact xAw ha hb (by decide)
theorem Rdm.co (h : Rdm w0 w b c m r wl q) : q.bc ≠ q.o := by obtain ⟨_, hb⟩ := h.oo.blkT; exact xAw h.gc hb (by decide)
theorem Rdm.ck (h : Rdm w0 w b c m r wl q) : q.bc ≠ q.k := by obtain ⟨_, hb⟩ := h.ok.blkT; exact xAw h.gc hb (by decide)
theorem Rdm.ch (h : Rdm w0 w b c m r wl q) : q.bc ≠ q.h := by obtain ⟨_, hb⟩ := h.oh.blkT; exact xAw h.gc hb (by decide)
theorem Rdm.ca (h : Rdm w0 w b c m r wl q) : q.bc ≠ q.a := by obtain ⟨_, hb⟩ := h.oa.blkT; exact xAw h.gc hb (by decide)
theorem Rdm.mo (h : Rdm w0 w b c m r wl q) : q.mp ≠ q.o := h.mp.ne_own h.oo rfl
theorem Rdm.mk_ (h : Rdm w0 w b c m r wl q) : q.mp ≠ q.k := h.mp.ne_own h.ok rfl
theorem Rdm.mh (h : Rdm w0 w b c m r wl q) : q.mp ≠ q.h := h.mp.ne_own h.oh rfl
theorem Rdm.ma (h : Rdm w0 w b c m r wl q) : q.mp ≠ q.a := h.mp.ne_own h.oa rfl
theorem Rdm.mc (h : Rdm w0 w b c m r wl q) : q.mp ≠ q.bc := h.mp.ne_blk h.gc
theorem Rdm.rowO (h : Rdm w0 w b c m r wl q) {x : Nat} (hx : q.row x) : x ≠ q.o := by obtain ⟨k, hk⟩ := hx; exact (h.oo.ne_row (h.ol k) (by decide) hk).symm
theorem Rdm.rowK (h : Rdm w0 w b c m r wl q) {x : Nat} (hx : q.row x) : x ≠ q.k := by obtain ⟨k, hk⟩ := hx; exact (h.ok.ne_row (h.ol k) (by decide) hk).symm
theorem Rdm.rowA (h : Rdm w0 w b c m r wl q) {x : Nat} (hx : q.row x) : x ≠ q.a := by obtain ⟨k, hk⟩ := hx; exact (h.oa.ne_row (h.ol k) (by decide) hk).symm
theorem Rdm.rowH (h : Rdm w0 w b c m r wl q) {x : Nat} (hx : q.row x) : x ≠ q.h := fun e => h.ah (e ▸ hx)
theorem Rdm.rowB (h : Rdm w0 w b c m r wl q) {x : Nat} (hx : q.row x) : x ≠ b := by obtain ⟨k, hk⟩ := hx; exact (Own.blk_ne_row h.g (h.ol k) (by decide) hk).symm
theorem Rdm.rowM (h : Rdm w0 w b c m r wl q) {x : Nat} (hx : q.row x) : x ≠ q.mp := by obtain ⟨k, hk⟩ := hx; exact (h.mp.ne_own (h.ol k) hk).symm
abbrev Rd.wo (r : Rd) (oc : List (Out × Cnt)) : Rd := { r with oc := oc }
theorem Rdm.updO {g : Nat} (h : Rdm w0 w b c m r wl q) (u : Upd w w' g) (hg : g = q.o ∨ g = q.k) {oc' : List (Out × Cnt)} (hl : oc'.length = r.oc.length)
  (hO : Own w' w0.heap.size 54 5 eO (.slice (some ⟨q.o, 0, none⟩) r.oc.length q.oc) (oc'.map (·.1))) (hK : Own w' w0.heap.size 158 2 eC (.slice (some ⟨q.k, 0, none⟩) r.oc.length q.kc) (oc'.map (·.2))) : Rdm w0 w' b c m (r.wo oc') wl q := by
 have e : (r.wo oc').oc.length = r.oc.length := hl
 have n1 : b ≠ g := by rcases hg with rfl | rfl; exact h.bo; exact h.bk
 have n2 : q.bc ≠ g := by rcases hg with rfl | rfl; exact h.co; exact h.ck
 have n3 : q.h ≠ g := by rcases hg with rfl | rfl; exact h.ho; exact h.hk
 have n4 : q.a ≠ g := by rcases hg with rfl | rfl; exact h.ao; exact h.ak
 have n5 : q.mp ≠ g := by rcases hg with rfl | rfl; exact h.mo; exact h.mk_
 have n6 : w0.heap.size ≤ g := by rcases hg with rfl | rfl; exact h.oo.lt_.1; exact h.ok.lt_.1
 refine ⟨?_, h.gc.upd u n2, h.oh.upd u (by intro k hk; cases hk; exact n3), h.oa.upd u (by intro k hk; cases hk; exact n4), by rw [e]; exact hK, by rw [e]; exact hO, h.mp.keep (u.f _ n5), fun k => (h.ol k).upd u fun x hx => ?_, h.ap, h.ah, h.hb.trans (u.b _ n6), h.lb, h.bb, h.cn, e.trans h.lo, h.lh, h.la⟩
 ·have h2 := h.g.upd u n1
  unfold rdA at h2 ⊢
  rw [e]
  exact h2
 ·rcases hg with rfl | rfl
  ·exact h.rowO ⟨k, hx⟩
  ·exact h.rowK ⟨k, hx⟩
theorem Rdm.setO (h : Rdm w0 w b c m r wl q) {i j : Nat} {x : Out × Cnt} {y : Out} {v : Value} (hx : r.oc[i]? = some x) (hj : j < 5) (hy : eO y = (eO x.1).set j v) : Rdm w0 (w.setCell ⟨q.o, i * 5 + j, none⟩ v) b c m (r.wo (r.oc.set i (y, x.2))) wl q := by
 have hi := (qzM hx).1
 have hx1 : (r.oc.map (·.1))[i]? = some x.1 := by rw [List.getElem?_map, hx]; rfl
 have hx2 : (r.oc.map (·.2))[i]? = some x.2 := by rw [List.getElem?_map, hx]; rfl
 have u := (Upd.refl w q.o).setCell (i * 5 + j) v
 refine h.updO u (.inl rfl) List.length_set ?_ ?_
 ·have h2 := h.oo.setAt xDf (List.length_map _) hx1 hj hy
  rw [List.map_set]
  exact h2
 ·rw [List.map_set, show (r.oc.map (·.2)).set i x.2 = r.oc.map (·.2) from by
   refine List.ext_getElem? fun n => ?_
   by_cases e : i = n
   ·subst e; rw [List.getElem?_set_self (by rw [List.length_map]; exact hi), hx2]
   ·rw [List.getElem?_set_ne e]]
  exact h.ok.upd u (by intro k hk; cases hk; exact h.ko)
theorem Rdm.setK (h : Rdm w0 w b c m r wl q) {i j : Nat} {x : Out × Cnt} {y : Cnt} {v : Value} (hx : r.oc[i]? = some x) (hj : j < 2) (hy : eC y = (eC x.2).set j v) : Rdm w0 (w.setCell ⟨q.k, i * 2 + j, none⟩ v) b c m (r.wo (r.oc.set i (x.1, y))) wl q := by
 have hi := (qzM hx).1
 have hx1 : (r.oc.map (·.1))[i]? = some x.1 := by rw [List.getElem?_map, hx]; rfl
 have hx2 : (r.oc.map (·.2))[i]? = some x.2 := by rw [List.getElem?_map, hx]; rfl
 have u := (Upd.refl w q.k).setCell (i * 2 + j) v
 refine h.updO u (.inr rfl) List.length_set ?_ ?_
 ·rw [List.map_set, show (r.oc.map (·.1)).set i x.1 = r.oc.map (·.1) from by
   refine List.ext_getElem? fun n => ?_
   by_cases e : i = n
   ·subst e; rw [List.getElem?_set_self (by rw [List.length_map]; exact hi), hx1]
   ·rw [List.getElem?_set_ne e]]
  exact h.oo.upd u (by intro k hk; cases hk; exact h.ko.symm)
 ·have h2 := h.ok.setAt eC_len (List.length_map _) hx2 hj hy
  rw [List.map_set]
  exact h2
theorem Rdm.out (h : Rdm w0 w b c m r wl q) {i : Nat} {x : Out × Cnt} (hx : r.oc[i]? = some x) :
  (w.cell? ⟨q.o, i * 5, none⟩ = some (.int .i64 x.1.st) ∧ w.frozen? ⟨q.o, i * 5, none⟩ = false) ∧ (w.cell? ⟨q.o, i * 5 + 1, none⟩ = some (.int .i64 x.1.from_) ∧ w.frozen? ⟨q.o, i * 5 + 1, none⟩ = false) ∧ (w.cell? ⟨q.o, i * 5 + 2, none⟩ = some (.int .i64 x.1.to_) ∧ w.frozen? ⟨q.o, i * 5 + 2, none⟩ = false) ∧
   (w.cell? ⟨q.o, i * 5 + 3, none⟩ = some (.int .i64 x.1.got) ∧ w.frozen? ⟨q.o, i * 5 + 3, none⟩ = false) ∧ (w.cell? ⟨q.o, i * 5 + 4, none⟩ = some (.int .i64 x.1.brr) ∧ w.frozen? ⟨q.o, i * 5 + 4, none⟩ = false) := by
 have hx1 : (r.oc.map (·.1))[i]? = some x.1 := by rw [List.getElem?_map, hx]; rfl
 exact ⟨h.oo.getAt xDf (List.length_map _) hx1 (j := 0) (by omega), h.oo.getAt xDf (List.length_map _) hx1 (j := 1) (by omega), h.oo.getAt xDf (List.length_map _) hx1 (j := 2) (by omega), h.oo.getAt xDf (List.length_map _) hx1 (j := 3) (by omega), h.oo.getAt xDf (List.length_map _) hx1 (j := 4) (by omega)⟩
theorem Rdm.cnt (h : Rdm w0 w b c m r wl q) {i : Nat} {x : Out × Cnt} (hx : r.oc[i]? = some x) :
  (w.cell? ⟨q.k, i * 2, none⟩ = some (.int .i64 x.2.days) ∧ w.frozen? ⟨q.k, i * 2, none⟩ = false) ∧ (w.cell? ⟨q.k, i * 2 + 1, none⟩ = some (.bool x.2.pau) ∧ w.frozen? ⟨q.k, i * 2 + 1, none⟩ = false) := by
 have hx2 : (r.oc.map (·.2))[i]? = some x.2 := by rw [List.getElem?_map, hx]; rfl
 exact ⟨h.ok.getAt eC_len (List.length_map _) hx2 (j := 0) (by omega), h.ok.getAt eC_len (List.length_map _) hx2 (j := 1) (by omega)⟩
theorem Rdm.no (h : Rdm w0 w b c m r wl q) : r.oc.length ≤ 1000000 := by rw [h.lo]; exact h.cn.nk
end
end Go.Proofs.YtginnonjdbpamaaGreatDoor
/- The walks of a reading's end, runs, ready. -/
namespace Go.Proofs.YtginnonjdbpamaaGreatDoor
open Go.RowKit Go.Sort Go.Maps
def EffR (w0 w : World) (b : Nat) (c : Con) (m : Cm) (r : Rd) (wl : Int → List Int) (q : Rq) (i : Nat) (y : Out × Cnt) (V : Value) (e : Ending) (w' : World) : Prop := e = .returned V ∧ Rdm w0 w' b c m (r.wo (r.oc.set i y)) wl q ∧ Kept w w' (fun x => x = q.o)
theorem xG5 (w0 : World) (b : Nat) (c : Con) (m : Cm) (r : Rd) (wl : Int → List Int) (q : Rq) (i : Nat) (x : Out × Cnt) (st : Int) (w : World) (hW : Rdm w0 w b c m r wl q) (hx : r.oc[i]? = some x) :
  Calls Tryz.prog 115 #[.pointer (some ⟨b, 0, none⟩), .int .i64 (i : Nat), .int .i64 st] w fun e w' => EffR w0 w b c m r wl q i ({ x.1 with st := st, to_ := r.steps }, x.2) (.tuple #[]) e w' := by
 have him : i < r.oc.length := (qzM hx).1
 have hix := fun W => xAy (t := 37) (size := 5) (g := q.o) (cap := q.oc) him (by kernel_rfl) (fun W => by kernel_rfl) W
 have HW := qzL hW
 have HX := qzL hx
 have nm := hW.no
 have k14 : w.cell? ⟨b, 14, none⟩ = some (.slice (some ⟨q.o, 0, none⟩) r.oc.length q.oc) := hW.g.cell 14
 have k7 : w.cell? ⟨b, 7, none⟩ = some (.int .i64 r.steps) := hW.g.cell 7
 clear hW hx
 go_enter Tryz.func115, Tryz.ntmps115
 have rg0 := cR k14
 have rg1 := cR k7
 refine xBk [9] [0, 1, 2, 3, 4, 5, 6, 7, 8, 10, 11, 12, 13, 14] [15, 16, 17, 18, 19, 20] (by kernel_rfl) (by kernel_rfl) pO ?_
 simp only [xAm, qzA, qzB, qzC, qzD, qzE, qzF]
 repeat (go_big_quiet_step (skip))
 refine wpQuiet_nil ?_
 intro X hw2
 have hbX := xAh hw2
 clear hw2 rg0 rg1
 have hWX := HW.out.then_ hbX
 obtain ⟨⟨m0, f0⟩, ⟨m1, f1⟩, ⟨m2, f2⟩, ⟨m3, f3⟩, ⟨m4, f4⟩⟩ := hWX.out HX.out
 have HX2 := qzL hWX
 clear hWX
 go_wp2
 go_end0
 refine ⟨rfl, ?_, ?_⟩
 ·have h1 := HX2.out.setO (j := 0) (y := { x.1 with st := st }) (v := .int .i64 st) HX.out (by omega) rfl
  have h2 := h1.setO (i := i) (j := 2) (x := ({ x.1 with st := st }, x.2)) (y := { x.1 with st := st, to_ := r.steps }) (v := .int .i64 r.steps) (by simp [him]) (by omega) rfl
  simpa using h2
 ·exact ((Kept.of_below (p := (· = q.o)) hbX).setCell rfl).setCell rfl
theorem xFe (w0 : World) (b : Nat) (c : Con) (m : Cm) (r : Rd) (wl : Int → List Int) (q : Rq) (i : Nat) (x : Out × Cnt) (w : World) (hW : Rdm w0 w b c m r wl q) (hx : r.oc[i]? = some x) :
  Calls Tryz.prog 113 #[.pointer (some ⟨b, 0, none⟩), .int .i64 (i : Nat)] w fun e w' => e = .returned (.bool x.1.runs) ∧ Below w.heap.size w w' := by
 have him : i < r.oc.length := (qzM hx).1
 have hix := fun W => xAy (t := 37) (size := 5) (g := q.o) (cap := q.oc) him (by kernel_rfl) (fun W => by kernel_rfl) W
 have nm := hW.no
 have k14 : w.cell? ⟨b, 14, none⟩ = some (.slice (some ⟨q.o, 0, none⟩) r.oc.length q.oc) := hW.g.cell 14
 obtain ⟨⟨m0, f0⟩, ⟨m1, f1⟩, ⟨m2, f2⟩, ⟨m3, f3⟩, ⟨m4, f4⟩⟩ := hW.out hx
 have HR : Hid (x.1.runs = (decide (0 ≤ x.1.from_) && decide (x.1.to_ < 0))) := rfl
 obtain ⟨R, eR⟩ : ∃ R, x.1.runs = R := ⟨_, rfl⟩
 rw [eR]
 have HR := HR.out
 rw [eR] at HR
 have HR := qzL HR
 clear hW hx eR
 go_enter Tryz.func113, Tryz.ntmps113
 cases t1 : decide (0 ≤ x.1.from_) with
 | false =>
  have e1 : Hid (R = false) := by unfold Hid; rw [HR.out, t1, Bool.false_and]
  go_wp2
  go_ret
  exact ⟨xAb e1.out.symm, by (repeat (first | (with_reducible first | assumption | exact Below.refl _ _ | refine xAk ?_ _ | refine Below.drew ?_ | refine xAc ?_ _ | refine Below.setCell ?_ (by first | omega | (simp; done) | (simp; omega)) _ | refine xAa ?_ (by assumption)) | (refine xAa (a := World.drew _) ?_ (by with_reducible assumption))))⟩
 | true =>
  cases t2 : decide (x.1.to_ < 0) with
  | false =>
   have e1 : Hid (R = false) := by unfold Hid; rw [HR.out, t1, t2]; rfl
   go_wp2
   go_ret
   exact ⟨xAb e1.out.symm, by (repeat (first | (with_reducible first | assumption | exact Below.refl _ _ | refine xAk ?_ _ | refine Below.drew ?_ | refine xAc ?_ _ | refine Below.setCell ?_ (by first | omega | (simp; done) | (simp; omega)) _ | refine xAa ?_ (by assumption)) | (refine xAa (a := World.drew _) ?_ (by with_reducible assumption))))⟩
  | true =>
   have e1 : Hid (R = true) := by unfold Hid; rw [HR.out, t1, t2]; rfl
   go_wp2
   go_ret
   exact ⟨xAb e1.out.symm, by (repeat (first | (with_reducible first | assumption | exact Below.refl _ _ | refine xAk ?_ _ | refine Below.drew ?_ | refine xAc ?_ _ | refine Below.setCell ?_ (by first | omega | (simp; done) | (simp; omega)) _ | refine xAa ?_ (by assumption)) | (refine xAa (a := World.drew _) ?_ (by with_reducible assumption))))⟩
end Go.Proofs.YtginnonjdbpamaaGreatDoor
/- The walk of a reading's ready. -/
namespace Go.Proofs.YtginnonjdbpamaaGreatDoor
open Go.RowKit Go.Sort Go.Maps
def CIs (c : Con) : Prop := ∀ k ∈ c.cl, ∀ p ∈ k.start, 1 ≤ p.2 ∧ p.2 ≤ 4
theorem readyR_any (w0 : World) (b : Nat) (c : Con) (m : Cm) (r : Rd) (wl : Int → List Int) (q : Rq) (i : Nat) (k : Cla) (w : World) (hW : Rdm w0 w b c m r wl q) (hk : c.cl[i]? = some k) (hcs : xEq c) (hci : CIs c) :
  Calls Tryz.prog 112 #[.pointer (some ⟨b, 0, none⟩), .int .i64 (i : Nat)] w fun e w' => e = .returned (.bool (xCs r k)) ∧ Below w.heap.size w w' := by
 obtain ⟨R, hR⟩ : ∃ R, xCs r k = R := ⟨_, rfl⟩
 rw [hR]
 have HR : Hid (R = k.start.all fun s => xA1 s.2 (stR r s.1)) := hR.symm
 obtain ⟨kx, hkx, hkk⟩ := xCv hW.cn.e hk
 subst hkk
 have hcond : ∀ y ∈ kx.k.start, (0 ≤ y.1 ∧ y.1 < (c.cl.length : Int)) ∧ 1 ≤ y.2 ∧ y.2 ≤ 4 := fun y hy => ⟨hcs _ (qzK hk) y hy, hci _ (qzK hk) y hy⟩
 have HC := qzL hcond
 have hik : i < c.cl.length := (qzM hk).1
 have nk := hW.cn.nk
 have no := hW.no
 have HW := qzL hW
 have hko := (hW.cn.t kx (qzK hkx)).then_ hW.hb
 have ns := hko.n
 have HT := qzL hko.s
 obtain ⟨b0, o0, eA0, hb0, hc0⟩ := xAx (hW.cn.k.below hW.hb) hkx
 have hix0 := fun W => xAq (t := 25) (size := 16) (cap := m.kc) eA0 hik (by kernel_rfl) (fun W => by kernel_rfl) W
 have d2 : w.cell? ⟨b0, o0 + i * 16 + 4, none⟩ = some (.slice kx.A kx.k.start.length kx.cap) := hc0 4 _ rfl
 have k4 : w.cell? ⟨b, 4, none⟩ = some (.slice m.k c.cl.length m.kc) := hW.g.cell 4
 clear hR hcond hcs hci hW hko hc0 hkx hk
 go_enter Tryz.func112, Tryz.ntmps112
 go_upto_region 2 with (fail)
 clear hix0 d2 k4 hb0 eA0
 go_loopw [19] (fun y WR => ∃ j : Nat, j ≤ kx.k.start.length ∧ y = .int .i64 j ∧ Hid (∀ n v, n < j → kx.k.start[n]? = some v → xA1 v.2 (stR r v.1) = true) ∧ Hid (Below w.heap.size w WR)) (fun y _ => 2000000 - (intOf y).toNat)
 case atStart => exact ⟨0, by omega, rfl, fun n u h => absurd h (by omega), qzL (Below.refl _ _)⟩
 case round =>
  obtain ⟨j, hj, rfl, hN, HBR⟩ := hrel
  by_cases hlt : j < kx.k.start.length
  ·have tj : decide ((j : Int) < (kx.k.start.length : Int)) = true := qzO (by omega)
   obtain ⟨v, hv⟩ : ∃ v, kx.k.start[j]? = some v := ⟨_, qzJ hlt⟩
   have hcv := HC.out v (qzK hv)
   obtain ⟨n, hn⟩ : ∃ n : Nat, v.1 = (n : Int) := ⟨v.1.toNat, by omega⟩
   have hnl : n < r.oc.length := by rw [HW.out.lo]; omega
   obtain ⟨y, hy⟩ : ∃ y, r.oc[n]? = some y := ⟨_, qzJ hnl⟩
   have HN2 : Hid (stR r v.1 = y.1.st) := by unfold Hid stR; rw [hn, Int.toNat_natCast, hy]
   obtain ⟨b2, o2, eA2, hb2, hc2⟩ := xAx (HT.out.below HBR.out) hv
   have hrg : wr.rangeAt b2 (o2 + j * 2) (sL v) := fun j v hv => hc2 j v hv
   have hix2 := fun W => xAq (t := 48) (size := 2) (cap := kx.cap) eA2 hlt (by kernel_rfl) (fun W => by kernel_rfl) W
   have lw := HBR.out.size
   have HV := qzL hv
   have HY := qzL hy
   clear hv hy hc2 eA2
   go_upto_region 4 with ((refine xAo 121 elS _ _ _ rfl rfl rfl rfl rfl rfl rfl rfl rfl b2 _ rfl (sL v) rfl hrg (by simp [Value.oneCell']) (by decide) (by simp) (by simp) ?_; simp only [Act.put, qzG, qzH, qzI]))
   refine xAf ?_
   intro V hV
   have gx : Blk V wr.heap.size 121 (sL v).toArray := by rw [hV]; exact Blk.new _ _ _
   have HVB : Hid (Below wr.heap.size wr V) := by rw [hV]; exact wa1 _ _
   have hRV := HW.out.then_ (xAa HBR.out HVB.out)
   have k14 : V.cell? ⟨b, 14, none⟩ = some (.slice (some ⟨q.o, 0, none⟩) r.oc.length q.oc) := hRV.g.cell 14
   obtain ⟨⟨y1, f0⟩, ⟨m1, f1⟩, ⟨m2, f2⟩, ⟨m3, f3⟩, ⟨m4, f4⟩⟩ := hRV.out HY.out
   have hix3 := fun W => xAy (t := 37) (size := 5) (g := q.o) (cap := q.oc) hnl (by kernel_rfl) (fun W => by kernel_rfl) W
   obtain ⟨bx, ex⟩ : ∃ b, wr.heap.size = b := ⟨_, rfl⟩
   rw [ex] at gx ⊢
   have lbx : bx < V.heap.size := gx.lt
   clear hV ex hrg hix2 f0 m1 f1 m2 f2 m3 f3 m4 f4 hRV
   have x0 : V.cell? ⟨bx, 0, none⟩ = some (.int .i64 (n : Int)) := by rw [← hn]; exact gx.cell 0
   have x1 : V.cell? ⟨bx, 1, none⟩ = some (.int .i64 v.2) := gx.cell 1
   have hz : ∀ b, xA1 v.2 y.1.st = b → b = false → R = false := fun b h1 h2 => by
    rw [HR.out, List.all_eq_false]
    exact ⟨v, qzK HV.out, by rw [HN2.out, h1, h2]; simp⟩
   have hg : xA1 v.2 y.1.st = true → ∀ n' v', n' < j + 1 → kx.k.start[n']? = some v' → xA1 v'.2 (stR r v'.1) = true := fun h n' v' h1 h2 => by
    by_cases e : n' = j
    ·subst e
     rw [HV.out] at h2
     cases h2
     rw [HN2.out]; exact h
    ·exact hN.out n' v' (by omega) h2
   have HZ := qzL hz
   have HG := qzL hg
   obtain ⟨is, his⟩ : ∃ z, v.2 = z := ⟨_, rfl⟩
   rw [his] at x1 HZ HG hcv
   obtain ⟨st, hst⟩ : ∃ z, y.1.st = z := ⟨_, rfl⟩
   rw [hst] at y1 HZ HG
   clear his hst hz hg gx HT HN2 HC hn HV HY
   have h4 : is = 1 ∨ is = 2 ∨ is = 3 ∨ is = 4 := by omega
   clear hcv
   have rg0 := cR k14
   have rg1 := cR x0
   have rg2 := cR x1
   have rg3 := cR y1
   refine xAe [0, 1, 2, 3, 4, 5, 6, 7, 8] [9] (by kernel_rfl) (by kernel_rfl) pO ?_
   simp only [xAm, qzA, qzB, qzC, qzD, qzE, qzF]
   repeat (go_big_quiet_step (skip))
   refine wpQuiet_nil ?_
   intro Z hw2
   have hbZ := xAh hw2
   clear hw2 rg0 rg1 rg2 rg3
   have z1 : Z.cell? ⟨bx, 1, none⟩ = some (.int .i64 is) := (hbZ.cell (p := ⟨bx, 1, none⟩) (by show bx < _; first | omega | exact lbx)).trans x1
   go_upto_region 5 with (fail)
   have HZB : Hid (Below w.heap.size w Z) := qzL (xAa (xAa HBR.out HVB.out) hbZ)
   clear k14 x0 x1 y1 hbZ HVB
   rcases h4 with rfl | rfl | rfl | rfl
   ·cases hb : (st != 0) with
    | true =>
     have hh := qzL (HG.out (by show (st != 0) = true; exact hb))
     clear HZ HG
     go_wp2
     go_roundw
     case rel => exact ⟨j + 1, by omega, by simp, hh.out, HZB⟩
     case measure => simp [intOf]; omega
    | false =>
     have hh := qzL (HZ.out _ (by show (st != 0) = false; exact hb) rfl)
     clear HZ HG
     go_wp2
     go_ret
     exact ⟨xAb hh.out.symm, HZB.out⟩
   ·cases hb : (st == 3) with
    | true =>
     have hh := qzL (HG.out (by show (st == 3) = true; exact hb))
     clear HZ HG
     go_wp2
     go_roundw
     case rel => exact ⟨j + 1, by omega, by simp, hh.out, HZB⟩
     case measure => simp [intOf]; omega
    | false =>
     have hh := qzL (HZ.out _ (by show (st == 3) = false; exact hb) rfl)
     clear HZ HG
     go_wp2
     go_ret
     exact ⟨xAb hh.out.symm, HZB.out⟩
   ·cases hb : (st == 4) with
    | true =>
     have hh := qzL (HG.out (by show (st == 4) = true; exact hb))
     clear HZ HG
     go_wp2
     go_roundw
     case rel => exact ⟨j + 1, by omega, by simp, hh.out, HZB⟩
     case measure => simp [intOf]; omega
    | false =>
     have hh := qzL (HZ.out _ (by show (st == 4) = false; exact hb) rfl)
     clear HZ HG
     go_wp2
     go_ret
     exact ⟨xAb hh.out.symm, HZB.out⟩
   ·cases hb : (st == 5) with
    | true =>
     have hh := qzL (HG.out (by show (st == 5) = true; exact hb))
     clear HZ HG
     go_wp2
     go_roundw
     case rel => exact ⟨j + 1, by omega, by simp, hh.out, HZB⟩
     case measure => simp [intOf]; omega
    | false =>
     have hh := qzL (HZ.out _ (by show (st == 5) = false; exact hb) rfl)
     clear HZ HG
     go_wp2
     go_ret
     exact ⟨xAb hh.out.symm, HZB.out⟩
  ·have tj : decide ((j : Int) < (kx.k.start.length : Int)) = false := qzN (by omega)
   have hf : Hid (R = true) := by
    unfold Hid; rw [HR.out, List.all_eq_true]
    intro v hv
    obtain ⟨n, hn⟩ := List.getElem?_of_mem hv
    exact hN.out n v (by have := (qzM hn).1; omega) hn
   go_wp2
   go_ret
   exact ⟨xAb hf.out.symm, HBR.out⟩
end Go.Proofs.YtginnonjdbpamaaGreatDoor
/- The walk of a reading's counted. -/
namespace Go.Proofs.YtginnonjdbpamaaGreatDoor
open Go.RowKit Go.Sort Go.Maps
def cntB (doer : Int) (k : Cla) (o : Out) (n : Cnt) : Bool :=
 if k.kind ≠ 4 ∧ o.brr ≠ doer then false else if k.kind = 1 then !decide (o.got + 1 < k.need) else if k.kind = 2 then !n.pau else true
theorem xI9 (w0 : World) (b : Nat) (c : Con) (m : Cm) (r : Rd) (wl : Int → List Int) (q : Rq) (i : Nat) (k : Cla) (x : Out × Cnt) (doer : Int) (w : World) (hW : Rdm w0 w b c m r wl q) (hk : c.cl[i]? = some k) (hx : r.oc[i]? = some x) (hgot : 0 ≤ x.1.got ∧ x.1.got ≤ 1000000) :
  Calls Tryz.prog 114 #[.pointer (some ⟨b, 0, none⟩), .int .i64 (i : Nat), .int .i64 doer] w fun e w' => EffR w0 w b c m r wl q i (xAu doer r.steps k x.1 x.2, x.2) (.bool (cntB doer k x.1 x.2)) e w' := by
 obtain ⟨Y, hY⟩ : ∃ Y, xAu doer r.steps k x.1 x.2 = Y := ⟨_, rfl⟩
 obtain ⟨B, hB⟩ : ∃ B, cntB doer k x.1 x.2 = B := ⟨_, rfl⟩
 rw [hY, hB]
 have HY := qzL hY
 have HB := qzL hB
 clear hY hB
 obtain ⟨kx, hkx, hkk⟩ := xCv hW.cn.e hk
 subst hkk
 have hik : i < c.cl.length := (qzM hk).1
 have him : i < r.oc.length := (qzM hx).1
 have nk := hW.cn.nk
 have no := hW.no
 have HW := qzL hW
 have HX := qzL hx
 obtain ⟨b0, o0, eA0, hb0, hc0⟩ := xAx (hW.cn.k.below hW.hb) hkx
 have hix0 := fun W => xAq (t := 25) (size := 16) (cap := m.kc) eA0 hik (by kernel_rfl) (fun W => by kernel_rfl) W
 have hix := fun W => xAy (t := 37) (size := 5) (g := q.o) (cap := q.oc) him (by kernel_rfl) (fun W => by kernel_rfl) W
 have hixk := fun W => xAy (t := 82) (size := 2) (g := q.k) (cap := q.kc) him (by kernel_rfl) (fun W => by kernel_rfl) W
 have hrg : w.rangeAt b0 (o0 + i * 16) (kL kx) := fun j v hv => hc0 j v hv
 have k4 : w.cell? ⟨b, 4, none⟩ = some (.slice m.k c.cl.length m.kc) := hW.g.cell 4
 have HE := qzL (fun st W r' x' (h : Rdm w0 W b c m r' wl q) (hx' : r'.oc[i]? = some x') => xG5 w0 b c m r' wl q i x' st W h hx')
 clear hW hx hk hkx hc0 eA0
 go_enter Tryz.func114, Tryz.ntmps114
 go_upto_region 2 with ((refine xAo 52 el16 _ _ _ rfl rfl rfl rfl rfl rfl rfl rfl rfl b0 _ rfl (kL kx) rfl hrg (by simp [Value.oneCell']) (by decide) (by simp) (by simp) ?_; simp only [Act.put, qzG, qzH, qzI]))
 refine xAf ?_
 intro V hV
 have gx : Blk V w.heap.size 52 (kL kx).toArray := by rw [hV]; exact Blk.new _ _ _
 have HVB : Hid (Below w.heap.size w V) := by rw [hV]; exact wa1 _ _
 obtain ⟨bx, ex⟩ : ∃ b, w.heap.size = b := ⟨_, rfl⟩
 have lx : Hid (w.heap.size ≤ bx ∧ bx < V.heap.size) := ⟨by omega, by rw [← ex]; exact gx.lt⟩
 have nox : Hid (bx ≠ q.o) := by unfold Hid; have := HW.out.oo.lt_.2; omega
 rw [ex] at gx ⊢
 have hRV := HW.out.then_ HVB.out
 have k14 : V.cell? ⟨b, 14, none⟩ = some (.slice (some ⟨q.o, 0, none⟩) r.oc.length q.oc) := hRV.g.cell 14
 have k13 : V.cell? ⟨b, 13, none⟩ = some (.slice (some ⟨q.k, 0, none⟩) r.oc.length q.kc) := hRV.g.cell 13
 obtain ⟨⟨y0, f0⟩, ⟨y1, f1⟩, ⟨y2, f2⟩, ⟨y3, f3⟩, ⟨y4, f4⟩⟩ := hRV.out HX.out
 obtain ⟨⟨z0, e0⟩, ⟨z1, e1⟩⟩ := hRV.cnt HX.out
 have HR := qzL hRV
 have GX := qzL gx
 clear hV ex hrg hix0 k4 y0 f0 y1 f1 y2 f2 z0 e0 e1 f4 hRV hb0
 have x0 : V.cell? ⟨bx, 0, none⟩ = some (.int .i64 kx.k.kind) := gx.cell 0
 have x3 : V.cell? ⟨bx, 3, none⟩ = some (.int .i64 kx.k.need) := gx.cell 3
 clear gx
 by_cases h4 : kx.k.kind ≠ 4 ∧ x.1.brr ≠ doer
 case pos =>
  have t4 : (kx.k.kind != 4) = true := by simpa using h4.1
  have t5 : (x.1.brr != doer) = true := by simpa using h4.2
  have eB : Hid (B = false) := by unfold Hid; rw [← HB.out]; unfold cntB; rw [if_pos h4]
  have eY : Hid (Y = x.1) := by unfold Hid; rw [← HY.out]; unfold xAu; rw [if_pos h4]
  clear h4
  go_wp2
  go_ret
  refine ⟨xAb eB.out.symm, ?_, Kept.of_below HVB.out⟩
  rw [eY.out]
  have := HR.out
  rwa [show r.wo (r.oc.set i (x.1, x.2)) = r from by
   show ({ r with oc := r.oc.set i x } : Rd) = r
   rw [show r.oc.set i x = r.oc from by
    refine List.ext_getElem? fun n => ?_
    by_cases e : i = n
    ·subst e; rw [List.getElem?_set_self him, HX.out]
    ·rw [List.getElem?_set_ne e]]]
 have H4 := qzL h4
 have hcase : kx.k.kind = 4 ∨ (kx.k.kind ≠ 4 ∧ x.1.brr = doer) := by
  by_cases e : kx.k.kind = 4
  ·exact .inl e
  ·refine .inr ⟨e, ?_⟩
   by_cases e2 : x.1.brr = doer
   ·exact e2
   ·exact absurd ⟨e, e2⟩ h4
 clear h4
 rcases hcase with hk4 | ⟨hk4, hbr⟩
 ·have t4 : (kx.k.kind != 4) = false := by simp [hk4]
  have t1 : (kx.k.kind == 1) = false := by simp [hk4]
  have t2 : (kx.k.kind == 2) = false := by simp [hk4]
  have eB : Hid (B = true) := by unfold Hid; rw [← HB.out]; unfold cntB; rw [if_neg H4.out, if_neg (by omega), if_neg (by omega)]
  have eY : Hid (Y = { x.1 with st := 3, to_ := r.steps }) := by unfold Hid; rw [← HY.out]; unfold xAu; rw [if_neg H4.out, if_neg (by omega), if_neg (by omega)]
  clear hk4
  have HEV := qzL (HE.out 3 V _ _ HR.out HX.out)
  go_wp2_with (go_at_call 115; (with_reducible refine HEV.out.mono ?_); rintro e w1 ⟨rfl, hr1, hk1⟩)
  go_ret
  refine ⟨xAb eB.out.symm, ?_, (Kept.of_below HVB.out).trans hk1⟩
  rw [eY.out]
  exact hr1
 have t4 : (kx.k.kind != 4) = true := by simpa using hk4
 have t5 : (x.1.brr != doer) = false := by simp [hbr]
 clear hbr
 by_cases h1 : kx.k.kind = 1
 ·have t1 : (kx.k.kind == 1) = true := by simp [h1]
  by_cases hn : x.1.got + 1 < kx.k.need
  ·have eB : Hid (B = false) := by unfold Hid; rw [← HB.out]; unfold cntB; rw [if_neg H4.out, if_pos h1, qzO hn]; rfl
   have eY : Hid (Y = { x.1 with got := x.1.got + 1 }) := by unfold Hid; rw [← HY.out]; unfold xAu; rw [if_neg H4.out, if_pos h1, if_pos hn]
   have tn := qzO hn
   clear hn h1 hk4
   go_upto_region 8 with (fail)
   refine xAf ?_
   intro U hU
   have HRU : Hid (Rdm w0 U b c m (r.wo (r.oc.set i ({ x.1 with got := x.1.got + 1 }, x.2))) wl q) := by rw [hU]; exact HR.out.setO (j := 3) (v := .int .i64 (x.1.got + 1)) HX.out (by omega) rfl
   have HKU : Hid (Kept w U (· = q.o)) := by rw [hU]; exact (Kept.of_below (p := (· = q.o)) HVB.out).setCell rfl
   have GU : Hid (Blk U bx 52 (kL kx).toArray) := by rw [hU]; exact GX.out.far nox.out _
   clear hU k14 k13 x0 x3 y3 f3 y4 z1
   have k14 : U.cell? ⟨b, 14, none⟩ = some (.slice (some ⟨q.o, 0, none⟩) r.oc.length q.oc) := by have := HRU.out.g.cell 14; simpa using this
   have x3 : U.cell? ⟨bx, 3, none⟩ = some (.int .i64 kx.k.need) := GU.out.cell 3
   have y3 : U.cell? ⟨q.o, i * 5 + 3, none⟩ = some (.int .i64 (x.1.got + 1)) := (HRU.out.out (x := ({ x.1 with got := x.1.got + 1 }, x.2)) (List.getElem?_set_self him)).2.2.2.1.1
   have rg0 := cR k14
   have rg1 := cR x3
   have rg2 := cR y3
   refine xAe [0, 1, 2, 3, 4, 5, 6, 7, 8, 9, 10] [] (by kernel_rfl) (by kernel_rfl) pO ?_
   simp only [xAm, qzA, qzB, qzC, qzD, qzE, qzF]
   repeat (go_big_quiet_step (skip))
   refine wpQuiet_nil ?_
   intro Z hw2
   have hbZ := xAh hw2
   clear hw2 rg0 rg1 rg2
   have HRZ : Hid (Rdm w0 Z b c m (r.wo (r.oc.set i ({ x.1 with got := x.1.got + 1 }, x.2))) wl q) := HRU.out.then_ hbZ
   have HKZ : Hid (Kept w Z (· = q.o)) := HKU.out.trans (Kept.of_below hbZ)
   clear k14 x3 y3 hbZ
   refine xAt ?_
   go_wp2
   go_ret
   refine ⟨xAb eB.out.symm, ?_, (HKZ.out)⟩
   rw [eY.out]
   exact HRZ.out
  ·have eB : Hid (B = true) := by unfold Hid; rw [← HB.out]; unfold cntB; rw [if_neg H4.out, if_pos h1, qzN hn]; rfl
   have eY : Hid (Y = { x.1 with got := x.1.got + 1, st := 3, to_ := r.steps }) := by unfold Hid; rw [← HY.out]; unfold xAu; rw [if_neg H4.out, if_pos h1, if_neg hn]
   have tn := qzN hn
   clear hn h1 hk4
   go_upto_region 8 with (fail)
   refine xAf ?_
   intro U hU
   have HRU : Hid (Rdm w0 U b c m (r.wo (r.oc.set i ({ x.1 with got := x.1.got + 1 }, x.2))) wl q) := by rw [hU]; exact HR.out.setO (j := 3) (v := .int .i64 (x.1.got + 1)) HX.out (by omega) rfl
   have HKU : Hid (Kept w U (· = q.o)) := by rw [hU]; exact (Kept.of_below (p := (· = q.o)) HVB.out).setCell rfl
   have GU : Hid (Blk U bx 52 (kL kx).toArray) := by rw [hU]; exact GX.out.far nox.out _
   clear hU k14 k13 x0 x3 y3 f3 y4 z1
   have k14 : U.cell? ⟨b, 14, none⟩ = some (.slice (some ⟨q.o, 0, none⟩) r.oc.length q.oc) := by have := HRU.out.g.cell 14; simpa using this
   have x3 : U.cell? ⟨bx, 3, none⟩ = some (.int .i64 kx.k.need) := GU.out.cell 3
   have y3 : U.cell? ⟨q.o, i * 5 + 3, none⟩ = some (.int .i64 (x.1.got + 1)) := (HRU.out.out (x := ({ x.1 with got := x.1.got + 1 }, x.2)) (List.getElem?_set_self him)).2.2.2.1.1
   have rg0 := cR k14
   have rg1 := cR x3
   have rg2 := cR y3
   refine xAe [0, 1, 2, 3, 4, 5, 6, 7, 8, 9, 10] [] (by kernel_rfl) (by kernel_rfl) pO ?_
   simp only [xAm, qzA, qzB, qzC, qzD, qzE, qzF]
   repeat (go_big_quiet_step (skip))
   refine wpQuiet_nil ?_
   intro Z hw2
   have hbZ := xAh hw2
   clear hw2 rg0 rg1 rg2
   have HRZ : Hid (Rdm w0 Z b c m (r.wo (r.oc.set i ({ x.1 with got := x.1.got + 1 }, x.2))) wl q) := HRU.out.then_ hbZ
   have HKZ : Hid (Kept w Z (· = q.o)) := HKU.out.trans (Kept.of_below hbZ)
   clear k14 x3 y3 hbZ
   refine xAt ?_
   have hxz : (r.wo (r.oc.set i ({ x.1 with got := x.1.got + 1 }, x.2))).oc[i]? = some ({ x.1 with got := x.1.got + 1 }, x.2) := List.getElem?_set_self him
   have HEZ := qzL (HE.out 3 Z _ _ HRZ.out hxz)
   clear hxz
   go_wp2_with (go_at_call 115; (with_reducible refine HEZ.out.mono ?_); rintro e w1 ⟨rfl, hr1, hk1⟩)
   go_ret
   refine ⟨xAb eB.out.symm, ?_, HKZ.out.trans hk1⟩
   rw [eY.out]
   have h9 := hr1
   have e9 : ∀ (a d : Out × Cnt), (r.oc.set i a).set i d = r.oc.set i d := fun a d => List.set_set _
   unfold Rd.wo at h9 ⊢
   simp only [e9] at h9
   exact h9
 have t1 : (kx.k.kind == 1) = false := by simp [h1]
 by_cases h2 : kx.k.kind = 2
 ·have t2 : (kx.k.kind == 2) = true := by simp [h2]
  obtain ⟨P, hP⟩ : ∃ P, x.2.pau = P := ⟨_, rfl⟩
  rw [hP] at z1
  have HP := qzL hP
  clear hP
  cases P with
  | true =>
   have eB : Hid (B = false) := by unfold Hid; rw [← HB.out]; unfold cntB; rw [if_neg H4.out, if_neg h1, if_pos h2, HP.out]; rfl
   have eY : Hid (Y = x.1) := by unfold Hid; rw [← HY.out]; unfold xAu; rw [if_neg H4.out, if_neg h1, if_pos h2, if_pos HP.out]
   clear h1 h2 hk4
   go_wp2
   go_ret
   refine ⟨xAb eB.out.symm, ?_, Kept.of_below HVB.out⟩
   rw [eY.out]
   have := HR.out
   rwa [show r.wo (r.oc.set i (x.1, x.2)) = r from by
    show ({ r with oc := r.oc.set i x } : Rd) = r
    rw [show r.oc.set i x = r.oc from by
     refine List.ext_getElem? fun n => ?_
     by_cases e : i = n
     ·subst e; rw [List.getElem?_set_self him, HX.out]
     ·rw [List.getElem?_set_ne e]]]
  | false =>
   have eB : Hid (B = true) := by unfold Hid; rw [← HB.out]; unfold cntB; rw [if_neg H4.out, if_neg h1, if_pos h2, HP.out]; rfl
   have eY : Hid (Y = { x.1 with st := 4, to_ := r.steps }) := by unfold Hid; rw [← HY.out]; unfold xAu; rw [if_neg H4.out, if_neg h1, if_pos h2, if_neg (by rw [HP.out]; decide)]
   clear h1 h2 hk4
   have HEV := qzL (HE.out 4 V _ _ HR.out HX.out)
   go_wp2_with (go_at_call 115; (with_reducible refine HEV.out.mono ?_); rintro e w1 ⟨rfl, hr1, hk1⟩)
   go_ret
   refine ⟨xAb eB.out.symm, ?_, (Kept.of_below HVB.out).trans hk1⟩
   rw [eY.out]
   exact hr1
 have t2 : (kx.k.kind == 2) = false := by simp [h2]
 have eB : Hid (B = true) := by unfold Hid; rw [← HB.out]; unfold cntB; rw [if_neg H4.out, if_neg h1, if_neg h2]
 have eY : Hid (Y = { x.1 with st := 3, to_ := r.steps }) := by unfold Hid; rw [← HY.out]; unfold xAu; rw [if_neg H4.out, if_neg h1, if_neg h2]
 clear h1 h2 hk4
 have HEV := qzL (HE.out 3 V _ _ HR.out HX.out)
 go_wp2_with (go_at_call 115; (with_reducible refine HEV.out.mono ?_); rintro e w1 ⟨rfl, hr1, hk1⟩)
 go_ret
 refine ⟨xAb eB.out.symm, ?_, (Kept.of_below HVB.out).trans hk1⟩
 rw [eY.out]
 exact hr1
end Go.Proofs.YtginnonjdbpamaaGreatDoor
