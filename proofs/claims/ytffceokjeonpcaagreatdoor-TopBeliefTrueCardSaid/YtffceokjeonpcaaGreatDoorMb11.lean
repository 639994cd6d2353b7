/- Contracts of functions and plain laws, joined: Ub, Tm1, VbC, Pt0, Fa3, VbA, VbB, Tk1, Tk2, Tk3, Tk4, Tq0. -/
import Derived.Test.YtffceokjeonpcaaGreatDoorMb10
import Derived.Maps.OwnSet
import Derived.Maps.OwnOps
import Derived.Sort.KeysCollected
import Derived.StringKeys
import Derived.Lib.AtoiAll
import Derived.Lib.AtoiAllCases
import Derived.Lib.ItoaNum
import Derived.Lib.ItoaLen
import Derived.Test.YtffceokjeonpcaaGreatDoorMb1
import Derived.Lib.IndexMore
import Derived.Test.YtffceokjeonpcaaGreatDoorMb5
namespace Go.Proofs.YtffceokjeonpcaaGreatDoor
open Go.RowKit Go.Sort Go.Maps
theorem keyI : Keyed Tryz.prog 3 := int_keyed Tryz.underlying3
theorem keyOf_I {r : Int} (hr : I64 r) : keyOf Tryz.prog 3 (.int .i64 r) = some (.int .i64 r) := keyOf_int_mk Tryz.underlying3 (by simp [Lit.wf, IntKind.min, IntKind.max, IntKind.signed, IntKind.bits]; omega)
def R0 (v : Value) : Option (DataW Value × List MemPlace) := some (.held v, [])
def MapF (w : World) (b n : Nat) (f : Int → Value) : Prop := ∃ D : DataW Value, w.ownsMap Tryz.prog 3 R0 b n D ∧ ∀ k : Int, D.atKey (.int .i64 k) (.held (.slice none 0 0)) = .held (f k)
theorem MapF.made (w : World) : MapF (w.alloc (.map #[] 0)) w.heap.size 0 (fun _ => .slice none 0 0) := ⟨_, World.ownsMap_made w _ _ _, fun _ => rfl⟩
section
variable {w w' : World} {b n : Nat} {f : Int → Value}
theorem MapF.lt (h : MapF w b n f) : b < w.heap.size := by obtain ⟨D, h1, _⟩ := h; exact h1.lt
theorem MapF.keep (h : MapF w b n f) (hk : w'.heap[b]? = w.heap[b]?) : MapF w' b n f := by
 obtain ⟨D, ⟨es, clock, hb, F, hs, hD⟩, h2⟩ := h
 exact ⟨D, ⟨es, clock, hk.trans hb, F, hs, hD⟩, h2⟩
theorem MapF.more (h : MapF w b n f) {n' : Nat} (hn : n ≤ n') : MapF w b n' f := by obtain ⟨D, h1, h2⟩ := h; exact ⟨D, h1.mono hn, h2⟩
theorem MapF.look (h : MapF w b n f) {k : Int} (hk : I64 k) : (Instr.lookup 83 (.map (some b)) (.int .i64 k) false).run Tryz.prog w = .ok (f k) w := by
 obtain ⟨D, h1, h2⟩ := h
 obtain ⟨v, ps, hrun, hv⟩ := h1.lookup keyI Tryz.underlying83 (z := .slice none 0 0) (by kernel_rfl) (zd := .held (.slice none 0 0)) (zp := []) rfl (keyOf_I hk)
 rw [h2 k] at hv
 unfold R0 at hv
 simp only [Option.some.injEq, Prod.mk.injEq, DataW.held.injEq] at hv
 rw [hrun, hv.1]
theorem MapF.put (h : MapF w b n f) {k : Int} (hk : I64 k) (hn : n < maxLen) (v : Value) : ∃ w', (Instr.mapUpdate 83 (.map (some b)) (.int .i64 k) v).run Tryz.prog w = .ok () w' ∧ MapF w' b (n + 1) (fun x => if x = k then v else f x) ∧ Upd w w' b := by
 obtain ⟨D, h1, h2⟩ := h
 obtain ⟨w', hrun, hm, ht⟩ := h1.store keyI Tryz.underlying83 hn (d := .held v) (ps := []) (keyOf_I hk) rfl
 have hD := h1.isMap
 have hg := ht.grown
 obtain ⟨es, clock, es', clock', hb, he⟩ := ht
 have hs : w'.heap.size = w.heap.size := by rw [he]; simp [Go.ChangeMaps.setBlock]
 refine ⟨w', hrun, ⟨_, hm, fun x => ?_⟩, ⟨fun B hB => ⟨hg.os, hg.tape, hg.output, hg.size, fun i hi => ?_⟩, fun x hx => ?_, hs⟩⟩
 ·have hkey : WideAt.IsKeyLit (.int .i64 k) := by trivial
  by_cases e : x = k
  ·subst e
   rw [atKey_put_same hD hkey]
   show _ = DataW.held (if x = x then v else f x)
   rw [if_pos rfl]
  ·rw [atKey_put_other (by simpa using e), h2 x]
   exact congrArg DataW.held (if_neg e).symm
 ·rcases Nat.lt_or_ge i w.heap.size with hl | hl
  ·exact hg.block i hl (fun e => by injection e with e; omega)
  ·rw [Array.getElem?_eq_none (by omega), Array.getElem?_eq_none hl]
 ·rcases Nat.lt_or_ge x w.heap.size with hl | hl
  ·exact hg.block x hl (fun e => by injection e with e; exact hx e)
  ·rw [Array.getElem?_eq_none (by omega), Array.getElem?_eq_none hl]
end
theorem xDx {w : World} {ops : Array Oper} {rest : List Oper} {o : Oper} {a : Act} {Q : Exit → Act → World → Prop} (hg : o.guard = none) (m x v : Operand) (hop : o.op = Op.mapUpdate 83 m x v) (b n : Nat) (f : Int → Value) (k : Int) (V : Value)
  (hm : a.eval m = .map (some b)) (hx : a.eval x = .int .i64 k) (hv : a.eval v = V) (hM : MapF w b n f) (hk : I64 k) (hn : n < maxLen)
  (hK : ∀ w', MapF w' b (n + 1) (fun y => if y = k then V else f y) → Upd w w' b → wpList Tryz.prog ops Q rest (a.put o.dst undef) w') : wpList Tryz.prog ops Q (o :: rest) a w := by
 refine wpList_plain hg fun K' hK' => ?_
 obtain ⟨w', hrun, r1, r2⟩ := hM.put hk hn V
 unfold Oper.wp
 simp [execOp, hop, hm, hx, hv, hrun, Result.andThen]
 exact hK' _ _ (hK w' r1 r2)
def eO (o : Out) : List Value := [.int .i64 o.st, .int .i64 o.from_, .int .i64 o.to_, .int .i64 o.got, .int .i64 o.brr]
def eC (n : Cnt) : List Value := [.int .i64 n.days, .bool n.pau]
theorem xDw (x : Out) : (eO x).length = 5 := rfl
theorem eC_len (x : Cnt) : (eC x).length = 2 := rfl
structure Rq where
 bc : Nat
 h : Nat
 hc : Nat
 a : Nat
 ac : Nat
 k : Nat
 kc : Nat
 o : Nat
 oc : Nat
 mp : Nat
 f : Int → Value
 n : Nat
abbrev Rq.freeV (q : Rq) : Value := .func (.func 81) #[] #[.pointer (some ⟨q.bc, 0, none⟩)]
abbrev rdA (c : Con) (m : Cm) (r : Rd) (q : Rq) : Array Value := #[.int .i64 c.par, .slice m.h c.hold.length m.hc, .slice m.u c.un.length m.uc, .slice m.a c.ac.length m.ac, .slice m.k c.cl.length m.kc, .int .i64 c.days, .slice m.o c.off.length m.oc,
 .int .i64 r.steps, .int .i64 r.day, .slice (some ⟨q.h, 0, none⟩) r.hol.length q.hc, .slice (some ⟨q.a, 0, none⟩) r.hap.length q.ac, q.freeV, .map (some q.mp), .slice (some ⟨q.k, 0, none⟩) r.oc.length q.kc, .slice (some ⟨q.o, 0, none⟩) r.oc.length q.oc]
def Rq.row (q : Rq) (x : Nat) : Prop := ∃ k, (q.f k).ownBlock = some x
structure Rdm (w0 w : World) (b : Nat) (c : Con) (m : Cm) (r : Rd) (wl : Int → List Int) (q : Rq) : Prop where
 g : Blk w b 86 (rdA c m r q)
 gc : Blk w q.bc 27 (coA c m)
 oh : Own w w0.heap.size 3 1 eI (.slice (some ⟨q.h, 0, none⟩) r.hol.length q.hc) r.hol
 oa : Own w w0.heap.size 4 1 eB (.slice (some ⟨q.a, 0, none⟩) r.hap.length q.ac) r.hap
 ok : Own w w0.heap.size 161 2 eC (.slice (some ⟨q.k, 0, none⟩) r.oc.length q.kc) (r.oc.map (·.2))
 oo : Own w w0.heap.size 57 5 eO (.slice (some ⟨q.o, 0, none⟩) r.oc.length q.oc) (r.oc.map (·.1))
 mp : MapF w q.mp q.n q.f
 ol : ∀ k, Own w w0.heap.size 3 1 eI (q.f k) (wl k)
 ap : ∀ k k' x, k ≠ k' → (q.f k).ownBlock = some x → (q.f k').ownBlock ≠ some x
 ah : ¬ q.row q.h
 hb : Below w0.heap.size w0 w
 lb : w0.heap.size ≤ b ∧ w0.heap.size ≤ q.bc ∧ w0.heap.size ≤ q.mp
 bb : b ≠ q.bc
 cn : Cont w0 c m
 lo : r.oc.length = c.cl.length
 lh : r.hol.length = c.hold.length
 la : r.hap.length = c.ac.length
theorem Own.ne_row {α β : Type} {w : World} {B B' : Nat} {T T' : TypeId} {size size' : Nat} {enc : α → List Value} {enc' : β → List Value} {g n cap x : Nat} {v : Value} {xs : List α} {ys : List β} (h : Own w B T size enc (.slice (some ⟨g, 0, none⟩) n cap) xs) (h' : Own w B' T' size' enc' v ys) (ht : T ≠ T') (hv : v.ownBlock = some x) : g ≠ x := by
 obtain ⟨cs, hb⟩ := h.blkT
 rcases h'.2 with ⟨e, _⟩ | ⟨g', cap', cur, e, _, hh, _⟩
 ·rw [e] at hv; cases hv
 ·rw [e] at hv
  obtain rfl : g' = x := Option.some.inj hv
  exact xBc hb (show Blk w g' T' cur from hh) ht
theorem Own.blk_ne_row {β : Type} {w : World} {B' : Nat} {T T' : TypeId} {size' : Nat} {enc' : β → List Value} {g x : Nat} {cs : Array Value} {v : Value} {ys : List β} (h : Blk w g T cs) (h' : Own w B' T' size' enc' v ys) (ht : T ≠ T') (hv : v.ownBlock = some x) : g ≠ x := by
 rcases h'.2 with ⟨e, _⟩ | ⟨g', cap', cur, e, _, hh, _⟩
 ·rw [e] at hv; cases hv
 ·rw [e] at hv
  obtain rfl : g' = x := Option.some.inj hv
  exact xBc h (show Blk w g' T' cur from hh) ht
theorem MapF.ne_blk {w : World} {b n g : Nat} {f : Int → Value} {T : TypeId} {cs : Array Value} (h : MapF w b n f) (hb : Blk w g T cs) : b ≠ g := by
 rintro rfl
 obtain ⟨D, ⟨es, clock, h1, _⟩, _⟩ := h
 have h2 := h1.symm.trans hb
 cases h2
theorem MapF.ne_own {α : Type} {w : World} {b n B : Nat} {f : Int → Value} {T : TypeId} {size x : Nat} {enc : α → List Value} {v : Value} {xs : List α} (h : MapF w b n f) (hO : Own w B T size enc v xs) (hv : v.ownBlock = some x) : b ≠ x := by
 rcases hO.2 with ⟨e, _⟩ | ⟨g', cap', cur, e, _, hh, _⟩
 ·rw [e] at hv; cases hv
 ·rw [e] at hv
  obtain rfl : g' = x := Option.some.inj hv
  exact h.ne_blk (show Blk w g' T cur from hh)
section
variable {w0 w w' : World} {b : Nat} {c : Con} {m : Cm} {r : Rd} {wl : Int → List Int} {q : Rq}
structure QB (q : Rq) (b N : Nat) : Prop where
 b : b < N
 bc : q.bc < N
 h : q.h < N
 a : q.a < N
 k : q.k < N
 o : q.o < N
 mp : q.mp < N
 r : ∀ x, q.row x → x < N
theorem QB.more {N N' : Nat} (h : QB q b N) (hN : N ≤ N') : QB q b N' := ⟨by have := h.b; omega, by have := h.bc; omega, by have := h.h; omega, by have := h.a; omega, by have := h.k; omega, by have := h.o; omega, by have := h.mp; omega, fun x hx => by have := h.r x hx; omega⟩
theorem Rdm.qb (h : Rdm w0 w b c m r wl q) : QB q b w.heap.size :=
 ⟨h.g.lt, h.gc.lt, h.oh.lt_.2, h.oa.lt_.2, h.ok.lt_.2, h.oo.lt_.2, h.mp.lt, fun x ⟨k, hk⟩ => (World.ownsRow.lt (h.ol k) x hk).2⟩
theorem Rdm.keepP {p : Nat → Prop} (h : Rdm w0 w b c m r wl q) (hk : Kept w w' p) (hb : ¬ p b) (hbc : ¬ p q.bc) (hh : ¬ p q.h) (ha : ¬ p q.a) (hkk : ¬ p q.k) (ho : ¬ p q.o) (hm : ¬ p q.mp) (hr : ∀ x, q.row x → ¬ p x) (h0 : ∀ x, p x → w0.heap.size ≤ x) : Rdm w0 w' b c m r wl q :=
 ⟨h.g.kept hk hb, h.gc.kept hk hbc, h.oh.kept_ hk hh, h.oa.kept_ hk ha, h.ok.kept_ hk hkk, h.oo.kept_ hk ho, h.mp.keep (hk.k _ h.mp.lt hm), fun k => by
  refine ⟨(h.ol k).1, ?_⟩
  rcases (h.ol k).2 with h2 | ⟨g', cap', cur, hv, hg', hh, r⟩
  ·exact .inl h2
  ·exact .inr ⟨g', cap', cur, hv, hg', by rw [hk.k g' (Array.getElem?_eq_some_iff.1 hh).1 (hr g' ⟨k, by rw [hv]; rfl⟩)]; exact hh, r⟩, h.ap, h.ah, h.hb.trans (hk.b _ h0 h.hb.size), h.lb, h.bb, h.cn, h.lo, h.lh, h.la⟩
theorem Rdm.then_ (h : Rdm w0 w b c m r wl q) (hb : Below w.heap.size w w') : Rdm w0 w' b c m r wl q :=
 h.keepP (p := fun _ => False) (Kept.of_below hb) id id id id id id id (fun _ _ => id) (fun _ h => h.elim)
theorem Rdm.below {N : Nat} (h : Rdm w0 w b c m r wl q) (hq : QB q b N) (hb : Below N w w') (h0 : w0.heap.size ≤ N) : Rdm w0 w' b c m r wl q := by
 have hk : Kept w w' (fun x => N ≤ x) := ⟨fun B hB hs => by
  have := hB N (Nat.le_refl _)
  exact hb.mono this, fun x hx hp => hb.block x (by omega)⟩
 exact h.keepP hk (by have := hq.b; omega) (by have := hq.bc; omega) (by have := hq.h; omega) (by have := hq.a; omega) (by have := hq.k; omega) (by have := hq.o; omega) (by have := hq.mp; omega) (fun x hx => by have := hq.r x hx; omega) (fun x hx => by omega)
theorem Rdm.bo (h : Rdm w0 w b c m r wl q) : b ≠ q.o := by obtain ⟨_, hb⟩ := h.oo.blkT; exact xBc h.g hb (by decide)
theorem Rdm.bk (h : Rdm w0 w b c m r wl q) : b ≠ q.k := by obtain ⟨_, hb⟩ := h.ok.blkT; exact xBc h.g hb (by decide)
theorem Rdm.bh (h : Rdm w0 w b c m r wl q) : b ≠ q.h := by obtain ⟨_, hb⟩ := h.oh.blkT; exact xBc h.g hb (by decide)
theorem Rdm.ba (h : Rdm w0 w b c m r wl q) : b ≠ q.a := by obtain ⟨_, hb⟩ := h.oa.blkT; exact xBc h.g hb (by decide)
theorem Rdm.bm (h : Rdm w0 w b c m r wl q) : b ≠ q.mp := (h.mp.ne_blk h.g).symm
theorem Rdm.ko (h : Rdm w0 w b c m r wl q) : q.k ≠ q.o := by obtain ⟨_, ha⟩ := h.ok.blkT; obtain ⟨_, hb⟩ := h.oo.blkT; exact xBc ha hb (by decide)
theorem Rdm.ho (h : Rdm w0 w b c m r wl q) : q.h ≠ q.o := by obtain ⟨_, ha⟩ := h.oh.blkT; obtain ⟨_, hb⟩ := h.oo.blkT; exact xBc ha hb (by decide)
theorem Rdm.hk (h : Rdm w0 w b c m r wl q) : q.h ≠ q.k := by obtain ⟨_, ha⟩ := h.oh.blkT; obtain ⟨_, hb⟩ := h.ok.blkT; exact xBc ha hb (by decide)
theorem Rdm.ha (h : Rdm w0 w b c m r wl q) : q.h ≠ q.a := by obtain ⟨_, ha⟩ := h.oh.blkT; obtain ⟨_, hb⟩ := h.oa.blkT; exact xBc ha hb (by decide)
theorem Rdm.ao (h : Rdm w0 w b c m r wl q) : q.a ≠ q.o := by obtain ⟨_, ha⟩ := h.oa.blkT; obtain ⟨_, hb⟩ := h.oo.blkT; exact xBc ha hb (by decide)
theorem Rdm.ak (h : Rdm w0 w b c m r wl q) : q.a ≠ q.k := by obtain ⟨_, ha⟩ := h.oa.blkT; obtain ⟨_, hb⟩ := h.ok.blkT; exact xBc ha hb (by decide)
theorem Rdm.co (h : Rdm w0 w b c m r wl q) : q.bc ≠ q.o := by obtain ⟨_, hb⟩ := h.oo.blkT; exact xBc h.gc hb (by decide)
theorem Rdm.ck (h : Rdm w0 w b c m r wl q) : q.bc ≠ q.k := by obtain ⟨_, hb⟩ := h.ok.blkT; exact xBc h.gc hb (by decide)
theorem Rdm.ch (h : Rdm w0 w b c m r wl q) : q.bc ≠ q.h := by obtain ⟨_, hb⟩ := h.oh.blkT; exact xBc h.gc hb (by decide)
theorem Rdm.ca (h : Rdm w0 w b c m r wl q) : q.bc ≠ q.a := by obtain ⟨_, hb⟩ := h.oa.blkT; exact xBc h.gc hb (by decide)
theorem Rdm.mo (h : Rdm w0 w b c m r wl q) : q.mp ≠ q.o := h.mp.ne_own h.oo rfl
theorem Rdm.mk_ (h : Rdm w0 w b c m r wl q) : q.mp ≠ q.k := h.mp.ne_own h.ok rfl
theorem Rdm.mh (h : Rdm w0 w b c m r wl q) : q.mp ≠ q.h := h.mp.ne_own h.oh rfl
theorem Rdm.ma (h : Rdm w0 w b c m r wl q) : q.mp ≠ q.a := h.mp.ne_own h.oa rfl
theorem Rdm.mc (h : Rdm w0 w b c m r wl q) : q.mp ≠ q.bc := h.mp.ne_blk h.gc
theorem Rdm.rowO (h : Rdm w0 w b c m r wl q) {x : Nat} (hx : q.row x) : x ≠ q.o := by obtain ⟨k, hk⟩ := hx; exact (h.oo.ne_row (h.ol k) (by decide) hk).symm
theorem Rdm.rowK (h : Rdm w0 w b c m r wl q) {x : Nat} (hx : q.row x) : x ≠ q.k := by obtain ⟨k, hk⟩ := hx; exact (h.ok.ne_row (h.ol k) (by decide) hk).symm
theorem Rdm.rowA (h : Rdm w0 w b c m r wl q) {x : Nat} (hx : q.row x) : x ≠ q.a := by obtain ⟨k, hk⟩ := hx; exact (h.oa.ne_row (h.ol k) (by decide) hk).symm
theorem Rdm.rowH (h : Rdm w0 w b c m r wl q) {x : Nat} (hx : q.row x) : x ≠ q.h := fun e => h.ah (e ▸ hx)
theorem Rdm.rowB (h : Rdm w0 w b c m r wl q) {x : Nat} (hx : q.row x) : x ≠ b := by obtain ⟨k, hk⟩ := hx; exact (Own.blk_ne_row h.g (h.ol k) (by decide) hk).symm
theorem Rdm.rowC (h : Rdm w0 w b c m r wl q) {x : Nat} (hx : q.row x) : x ≠ q.bc := by obtain ⟨k, hk⟩ := hx; exact (Own.blk_ne_row h.gc (h.ol k) (by decide) hk).symm
theorem Rdm.rowM (h : Rdm w0 w b c m r wl q) {x : Nat} (hx : q.row x) : x ≠ q.mp := by obtain ⟨k, hk⟩ := hx; exact (h.mp.ne_own (h.ol k) hk).symm
abbrev Rd.wo (r : Rd) (oc : List (Out × Cnt)) : Rd := { r with oc := oc }
theorem Rdm.updO {g : Nat} (h : Rdm w0 w b c m r wl q) (u : Upd w w' g) (hg : g = q.o ∨ g = q.k) {oc' : List (Out × Cnt)} (hl : oc'.length = r.oc.length)
  (hO : Own w' w0.heap.size 57 5 eO (.slice (some ⟨q.o, 0, none⟩) r.oc.length q.oc) (oc'.map (·.1))) (hK : Own w' w0.heap.size 161 2 eC (.slice (some ⟨q.k, 0, none⟩) r.oc.length q.kc) (oc'.map (·.2))) : Rdm w0 w' b c m (r.wo oc') wl q := by
 have e : (r.wo oc').oc.length = r.oc.length := hl
 have n1 : b ≠ g := by rcases hg with rfl | rfl; exact h.bo; exact h.bk
 have n2 : q.bc ≠ g := by rcases hg with rfl | rfl; exact h.co; exact h.ck
 have n3 : q.h ≠ g := by rcases hg with rfl | rfl; exact h.ho; exact h.hk
 have n4 : q.a ≠ g := by rcases hg with rfl | rfl; exact h.ao; exact h.ak
 have n5 : q.mp ≠ g := by rcases hg with rfl | rfl; exact h.mo; exact h.mk_
 have n6 : w0.heap.size ≤ g := by rcases hg with rfl | rfl; exact h.oo.lt_.1; exact h.ok.lt_.1
 refine ⟨?_, h.gc.upd u n2, h.oh.upd u (by intro k hk; cases hk; exact n3), h.oa.upd u (by intro k hk; cases hk; exact n4), by rw [e]; exact hK, by rw [e]; exact hO, h.mp.keep (u.f _ n5), fun k => (h.ol k).upd u fun x hx => ?_, h.ap, h.ah, h.hb.trans (u.b _ n6), h.lb, h.bb, h.cn, e.trans h.lo, h.lh, h.la⟩
 ·have h2 := h.g.upd u n1
  unfold rdA at h2 ⊢
  rw [e]
  exact h2
 ·rcases hg with rfl | rfl
  ·exact h.rowO ⟨k, hx⟩
  ·exact h.rowK ⟨k, hx⟩
theorem Rdm.setO (h : Rdm w0 w b c m r wl q) {i j : Nat} {x : Out × Cnt} {y : Out} {v : Value} (hx : r.oc[i]? = some x) (hj : j < 5) (hy : eO y = (eO x.1).set j v) : Rdm w0 (w.setCell ⟨q.o, i * 5 + j, none⟩ v) b c m (r.wo (r.oc.set i (y, x.2))) wl q := by
 have hi := (qzM hx).1
 have hx1 : (r.oc.map (·.1))[i]? = some x.1 := by rw [List.getElem?_map, hx]; rfl
 have hx2 : (r.oc.map (·.2))[i]? = some x.2 := by rw [List.getElem?_map, hx]; rfl
 have u := (Upd.refl w q.o).setCell (i * 5 + j) v
 refine h.updO u (.inl rfl) List.length_set ?_ ?_
 ·have h2 := h.oo.setAt xDw (List.length_map _) hx1 hj hy
  rw [List.map_set]
  exact h2
 ·rw [List.map_set, show (r.oc.map (·.2)).set i x.2 = r.oc.map (·.2) from by
   refine List.ext_getElem? fun n => ?_
   by_cases e : i = n
   ·subst e; rw [List.getElem?_set_self (by rw [List.length_map]; exact hi), hx2]
   ·rw [List.getElem?_set_ne e]]
  exact h.ok.upd u (by intro k hk; cases hk; exact h.ko)
theorem Rdm.setK (h : Rdm w0 w b c m r wl q) {i j : Nat} {x : Out × Cnt} {y : Cnt} {v : Value} (hx : r.oc[i]? = some x) (hj : j < 2) (hy : eC y = (eC x.2).set j v) : Rdm w0 (w.setCell ⟨q.k, i * 2 + j, none⟩ v) b c m (r.wo (r.oc.set i (x.1, y))) wl q := by
 have hi := (qzM hx).1
 have hx1 : (r.oc.map (·.1))[i]? = some x.1 := by rw [List.getElem?_map, hx]; rfl
 have hx2 : (r.oc.map (·.2))[i]? = some x.2 := by rw [List.getElem?_map, hx]; rfl
 have u := (Upd.refl w q.k).setCell (i * 2 + j) v
 refine h.updO u (.inr rfl) List.length_set ?_ ?_
 ·rw [List.map_set, show (r.oc.map (·.1)).set i x.1 = r.oc.map (·.1) from by
   refine List.ext_getElem? fun n => ?_
   by_cases e : i = n
   ·subst e; rw [List.getElem?_set_self (by rw [List.length_map]; exact hi), hx1]
   ·rw [List.getElem?_set_ne e]]
  exact h.oo.upd u (by intro k hk; cases hk; exact h.ko.symm)
 ·have h2 := h.ok.setAt eC_len (List.length_map _) hx2 hj hy
  rw [List.map_set]
  exact h2
theorem Rdm.out (h : Rdm w0 w b c m r wl q) {i : Nat} {x : Out × Cnt} (hx : r.oc[i]? = some x) :
  (w.cell? ⟨q.o, i * 5, none⟩ = some (.int .i64 x.1.st) ∧ w.frozen? ⟨q.o, i * 5, none⟩ = false) ∧ (w.cell? ⟨q.o, i * 5 + 1, none⟩ = some (.int .i64 x.1.from_) ∧ w.frozen? ⟨q.o, i * 5 + 1, none⟩ = false) ∧ (w.cell? ⟨q.o, i * 5 + 2, none⟩ = some (.int .i64 x.1.to_) ∧ w.frozen? ⟨q.o, i * 5 + 2, none⟩ = false) ∧
   (w.cell? ⟨q.o, i * 5 + 3, none⟩ = some (.int .i64 x.1.got) ∧ w.frozen? ⟨q.o, i * 5 + 3, none⟩ = false) ∧ (w.cell? ⟨q.o, i * 5 + 4, none⟩ = some (.int .i64 x.1.brr) ∧ w.frozen? ⟨q.o, i * 5 + 4, none⟩ = false) := by
 have hx1 : (r.oc.map (·.1))[i]? = some x.1 := by rw [List.getElem?_map, hx]; rfl
 exact ⟨h.oo.getAt xDw (List.length_map _) hx1 (j := 0) (by omega), h.oo.getAt xDw (List.length_map _) hx1 (j := 1) (by omega), h.oo.getAt xDw (List.length_map _) hx1 (j := 2) (by omega), h.oo.getAt xDw (List.length_map _) hx1 (j := 3) (by omega), h.oo.getAt xDw (List.length_map _) hx1 (j := 4) (by omega)⟩
theorem Rdm.cnt (h : Rdm w0 w b c m r wl q) {i : Nat} {x : Out × Cnt} (hx : r.oc[i]? = some x) :
  (w.cell? ⟨q.k, i * 2, none⟩ = some (.int .i64 x.2.days) ∧ w.frozen? ⟨q.k, i * 2, none⟩ = false) ∧ (w.cell? ⟨q.k, i * 2 + 1, none⟩ = some (.bool x.2.pau) ∧ w.frozen? ⟨q.k, i * 2 + 1, none⟩ = false) := by
 have hx2 : (r.oc.map (·.2))[i]? = some x.2 := by rw [List.getElem?_map, hx]; rfl
 exact ⟨h.ok.getAt eC_len (List.length_map _) hx2 (j := 0) (by omega), h.ok.getAt eC_len (List.length_map _) hx2 (j := 1) (by omega)⟩
theorem Rdm.no (h : Rdm w0 w b c m r wl q) : r.oc.length ≤ 1000000 := by rw [h.lo]; exact h.cn.nk
end
open Go.WideMaps
def MapS (P : Program) (k : TypeId) (w : World) (b n : Nat) (g : List UInt8 → Option Value) : Prop :=
 ∃ D : DataW Value, w.ownsMap P k R0 b n D ∧ ∀ s, has D (.string s) = (g s).isSome ∧ ∀ v, g s = some v → ∀ z, D.atKey (.string s) z = .held v
section
variable {P : Program} {t k e : TypeId} {w w' : World} {b n : Nat} {g : List UInt8 → Option Value}
theorem MapS.made (P : Program) (k : TypeId) (w : World) : MapS P k (w.alloc (.map #[] 0)) w.heap.size 0 (fun _ => none) := ⟨_, World.ownsMap_made w _ _ _, fun _ => ⟨rfl, fun _ h => by cases h⟩⟩
theorem MapS.lt (h : MapS P k w b n g) : b < w.heap.size := by obtain ⟨D, h1, _⟩ := h; exact h1.lt
theorem MapS.keep (h : MapS P k w b n g) (hk : w'.heap[b]? = w.heap[b]?) : MapS P k w' b n g := by
 obtain ⟨D, ⟨es, clock, hb, F, hs, hD⟩, h2⟩ := h
 exact ⟨D, ⟨es, clock, hk.trans hb, F, hs, hD⟩, h2⟩
theorem MapS.then_ (h : MapS P k w b n g) (hb : Below w.heap.size w w') : MapS P k w' b n g := h.keep (hb.block b h.lt)
theorem MapS.more (h : MapS P k w b n g) {n' : Nat} (hn : n ≤ n') : MapS P k w b n' g := by obtain ⟨D, h1, h2⟩ := h; exact ⟨D, h1.mono hn, h2⟩
theorem MapS.look (h : MapS P k w b n g) (hk : P.underlying k = some .string) (ht : P.underlying t = some (.map k e)) {z : Value} (hz : (zeroValue e).run P w = .ok z w) {s : ByteArray} (hs : s.size ≤ maxLen) :
  (Instr.lookup t (.map (some b)) (.string s) true).run P w = .ok (.tuple #[(g s.data.toList).getD z, .bool (g s.data.toList).isSome]) w := by
 obtain ⟨D, h1, h2⟩ := h
 obtain ⟨v, ps, hrun, hv⟩ := h1.look_ok (string_keyed hk) ht hz (zd := .held z) (zp := []) rfl (keyOf_string_mk hk hs)
 obtain ⟨q1, q2⟩ := h2 s.data.toList
 unfold R0 at hv
 simp only [Option.some.injEq, Prod.mk.injEq] at hv
 rw [hrun, q1]
 cases hg : g s.data.toList with
 | none =>
  rw [hg] at q1
  rw [atKey_of_not_has q1] at hv
  have := hv.1
  injection this with this
  rw [this]
  rfl
 | some x =>
  rw [q2 x hg] at hv
  have := hv.1
  injection this with this
  rw [this]
  rfl
theorem MapS.get (h : MapS P k w b n g) (hk : P.underlying k = some .string) (ht : P.underlying t = some (.map k e)) {z : Value} (hz : (zeroValue e).run P w = .ok z w) {s : ByteArray} (hs : s.size ≤ maxLen) :
  (Instr.lookup t (.map (some b)) (.string s) false).run P w = .ok ((g s.data.toList).getD z) w := by
 obtain ⟨D, h1, h2⟩ := h
 obtain ⟨v, ps, hrun, hv⟩ := h1.lookup (string_keyed hk) ht hz (zd := .held z) (zp := []) rfl (keyOf_string_mk hk hs)
 obtain ⟨q1, q2⟩ := h2 s.data.toList
 unfold R0 at hv
 simp only [Option.some.injEq, Prod.mk.injEq] at hv
 rw [hrun]
 cases hg : g s.data.toList with
 | none =>
  rw [hg] at q1
  rw [atKey_of_not_has q1] at hv
  have := hv.1
  injection this with this
  rw [this]
  rfl
 | some x =>
  rw [q2 x hg] at hv
  have := hv.1
  injection this with this
  rw [this]
  rfl
theorem xFv (h : w.mapTurned w' b) : Upd w w' b := by
 have hg := h.grown
 obtain ⟨es, clock, es', clock', hb, he⟩ := h
 have hs : w'.heap.size = w.heap.size := by rw [he]; simp [Go.ChangeMaps.setBlock]
 refine ⟨fun B hB => ⟨hg.os, hg.tape, hg.output, hg.size, fun i hi => ?_⟩, fun x hx => ?_, hs⟩
 ·rcases Nat.lt_or_ge i w.heap.size with hl | hl
  ·exact hg.block i hl (fun e => by injection e with e; omega)
  ·rw [Array.getElem?_eq_none (by omega), Array.getElem?_eq_none hl]
 ·rcases Nat.lt_or_ge x w.heap.size with hl | hl
  ·exact hg.block x hl (fun e => by injection e with e; exact hx e)
  ·rw [Array.getElem?_eq_none (by omega), Array.getElem?_eq_none hl]
theorem MapS.put (h : MapS P k w b n g) (hk : P.underlying k = some .string) (ht : P.underlying t = some (.map k e)) (hn : n < maxLen) {s : ByteArray} (hs : s.size ≤ maxLen) (v : Value) :
  ∃ w', (Instr.mapUpdate t (.map (some b)) (.string s) v).run P w = .ok () w' ∧ MapS P k w' b (n + 1) (fun x => if x = s.data.toList then some v else g x) ∧ Upd w w' b := by
 obtain ⟨D, h1, h2⟩ := h
 obtain ⟨w', hrun, hm, htu⟩ := h1.store (string_keyed hk) ht hn (d := .held v) (ps := []) (keyOf_string_mk hk hs) (val := v) rfl
 have hD := h1.isMap
 refine ⟨w', hrun, ⟨_, hm, fun x => ?_⟩, xFv htu⟩
 have hkey : WideAt.IsKeyLit (.string s.data.toList) := by trivial
 by_cases e : x = s.data.toList
 ·subst e
  refine ⟨by rw [has_put_same hD hkey]; simp, fun y hy z => ?_⟩
  rw [atKey_put_same hD hkey]
  simp only [if_true, Option.some.injEq] at hy
  rw [hy]
 ·have hne : Lit.string x ≠ .string s.data.toList := by simpa using e
  refine ⟨by rw [has_put_other hne, (h2 x).1]; simp [e], fun y hy z => ?_⟩
  rw [atKey_put_other hne]
  exact (h2 x).2 y (by simpa [e] using hy) z
theorem MapS.drop (h : MapS P k w b n g) (hk : P.underlying k = some .string) (ht : P.underlying t = some (.map k e)) {s : ByteArray} (hs : s.size ≤ maxLen) (ty : TypeId) :
  ∃ w', (Builtin.delete_ #[t, k] ty #[.map (some b), .string s]).run P w = .ok (.tuple #[]) w' ∧ MapS P k w' b n (fun x => if x = s.data.toList then none else g x) ∧ Upd w w' b := by
 obtain ⟨D, h1, h2⟩ := h
 obtain ⟨w', hrun, hm, htu⟩ := h1.drop (string_keyed hk) ht (keyOf_string_mk hk hs) ty
 refine ⟨w', hrun, ⟨_, hm, fun x => ?_⟩, xFv htu⟩
 by_cases e : x = s.data.toList
 ·subst e
  exact ⟨by rw [has_del_same]; simp, fun y hy => by simp at hy⟩
 ·have hne : Lit.string x ≠ .string s.data.toList := by simpa using e
  refine ⟨by rw [has_del_other hne, (h2 x).1]; simp [e], fun y hy z => ?_⟩
  rw [atKey_del_other hne]
  exact (h2 x).2 y (by simpa [e] using hy) z
theorem MapS.keys (h : MapS P k w b n g) (hk : P.underlying k = some .string) : ∃ D : DataW Value, w.ownsMap P k R0 b n D ∧ (strKeys D).Nodup ∧ (strKeys D).length ≤ n ∧ (∀ s, s ∈ strKeys D → s.length ≤ maxLen) ∧ ∀ s, s ∈ strKeys D ↔ (g s).isSome = true := by
 obtain ⟨D, h1, h2⟩ := h
 have hle := strKeys_le h1 hk
 obtain ⟨es, hD, hp, _⟩ := h1.entries (string_keyed hk)
 have hn := h1.size_le
 obtain ⟨es', hD', hko⟩ := h1.keysOf
 obtain rfl : es = es' := by rw [hD] at hD'; simpa using hD'
 subst hD
 have hstr : ∀ p ∈ es, ∃ s, p.1 = .string s := fun p hpm => by
  obtain ⟨v, hv⟩ := hko p hpm
  obtain ⟨y, _, hy, _⟩ := Maps.keyOf_str hk hv
  exact ⟨y, hy⟩
 refine ⟨.map es, h1, ?_, ?_, hle, fun s => ?_⟩
 ·refine List.pairwise_map.2 (hp.imp_of_mem fun {p q} hp' hq' hne e => hne ?_)
  obtain ⟨a, ha⟩ := hstr p hp'
  obtain ⟨b, hb⟩ := hstr q hq'
  rw [ha, hb] at e ⊢
  exact congrArg _ e
 ·have : (strKeys (.map es : DataW Value)).length = es.length := List.length_map ..
  rw [this]; exact hn
 ·rw [← (h2 s).1, has_eq, List.any_eq_true]
  show s ∈ es.map (fun p => strOf p.1) ↔ _
  rw [List.mem_map]
  constructor
  ·rintro ⟨p, hp', rfl⟩
   obtain ⟨a, ha⟩ := hstr p hp'
   exact ⟨p, hp', by rw [ha]; simp [Lit.sameKey, strOf]⟩
  ·rintro ⟨p, hp', hs⟩
   obtain ⟨a, ha⟩ := hstr p hp'
   rw [ha] at hs
   exact ⟨p, hp', by rw [ha]; simpa [Lit.sameKey, strOf] using hs⟩
end
end Go.Proofs.YtffceokjeonpcaaGreatDoor
namespace Go.Proofs.YtffceokjeonpcaaGreatDoor
def Mk.tri (m : Mk) : Int × Int × Int := (m.st, m.got, m.brr)
def Out.tri (o : Out) : Int × Int × Int := (o.st, o.got, o.brr)
def agrP (s : Sta) (d : Int) (hol : List Int) (oc : List Out) : Bool := decide (s.day = d ∧ s.hol = hol ∧ s.marks.map Mk.tri = oc.map Out.tri)
def agrR (s : Sta) (r : Rd) : Bool := agrP s r.day r.hol (r.oc.map (·.1))
def agL : Nat → List Sta → List Rd → Int × Bool
 | k, s :: ss, r :: rs => if agrR s r = true then agL (k + 1) ss rs else ((k : Int), false)
 | _, _, _ => (-1, true)
def Con.agr (c : Con) (l : List Int) (S : List Sta) : Int × Bool := if S.length ≠ l.length + 1 ∨ c.chk l ≠ 0 then (-1, false) else agL 0 S (xGh c c.read0 l)
theorem zip_tri {c : Con} {r : Rd} (h : r.oc.length = c.cl.length) : (r.marks c).map Mk.tri = (r.oc.map (·.1)).map Out.tri := by
 refine List.ext_getElem? fun i => ?_
 rw [List.getElem?_map, List.map_map, List.getElem?_map]
 by_cases hi : i < c.cl.length
 ·obtain ⟨k, hk⟩ : ∃ k, c.cl[i]? = some k := ⟨_, qzJ hi⟩
  obtain ⟨p, hp⟩ : ∃ p, r.oc[i]? = some p := ⟨_, qzJ (by omega)⟩
  rw [xB6 hk hp, hp]
  simp only [Option.map_some, Function.comp, Mk.tri, Out.tri, Option.some.injEq]
  unfold mkOf
  split
  ·next e => simp [e]
  ·split
   ·next e => simp [e]
   ·rfl
 ·rw [List.getElem?_eq_none (by rw [xBw h]; omega), List.getElem?_eq_none (by omega)]
  rfl
structure RS (c : Con) (r : Rd) (s : Sta) : Prop where
 rel : Rel c r s
 inv : RInv c r
 shut : Shut c (r.marks c)
 ok : SOk c s
theorem RS.first {c : Con} (hc : c.ok = true) : RS c c.read0 c.first := by
 obtain ⟨h1, h2⟩ := first_rel (xCe hc)
 exact ⟨h1, h2, xCp (xCe hc) (xE7 (xCe hc)), xDe hc⟩
theorem xFb {c : Con} {s : Sta} {x : Int} (h : s.stepE c x = 0) : -1 ≤ x ∧ x < (c.ac.length : Int) := by
 unfold Sta.stepE at h
 split at h
 ·cases h
 ·next h1 =>
  rw [not_or, not_or] at h1
  omega
theorem RS.step {c : Con} {r : Rd} {s : Sta} {x : Int} (hc : c.ok = true) (h : RS c r s) (he : s.stepE c x = 0) : RS c (r.step c x) (s.step c x) := by
 have hs := xCo h.ok he
 have hx := xFb he
 have hg := xCe hc
 unfold Rd.step Sta.step at *
 by_cases e : x = -1
 ·rw [if_pos e] at hs ⊢
  rw [if_pos e]
  obtain ⟨h1, h2⟩ := tick_rel hg h.inv h.rel
  refine ⟨h1, h2, ?_, hs⟩
  rw [tick_W]
  exact xCp hg (xG2 hg (xEd h.inv)).1
 ·rw [if_neg e] at hs ⊢
  rw [if_neg e]
  have hn : x.toNat < c.ac.length := by omega
  obtain ⟨h1, h2⟩ := act_rel hg (xEg hc) h.inv h.shut h.rel hn
  refine ⟨h1, h2, ?_, hs⟩
  obtain ⟨a, ha⟩ : ∃ a, c.ac[x.toNat]? = some a := ⟨_, qzJ hn⟩
  rw [act_W ha]
  exact xCp hg (xGw hg (xEg hc) (xEd h.inv) ha).1
theorem rs_at {c : Con} (hc : c.ok = true) : ∀ (l : List Int) (r : Rd) (s : Sta), RS c r s → runE c s l = 0 → ∀ (i : Nat) s' r', (xBv c s l)[i]? = some s' → (xGh c r l)[i]? = some r' → RS c r' s'
 | [], r, s, h, _, 0, s', r', h1, h2 => by cases h1; cases h2; exact h
 | [], r, s, h, _, i + 1, s', r', h1, h2 => by simp [xBv] at h1
 | x :: l, r, s, h, _, 0, s', r', h1, h2 => by cases h1; cases h2; exact h
 | x :: l, r, s, h, he, i + 1, s', r', h1, h2 => by
  rw [runE] at he
  split at he
  ·next e => exact rs_at hc l _ _ (h.step hc e) he i s' r' h1 h2
  ·next e => exact absurd he e
theorem xGd {c : Con} {l : List Int} (h : c.runE l = 0) : c.ok = true ∧ l.length ≤ 4000 ∧ runE c c.first l = 0 := by
 unfold Con.runE at h
 split at h
 ·next e => exact absurd h e
 ·next e =>
  split at h
  ·cases h
  ·next e2 =>
   refine ⟨?_, by omega, h⟩
   rw [Decidable.not_not] at e
   unfold Con.startE at e
   cases hc : c.ok with
   | true => rfl
   | false => rw [hc] at e; exact absurd e (by decide)
theorem xIq {c : Con} {l : List Int} (h : c.runE l = 0) : c.runS l = xBv c c.first l := by unfold Con.runS; rw [if_pos h]
theorem runS_len {c : Con} {l : List Int} (h : c.runE l = 0) : (c.runS l).length = l.length + 1 := by rw [xIq h, xC7]
theorem run_rs {c : Con} {l : List Int} (h : c.runE l = 0) {i : Nat} {s : Sta} {r : Rd} (h1 : (c.runS l)[i]? = some s) (h2 : (xGh c c.read0 l)[i]? = some r) : RS c r s := by
 obtain ⟨hc, _, he⟩ := xGd h
 rw [xIq h] at h1
 exact rs_at hc l _ _ (RS.first hc) he i s r h1 h2
def Sta.breach (c : Con) (s : Sta) (p : Int) : Bool :=
 decide (0 ≤ p) && decide (p < c.par) && s.ok c && (List.zipWith (fun (k : Cla) (m : Mk) => k.fin && m.st == 4 && m.brr == p) c.cl s.marks).any id
def failed (c : Con) (oc : List Out) (p : Int) : Bool := (List.zipWith (fun (k : Cla) (o : Out) => k.fin && o.st == 4 && o.brr == p) c.cl oc).any id
def Con.follow (c : Con) (l : List Int) : Rd := l.foldl (fun r x => r.step c x) c.read0
theorem xEt (c : Con) : ∀ (l : List Int) (r : Rd), (xGh c r l)[l.length]? = some (l.foldl (fun r x => r.step c x) r)
 | [], _ => rfl
 | x :: l, r => by rw [xGh, List.length_cons, qzB, xEt c l]; rfl
theorem pu_app : ∀ (l r : List UInt8) (acc m : Nat), Lib.parseUint10 acc l = .ok m → Lib.parseUint10 acc (l ++ r) = Lib.parseUint10 m r
 | [], r, acc, m, h => by
  simp only [Lib.parseUint10] at h
  injection h with h
  subst h; rfl
 | c :: l, r, acc, m, h => by
  simp only [qzE, Lib.parseUint10] at h ⊢
  split at h
  ·rename_i h1
   rw [if_pos h1]
   split at h
   ·cases h
   ·rename_i h2
    rw [if_neg h2]
    split at h
    ·cases h
    ·rename_i h3
     rw [if_neg h3]
     exact pu_app l r _ m h
  ·cases h
theorem xGs {k : Nat} (h : k < 10) : (UInt8.ofNat (48 + k)).toNat = 48 + k := by
 show (48 + k) % 2 ^ 8 = 48 + k
 omega
theorem pu_one (acc k : Nat) (h : k < 10) (hb : acc * 10 + k < 18446744073709551616) : Lib.parseUint10 acc [UInt8.ofNat (48 + k)] = .ok (acc * 10 + k) := by
 simp only [Lib.parseUint10, xGs h]
 rw [if_pos (by omega), if_neg (by omega), if_neg (by omega)]
 congr 1; omega
theorem pu_dec (u : Nat) (h : u < 18446744073709551616) : Lib.parseUint10 0 (Lib.decDigits u) = .ok u := by
 induction u using Nat.strongRecOn with
 | _ u ih =>
  rw [Lib.decDigits]
  split
  ·rename_i h1
   have := pu_one 0 u h1 (by omega)
   rw [this]; congr 1; omega
  ·rename_i h1
   rw [pu_app _ _ _ _ (ih (u / 10) (by omega) (by omega)), pu_one _ _ (by omega) (by omega)]
   congr 1; omega
theorem xI4 (u : Nat) : ∀ c ∈ Lib.decDigits u, 48 ≤ c.toNat ∧ c.toNat ≤ 57 := by
 induction u using Nat.strongRecOn with
 | _ u ih =>
  intro c hc
  rw [Lib.decDigits] at hc
  split at hc
  ·rename_i h1
   rw [List.mem_singleton] at hc
   subst hc
   rw [xGs h1]; omega
  ·rename_i h1
   rw [List.mem_append, List.mem_singleton] at hc
   rcases hc with hc | hc
   ·exact ih (u / 10) (by omega) c hc
   ·subst hc
    rw [xGs (by omega)]; omega
theorem dec_ne (u : Nat) : Lib.decDigits u ≠ [] := by
 rw [Lib.decDigits]
 split
 ·simp
 ·simp
theorem pm_dec (u : Nat) (h : u < 18446744073709551616) : Lib.parseMag (Lib.decDigits u) = .ok u := by
 unfold Lib.parseMag
 rw [if_neg (dec_ne u), pu_dec u h]
theorem xH9 (n : Int) (h0 : -9223372036854775808 ≤ n) (h1 : n ≤ 9223372036854775807) : Lib.atoiAll (Lib.itoa n) = .ok n := by
 unfold Lib.itoa
 split
 ·rename_i hn
  have hp := pm_dec n.natAbs (by omega)
  simp only [Lib.atoiAll]
  rw [if_pos (by right; rfl), hp]
  simp only
  rw [if_neg (by intro h; exact h.1 rfl), if_neg (by omega), if_pos (show UInt8.toNat 45 = 45 from rfl)]
  congr 1; omega
 ·rename_i hn
  have hp := pm_dec n.toNat (by omega)
  have hd := xI4 n.toNat
  cases hl : Lib.decDigits n.toNat with
  | nil => exact absurd hl (dec_ne _)
  | cons c r =>
   rw [hl] at hp hd
   have hc := hd c (List.mem_cons_self ..)
   simp only [Lib.atoiAll]
   rw [if_neg (by omega), hp]
   simp only
   rw [if_neg (by omega), if_neg (by omega), if_neg (by omega)]
   congr 1; omega
theorem itoa_ne (n : Int) : Lib.itoa n ≠ [] := by
 unfold Lib.itoa
 split
 ·simp
 ·exact dec_ne _
def fword : List UInt8 := [102, 97, 99, 116]
def fbit (b : Bool) : Int := if b then 1 else 0
def Fac.nums (x : Fac) : List Int := [x.ref, x.act, x.low, x.high, x.filed, fbit x.sec]
def Fac.text (x : Fac) : List UInt8 := fword ++ x.nums.flatMap fun n => 32 :: Lib.itoa n
def J64 (n : Int) : Prop := -9223372036854775808 ≤ n ∧ n ≤ 9223372036854775807
structure Fac.I64 (x : Fac) : Prop where
 a : J64 x.ref
 b : J64 x.act
 c : J64 x.low
 d : J64 x.high
 e : J64 x.filed
theorem Fac.I64.nums {x : Fac} (h : x.I64) : ∀ n ∈ x.nums, J64 n := by
 intro n hn
 unfold Fac.nums at hn
 simp only [List.mem_cons, List.not_mem_nil, or_false] at hn
 rcases hn with rfl | rfl | rfl | rfl | rfl | rfl
 ·exact h.a
 ·exact h.b
 ·exact h.c
 ·exact h.d
 ·exact h.e
 ·unfold fbit J64; split <;> omega
structure Rf where
 first : Bool
 ns : List Int
def Rf.step (s : Rf) (p : List UInt8) : Option Rf :=
 if s.first = true ∧ p = fword then some ⟨false, s.ns⟩
 else match Lib.atoiAll p with
  | .ok n => if s.first = true ∨ s.ns.length = 6 then none else some ⟨s.first, s.ns ++ [n]⟩
  | _ => none
def Rf.run : Nat → Rf → List UInt8 → Option Rf
 | 0, _, _ => none
 | k + 1, s, t =>
  match s.step (Lib.cut t [32]).1 with
  | none => none
  | some s' => if (Lib.cut t [32]).2.2 then Rf.run k s' (Lib.cut t [32]).2.1 else some s'
theorem xF1 : ∀ (l r : List UInt8) (b : UInt8), b ∉ l → Lib.index (l ++ b :: r) [b] = l.length
 | [], r, b, _ => by
  unfold Lib.index
  simp [List.isPrefixOf]
 | c :: l, r, b, h => by
  have h1 : c ≠ b := fun e => h (by simp [e])
  have h2 : b ∉ l := fun e => h (by simp [e])
  show Lib.index (c :: (l ++ b :: r)) [b] = _
  unfold Lib.index
  rw [xF1 l r b h2]
  have : List.isPrefixOf [b] (c :: (l ++ b :: r)) = false := by simp [List.isPrefixOf, Ne.symm h1]
  rw [this]
  have e : (((l.length : Nat) : Int) == -1) = false := by rw [beq_eq_false_iff_ne]; omega
  simp [e]
def words (l : List Int) : List UInt8 := l.flatMap fun n => 32 :: Lib.itoa n
def facOf (l : List Int) : Option Fac :=
 match l with
 | [a, b, c, d, e, f] => some ⟨a, b, c, d, e, f == 1⟩
 | _ => none
def prsF (t : List UInt8) : Option Fac :=
 match Rf.run (t.length + 1) ⟨true, []⟩ t with
 | some s => match facOf s.ns with
  | some x => if x.text = t then some x else none
  | none => none
 | none => none
def Mk.text (m : Mk) : List UInt8 :=
 Lib.itoa m.st ++ 46 :: (Lib.itoa m.left ++ 46 :: (Lib.itoa m.got ++ 46 :: (Lib.itoa m.brr ++ ((if m.pau then [112] else []) ++ [44]))))
def holT (l : List Int) : List UInt8 := l.flatMap fun h => Lib.itoa h ++ [44]
def useT (l : List Bool) : List UInt8 := l.map fun u => if u then 49 else 48
def mkT (l : List Mk) : List UInt8 := l.flatMap Mk.text
def Sta.text (s : Sta) : List UInt8 := Lib.itoa s.day ++ 59 :: (holT s.hol ++ 59 :: (useT s.used ++ 59 :: mkT s.marks))
structure Mk.I64 (m : Mk) : Prop where
 st : J64 m.st
 left : J64 m.left
 got : J64 m.got
 brr : J64 m.brr
structure Sta.I64 (s : Sta) : Prop where
 day : J64 s.day
 hol : ∀ h ∈ s.hol, J64 h
 marks : ∀ m ∈ s.marks, m.I64
theorem xI5 (l r : List UInt8) (b : UInt8) (h : b ∉ l) : Lib.cut (l ++ b :: r) [b] = (l, r, true) := by
 unfold Lib.cut
 rw [xF1 l r b h, if_pos (by omega)]
 simp
theorem itoa_ch {n : Int} {c : UInt8} (h : c ∈ Lib.itoa n) : c = 45 ∨ (48 ≤ c.toNat ∧ c.toNat ≤ 57) := by
 unfold Lib.itoa at h
 split at h
 ·rw [List.mem_cons] at h
  rcases h with h | h
  ·exact .inl h
  ·exact .inr (xI4 _ _ h)
 ·exact .inr (xI4 _ _ h)
theorem xE3 {n : Int} {c : UInt8} (h : c ≠ 45) (h2 : ¬ (48 ≤ c.toNat ∧ c.toNat ≤ 57)) : c ∉ Lib.itoa n := fun hm => by
 rcases itoa_ch hm with e | e
 ·exact h e
 ·exact h2 e
theorem itoa_59 (n : Int) : (59 : UInt8) ∉ Lib.itoa n := xE3 (by decide) (by decide)
theorem itoa_44 (n : Int) : (44 : UInt8) ∉ Lib.itoa n := xE3 (by decide) (by decide)
theorem xI2 (n : Int) : (46 : UInt8) ∉ Lib.itoa n := xE3 (by decide) (by decide)
theorem itoa_112 (n : Int) : (112 : UInt8) ∉ Lib.itoa n := xE3 (by decide) (by decide)
def numO (w : List UInt8) : Bool := match Lib.atoiAll w with | .ok n => Lib.itoa n == w | _ => false
def numD (w : List UInt8) : Int := match Lib.atoiAll w with | .ok n => n | _ => 0
theorem xHk {n : Int} (h : J64 n) : numO (Lib.itoa n) = true := by
 unfold numO
 rw [xH9 n h.1 h.2]
 simp
theorem xHm {n : Int} (h : J64 n) : numD (Lib.itoa n) = n := by
 unfold numD
 rw [xH9 n h.1 h.2]
def xIk (t : List UInt8) (b : UInt8) : Option (Int × List UInt8) :=
 if (Lib.cut t [b]).2.2 = true ∧ numO (Lib.cut t [b]).1 = true then some (numD (Lib.cut t [b]).1, (Lib.cut t [b]).2.1) else none
theorem xDi {n : Int} {r : List UInt8} {b : UInt8} (h : J64 n) (hb : b ∉ Lib.itoa n) : xIk (Lib.itoa n ++ b :: r) b = some (n, r) := by
 unfold xIk
 rw [xI5 _ r b hb]
 simp only [xHk h, xHm h, and_self, if_true]
def xI1 (w : List UInt8) : List UInt8 × Bool := if w.getLast? = some 112 then (w.dropLast, true) else (w, false)
def takeB (t : List UInt8) : Option ((Int × Bool) × List UInt8) :=
 if (Lib.cut t [44]).2.2 = true ∧ numO (xI1 (Lib.cut t [44]).1).1 = true then some ((numD (xI1 (Lib.cut t [44]).1).1, (xI1 (Lib.cut t [44]).1).2), (Lib.cut t [44]).2.1) else none
theorem lastW_fwd (n : Int) (p : Bool) : xI1 (Lib.itoa n ++ (if p then [112] else [])) = (Lib.itoa n, p) := by
 unfold xI1
 cases p with
 | true => simp
 | false =>
  simp only [Bool.false_eq_true, if_false, List.append_nil]
  rw [if_neg]
  intro h
  exact itoa_112 n (List.mem_of_getLast? h)
theorem takeB_fwd {n : Int} {p : Bool} {r : List UInt8} (h : J64 n) : takeB (Lib.itoa n ++ ((if p then [112] else []) ++ 44 :: r)) = some ((n, p), r) := by
 unfold takeB
 have hn : (44 : UInt8) ∉ Lib.itoa n ++ (if p then [112] else []) := by
  rw [List.mem_append]
  rintro (e | e)
  ·exact itoa_44 n e
  ·cases p <;> simp at e
 rw [← List.append_assoc, xI5 _ r 44 hn]
 simp only [lastW_fwd, xHk h, xHm h, and_self, if_true]
def takeM (t : List UInt8) : Option (Mk × List UInt8) :=
 (xIk t 46).bind fun a => (xIk a.2 46).bind fun b => (xIk b.2 46).bind fun d => (takeB d.2).bind fun e => some (⟨a.1, b.1, d.1, e.1.1, e.1.2⟩, e.2)
theorem takeM_fwd {m : Mk} {r : List UInt8} (h : m.I64) : takeM (m.text ++ r) = some (m, r) := by
 unfold takeM Mk.text
 simp only [List.append_assoc, qzE, qzF]
 rw [xDi h.st (xI2 _)]
 simp only [Option.bind_some]
 rw [xDi h.left (xI2 _)]
 simp only [Option.bind_some]
 rw [xDi h.got (xI2 _)]
 simp only [Option.bind_some]
 rw [takeB_fwd h.brr]
 rfl
def decM : Nat → List UInt8 → Option (List Mk)
 | 0, _ => none
 | n + 1, t => if t = [] then some [] else (takeM t).bind fun x => (decM n x.2).map (x.1 :: ·)
def decH : Nat → List UInt8 → Option (List Int × List UInt8)
 | 0, _ => none
 | n + 1, t => if t.head? = some 59 then some ([], t.drop 1) else (xIk t 44).bind fun x => (decH n x.2).map fun y => (x.1 :: y.1, y.2)
def decU (w : List UInt8) : Option (List Bool) := if w.all (fun c => c == 48 || c == 49) then some (w.map (· == 49)) else none
def decV (t : List UInt8) : Option Sta :=
 (xIk t 59).bind fun d => (decH (t.length + 1) d.2).bind fun h =>
  if (Lib.cut h.2 [59]).2.2 = true then (decU (Lib.cut h.2 [59]).1).bind fun u => (decM (t.length + 1) (Lib.cut h.2 [59]).2.1).map fun m => ⟨d.1, h.1, u, m⟩ else none
theorem text_len (m : Mk) : 1 ≤ m.text.length := by unfold Mk.text; simp only [List.length_append, List.length_cons]; omega
theorem decM_fwd : ∀ (n : Nat) {l : List Mk}, (∀ m ∈ l, m.I64) → (mkT l).length < n → decM n (mkT l) = some l
 | 0, _, _, hn => absurd hn (by omega)
 | n + 1, [], _, _ => rfl
 | n + 1, m :: l, h, hn => by
  have e : mkT (m :: l) = m.text ++ mkT l := rfl
  rw [e] at hn ⊢
  have h1 := text_len m
  rw [List.length_append] at hn
  have hne : m.text ++ mkT l ≠ [] := fun e => by
   have h2 := congrArg List.length e
   rw [List.length_append, List.length_nil] at h2
   omega
  rw [decM, if_neg hne, takeM_fwd (h m (by simp)), Option.bind_some, decM_fwd n (fun x hx => h x (List.mem_cons_of_mem _ hx)) (by omega)]
  rfl
theorem itoa_head (n : Int) (r : List UInt8) : (Lib.itoa n ++ r).head? ≠ some 59 := by
 cases h : Lib.itoa n with
 | nil => exact absurd h (itoa_ne n)
 | cons c l =>
  simp only [qzE, List.head?_cons]
  intro e
  injection e with e
  have := itoa_59 n
  rw [h, e] at this
  simp at this
theorem decH_fwd : ∀ (n : Nat) {l : List Int} {r : List UInt8}, (∀ m ∈ l, J64 m) → (holT l).length < n → decH n (holT l ++ 59 :: r) = some (l, r)
 | 0, _, _, _, hn => absurd hn (by omega)
 | n + 1, [], r, _, _ => rfl
 | n + 1, m :: l, r, h, hn => by
  have e : holT (m :: l) = (Lib.itoa m ++ [44]) ++ holT l := rfl
  rw [e, List.length_append, List.length_append, List.length_singleton] at hn
  rw [e, List.append_assoc, List.append_assoc, decH, if_neg (itoa_head _ _), List.singleton_append, xDi (h m (by simp)) (itoa_44 _), Option.bind_some, decH_fwd n (fun x hx => h x (List.mem_cons_of_mem _ hx)) (by omega)]
  rfl
theorem decU_fwd (l : List Bool) : decU (useT l) = some l := by
 unfold decU useT
 rw [if_pos]
 ·rw [List.map_map]
  refine congrArg some ?_
  conv => rhs; rw [← List.map_id l]
  refine List.map_congr_left fun b _ => ?_
  cases b <;> rfl
 ·rw [List.all_map, List.all_eq_true]
  intro b _
  cases b <;> rfl
theorem useT_59 (l : List Bool) : (59 : UInt8) ∉ useT l := by
 unfold useT
 rw [List.mem_map]
 rintro ⟨b, _, e⟩
 cases b <;> cases e
theorem xH6 {s : Sta} (h : s.I64) : decV s.text = some s := by
 unfold decV
 have hl : (mkT s.marks).length < s.text.length + 1 ∧ (holT s.hol).length < s.text.length + 1 := by
  unfold Sta.text
  simp only [List.length_append, List.length_cons]
  omega
 obtain ⟨N, hN⟩ : ∃ N, s.text.length + 1 = N := ⟨_, rfl⟩
 rw [hN] at hl ⊢
 unfold Sta.text
 rw [xDi h.day (itoa_59 _), Option.bind_some, decH_fwd N h.hol hl.2, Option.bind_some, xI5 _ _ 59 (useT_59 _)]
 simp only [if_true, decU_fwd, Option.bind_some]
 rw [decM_fwd N h.marks hl.1]
 rfl
theorem xG4 {a b : Sta} (ha : a.I64) (hb : b.I64) (h : a.text = b.text) : a = b := by
 have h1 := xH6 ha
 rw [h, xH6 hb] at h1
 exact (Option.some.inj h1).symm
def spl (b : UInt8) : List UInt8 → List (List UInt8)
 | [] => [[]]
 | c :: l => if c = b then [] :: spl b l else match spl b l with | [] => [[c]] | p :: ps => (c :: p) :: ps
def w64 (x : Int) : Int := (x + 9223372036854775808) % 18446744073709551616 - 9223372036854775808
def Cg (a b : Int) : Prop := a % 18446744073709551616 = b % 18446744073709551616
def numS (s : Int × Bool) (c : UInt8) : Int × Bool := if c = 45 then (s.1, true) else (w64 (w64 (w64 (10 * s.1) + c.toNat) - 48), s.2)
def numR (l : List UInt8) : Int := let s := l.foldl numS (0, false); if s.2 then w64 (0 - s.1) else s.1
def markR (t : List UInt8) : Option Mk :=
 match spl 46 t with
 | [a, b, d, e] => some ⟨numR a, numR b, numR d, numR (xI1 e).1, (xI1 e).2⟩
 | _ => none
def marksR : List (List UInt8) → Option (List Mk)
 | [] => some []
 | t :: l => (markR t).bind fun m => (marksR l).map (m :: ·)
def decR (t : List UInt8) : Option Sta :=
 match spl 59 t with
 | [a, h, u, m] => (marksR (spl 44 m).dropLast).bind fun ms =>
   let s : Sta := ⟨numR a, (spl 44 h).dropLast.map numR, u.map (· == 49), ms⟩
   if s.text = t then some s else none
 | _ => none
def Mk.body (m : Mk) : List UInt8 := Lib.itoa m.st ++ 46 :: (Lib.itoa m.left ++ 46 :: (Lib.itoa m.got ++ 46 :: (Lib.itoa m.brr ++ (if m.pau then [112] else []))))
def xBo (hol : List Int) (p : Int) (a : Atc) : Bool := a.kind != 1 || a.to_ == -1 || xCa hol a.to_ == p || (a.role != -1 && xCa hol a.role == p)
abbrev See := List Int → Atc → Bool
def Pub (see : See) : Prop := ∀ hol a, see hol a = false → a.kind = 1 ∧ a.to_ ≠ -1
theorem xHg (p : Int) : Pub fun hol a => xBo hol p a := fun hol a h => by
 unfold xBo at h
 simp only [Bool.or_eq_false_iff, bne_eq_false_iff_eq, beq_eq_false_iff_ne] at h
 exact ⟨h.1.1.1, h.1.1.2⟩
def nam1 (n : Int) (k : Cla) (m : Mk) : Bool := m.runs && (k.act == n || (k.pause != -1 && (k.pause == n || k.resume == n)))
def xHq (c : Con) (s : Sta) (n : Int) : Bool := (List.zipWith (nam1 n) c.cl s.marks).any id
def hidA (c : Con) (p : See) (s : Sta) (n : Nat) : Bool := match c.ac[n]? with
 | some a => xHq c s (n : Int) && a.kind == 1 && a.to_ != -1 && !p s.hol a
 | none => false
def hidL (c : Con) (p : See) (s : Sta) : List Int := ((List.range c.ac.length).filter (hidA c p s)).map fun (n : Nat) => (n : Int)
def xDm (c : Con) (p : See) (S : List Sta) : Prop := ∀ s ∈ S, s.day < c.days → ∀ x ∈ hidL c p s, s.stepE c x = 0 → s.step c x ∈ S
structure ClosP (c : Con) (p : See) (l R : List Sta) : Prop where
 srt : R.Pairwise fun a b => a.text < b.text
 sub : ∀ s ∈ l, s ∈ R
 cl : xDm c p R
 mn : ∀ S, (∀ s ∈ l, s ∈ S) → xDm c p S → ∀ s ∈ R, s ∈ S
theorem xEz (a : Sta) : ¬ a.text < a.text := List.lt_irrefl _
theorem xG9 : ∀ {R R' : List Sta}, R.Pairwise (fun a b => a.text < b.text) → R'.Pairwise (fun a b => a.text < b.text) → (∀ s, s ∈ R ↔ s ∈ R') → R = R'
 | [], [], _, _, _ => rfl
 | [], b :: R', _, _, h => by have := (h b).2 (by simp); cases this
 | a :: R, [], _, _, h => by have := (h a).1 (by simp); cases this
 | a :: R, b :: R', h1, h2, h => by
  obtain ⟨a1, a2⟩ := List.pairwise_cons.1 h1
  obtain ⟨b1, b2⟩ := List.pairwise_cons.1 h2
  have hab : a = b := by
   rcases List.mem_cons.1 ((h a).1 (by simp)) with e | e
   ·exact e
   ·rcases List.mem_cons.1 ((h b).2 (by simp)) with e2 | e2
    ·exact e2.symm
    ·exact absurd (List.lt_trans (b1 a e) (a1 b e2)) (xEz b)
  subst hab
  congr 1
  refine xG9 a2 b2 fun s => ⟨fun hs => ?_, fun hs => ?_⟩
  ·rcases List.mem_cons.1 ((h s).1 (List.mem_cons_of_mem _ hs)) with e | e
   ·subst e; exact absurd (a1 s hs) (xEz s)
   ·exact e
  ·rcases List.mem_cons.1 ((h s).2 (List.mem_cons_of_mem _ hs)) with e | e
   ·subst e; exact absurd (b1 s hs) (xEz s)
   ·exact e
theorem ClosP.uniq {c : Con} {p : See} {l R R' : List Sta} (h : ClosP c p l R) (h' : ClosP c p l R') : R = R' :=
 xG9 h.srt h'.srt fun s => ⟨h.mn R' h'.sub h'.cl s, h'.mn R h.sub h.cl s⟩
open Classical in
noncomputable def closF (c : Con) (p : See) (l : List Sta) : Option (List Sta) := if h : ∃ R, ClosP c p l R ∧ R.length ≤ 300 then some (Classical.choose h) else none
theorem xF4 {c : Con} {p : See} {l R : List Sta} (h : ClosP c p l R) (hn : R.length ≤ 300) : closF c p l = some R := by
 unfold closF
 rw [dif_pos ⟨R, h, hn⟩]
 exact congrArg some ((Classical.choose_spec (⟨R, h, hn⟩ : ∃ R, ClosP c p l R ∧ R.length ≤ 300)).1.uniq h)
theorem xC5 {c : Con} {p : See} {l R : List Sta} (h : closF c p l = some R) : ClosP c p l R ∧ R.length ≤ 300 := by
 unfold closF at h
 split at h
 ·next hex => injection h with h; subst h; exact Classical.choose_spec hex
 ·cases h
theorem closF_none {c : Con} {p : See} {l : List Sta} (h : ∀ R, ClosP c p l R → 300 < R.length) : closF c p l = none := by
 unfold closF
 rw [dif_neg]
 rintro ⟨R, h1, h2⟩
 have := h R h1
 omega
def xCj (c : Con) (p : See) (s : Sta) (x : Int) : Bool := x == -1 || (match c.ac[x.toNat]? with | some a => p s.hol a | none => false)
def xCk (c : Con) (p : See) (R : List Sta) (x : Int) : List Sta := (R.filter fun s => decide (s.day < c.days) && xCj c p s x && s.stepE c x == 0).map fun s => s.step c x
noncomputable def clE (c : Con) (p : See) (l : List Sta) : Int × List Sta := match closF c p l with | none => (3, []) | some R => (0, R)
noncomputable def afterF (c : Con) (p : See) (R : List Sta) (x : Int) : Int × List Sta :=
 if x ≠ -1 ∧ (x < 0 ∨ (c.ac.length : Int) ≤ x) then (1, []) else if xCk c p R x = [] then (13, []) else clE c p (xCk c p R x)
noncomputable def watchL (c : Con) (p : See) : List Int → Int × List Sta → Int × List Sta
 | [], b => b
 | x :: l, b => if b.1 = 0 then watchL c p l (afterF c p b.2 x) else b
noncomputable def watchF (c : Con) (p : See) (view : List Int) : Int × List Sta := watchL c p view (clE c p [c.first])
def xBk (c : Con) (p : See) : Sta → List Int → List Int
 | _, [] => []
 | s, x :: l => if xCj c p s x = true then x :: xBk c p (s.step c x) l else xBk c p (s.step c x) l
def xEm (st : Int) : Int := if st = 3 ∨ st = 5 then 1 else if st = 4 then 3 else if st = 0 ∨ st = 1 ∨ st = 2 then 2 else 0
def xD3 (R : List Sta) (i : Nat) : Int := match R with
 | [] => 0
 | s :: R => if R.all fun t => xEm (t.marks.getD i Mk.idle).st == xEm (s.marks.getD i Mk.idle).st then xEm (s.marks.getD i Mk.idle).st else 0
section
variable {c : Con} {p : See}
theorem zip_id {f : Cla → Mk → Mk} : ∀ {l : List Cla} {ms : List Mk}, ms.length ≤ l.length → (∀ (i : Nat) k m, l[i]? = some k → ms[i]? = some m → f k m = m) → List.zipWith f l ms = ms
 | _, [], _, _ => by simp
 | [], m :: ms, h, _ => by simp at h
 | k :: l, m :: ms, h, hf => by
  rw [List.zipWith_cons_cons, hf 0 k m rfl rfl, zip_id (by simpa using h) fun i k' m' h1 h2 => hf (i + 1) k' m' h1 h2]
theorem act_same {s : Sta} (h : SOk c s) {n : Nat} {a : Atc} (ha : c.ac[n]? = some a) (hk : a.kind = 1) (hn : xHq c s n = false) : s.act c n = s := by
 have hno : ∀ (i : Nat) k m, c.cl[i]? = some k → s.marks[i]? = some m → nam1 n k m = false := fun i k m h1 h2 => by
  have := List.any_eq_false.1 hn (nam1 n k m) (qzK (i := i) (by rw [List.getElem?_zipWith, h1, h2]))
  simpa using this
 have hpz : ∀ k ∈ c.cl, k.pause = -1 → k.resume = -1 := fun k hk e => by
  rcases (xDa h.vc hk).p with ⟨_, h1⟩ | ⟨_, h2, _⟩
  ·exact h1
  ·rw [e] at h2
   simp [Con.nat, isI] at h2
 have m1 : List.zipWith (xA1 n) c.cl s.marks = s.marks := zip_id (by rw [h.m]; exact Nat.le_refl _) fun i k m h1 h2 => by
  have hq := hno i k m h1 h2
  unfold nam1 at hq
  unfold xA1
  split
  ·rfl
  ·next hr =>
   have hr : m.runs = true := by simpa using hr
   rw [hr, Bool.true_and, Bool.or_eq_false_iff] at hq
   by_cases hp1 : k.pause = -1
   ·have := hpz k (qzK h1) hp1
    rw [if_neg (by omega), if_neg (by omega)]
   ·have h3 := hq.2
    rw [show (k.pause != -1) = true by simpa using hp1, Bool.true_and, Bool.or_eq_false_iff] at h3
    rw [if_neg (by simpa using h3.1), if_neg (by simpa using h3.2)]
 have m2 : List.zipWith (xAy n (xA9 a s.hol)) c.cl s.marks = s.marks := zip_id (by rw [h.m]; exact Nat.le_refl _) fun i k m h1 h2 => by
  have hq := hno i k m h1 h2
  unfold nam1 at hq
  unfold xAy
  rw [if_pos]
  cases hr : m.runs with
  | false => exact .inl rfl
  | true =>
   rw [hr, Bool.true_and, Bool.or_eq_false_iff] at hq
   exact .inr (.inl (by simpa using hq.1))
 unfold Sta.act
 rw [ha]
 simp only
 rw [if_neg (by simp [hk]), m1, m2, if_pos hk, xDf h.m h.sh]
theorem hid_step (hp : Pub p) {R : List Sta} (hR : xDm c p R) {s : Sta} (h : SOk c s) (hs : s ∈ R) {x : Int} (hE : s.stepE c x = 0) (hx : xCj c p s x = false) : s.step c x ∈ R := by
 have hb := xFb hE
 have hne : x ≠ -1 := fun e => by rw [e] at hx; simp [xCj] at hx
 have hd : s.day ≠ c.days := by
  unfold Sta.stepE at hE
  split at hE
  ·cases hE
  ·split at hE
   ·cases hE
   ·assumption
 have hday := h.d1
 obtain ⟨a, ha⟩ : ∃ a, c.ac[x.toNat]? = some a := ⟨_, qzJ (by omega)⟩
 have hsee : p s.hol a = false := by
  unfold xCj at hx
  rw [ha, Bool.or_eq_false_iff] at hx
  exact hx.2
 have hk := hp s.hol a hsee
 cases hn : xHq c s x with
 | false =>
  unfold Sta.step
  rw [if_neg hne, act_same h ha hk.1 (by rw [Int.toNat_of_nonneg (by omega)]; exact hn)]
  exact hs
 | true =>
  refine hR s hs (by omega) x ?_ hE
  unfold hidL
  refine List.mem_map.2 ⟨x.toNat, List.mem_filter.2 ⟨List.mem_range.2 (by omega), ?_⟩, Int.toNat_of_nonneg (by omega)⟩
  unfold hidA
  rw [ha]
  simp only
  rw [Int.toNat_of_nonneg (by omega), hn, hsee]
  simp [hk.1, hk.2]
theorem clE_mem {l : List Sta} {s : Sta} (h : (clE c p l).1 = 0) (hs : s ∈ l) : s ∈ (clE c p l).2 ∧ xDm c p (clE c p l).2 := by
 unfold clE at h ⊢
 cases hq : closF c p l with
 | none => rw [hq] at h; cases h
 | some R => exact ⟨(xC5 hq).1.sub s hs, (xC5 hq).1.cl⟩
theorem clE_err (l : List Sta) : (clE c p l).1 = 0 ∨ (clE c p l).1 = 3 := by
 unfold clE
 cases closF c p l with
 | none => exact .inr rfl
 | some R => exact .inl rfl
theorem xDn : ∀ (l : List Int) (b : Int × List Sta), b.1 ≠ 0 → watchL c p l b = b
 | [], _, _ => rfl
 | x :: l, b, h => by rw [watchL, if_neg h]
theorem xEr (hp : Pub p) : ∀ (l : List Int) (s : Sta) (b : Int × List Sta), SOk c s → runE c s l = 0 → b.1 = 0 → s ∈ b.2 → xDm c p b.2 →
  ((watchL c p (xBk c p s l) b).1 = 0 ∨ (watchL c p (xBk c p s l) b).1 = 3) ∧ ((watchL c p (xBk c p s l) b).1 = 0 → ∀ t ∈ (xBv c s l).getLast?, t ∈ (watchL c p (xBk c p s l) b).2)
 | [], s, b, _, _, h0, hs, _ => by
  refine ⟨.inl h0, fun _ t ht => ?_⟩
  simp [xBv] at ht
  subst ht
  exact hs
 | x :: l, s, b, hok, hE, h0, hs, hC => by
  have hE1 : s.stepE c x = 0 := by
   rw [runE] at hE
   split at hE
   ·assumption
   ·next h => exact absurd hE h
  have hE2 : runE c (s.step c x) l = 0 := by rw [runE, if_pos hE1] at hE; exact hE
  have hok2 := xCo hok hE1
  have hlast : (xBv c s (x :: l)).getLast? = (xBv c (s.step c x) l).getLast? := by
   rw [xBv]
   cases hq : xBv c (s.step c x) l with
   | nil => have := xC7 c l (s.step c x); rw [hq] at this; simp at this
   | cons a r => rw [List.getLast?_cons_cons]
  rw [hlast]
  unfold xBk
  cases hx : xCj c p s x with
  | false => exact xEr hp l _ b hok2 hE2 h0 (hid_step hp hC hok hs hE1 hx) hC
  | true =>
   rw [if_pos rfl, watchL, if_pos h0]
   have hb := xFb hE1
   have hd : s.day < c.days := by
    have := hok.d1
    unfold Sta.stepE at hE1
    split at hE1
    ·cases hE1
    ·split at hE1
     ·cases hE1
     ·omega
   have hm : s.step c x ∈ xCk c p b.2 x := List.mem_map.2 ⟨s, List.mem_filter.2 ⟨hs, by simp [hd, hx, hE1]⟩, rfl⟩
   have ha : afterF c p b.2 x = clE c p (xCk c p b.2 x) := by
    unfold afterF
    rw [if_neg (by omega), if_neg (fun e => by rw [e] at hm; cases hm)]
   rw [ha]
   rcases clE_err (c := c) (p := p) (xCk c p b.2 x) with h | h
   ·obtain ⟨m1, m2⟩ := clE_mem h hm
    exact xEr hp l _ _ hok2 hE2 h m1 m2
   ·rw [xDn _ _ (by omega), h]
    exact ⟨.inr rfl, fun e => by cases e⟩
theorem xG0 (hp : Pub p) {l : List Int} (h : c.runE l = 0) : ((watchF c p (xBk c p c.first l)).1 = 0 ∨ (watchF c p (xBk c p c.first l)).1 = 3) ∧ ((watchF c p (xBk c p c.first l)).1 = 0 → ∀ t, (c.runS l)[l.length]? = some t → t ∈ (watchF c p (xBk c p c.first l)).2) := by
 obtain ⟨hc, _, hE⟩ := xGd h
 have hlast : (xBv c c.first l).getLast? = (c.runS l)[l.length]? := by
  rw [List.getLast?_eq_getElem?, xIq h, xC7]
  rfl
 unfold watchF
 rcases clE_err (c := c) (p := p) [c.first] with h0 | h0
 ·obtain ⟨m1, m2⟩ := clE_mem h0 (List.mem_singleton.2 rfl)
  obtain ⟨a, b⟩ := xEr hp l c.first _ (xDe hc) hE h0 m1 m2
  exact ⟨a, fun e t ht => b e t (by rw [hlast, ht]; exact rfl)⟩
 ·rw [xDn _ _ (by omega), h0]
  exact ⟨.inr rfl, fun e => by cases e⟩
theorem verd_mem {R : List Sta} {s : Sta} (hs : s ∈ R) (i : Nat) : xD3 R i = 0 ∨ xD3 R i = xEm (s.marks.getD i Mk.idle).st := by
 cases R with
 | nil => cases hs
 | cons a R =>
  simp only [xD3]
  split
  ·next h =>
   refine .inr ?_
   rcases List.mem_cons.1 hs with rfl | hs
   ·rfl
   ·exact (eq_of_beq (List.all_eq_true.1 h s hs)).symm
  ·exact .inl rfl
end
def PubEq (s t : Sta) : Prop := t.day = s.day ∧ t.hol = s.hol ∧ t.used = s.used
theorem PubEq.refl (s : Sta) : PubEq s s := ⟨rfl, rfl, rfl⟩
theorem PubEq.trans {a b d : Sta} (h : PubEq a b) (g : PubEq b d) : PubEq a d := ⟨g.1.trans h.1, g.2.1.trans h.2.1, g.2.2.trans h.2.2⟩
theorem PubEq.symm {a b : Sta} (h : PubEq a b) : PubEq b a := ⟨h.1.symm, h.2.1.symm, h.2.2.symm⟩
section
variable {c : Con}
theorem act_pub {s t : Sta} (h : PubEq s t) (n : Nat) : PubEq (s.act c n) (t.act c n) := by
 obtain ⟨h1, h2, h3⟩ := h
 unfold Sta.act
 cases c.ac[n]? with
 | none => exact ⟨h1, h2, h3⟩
 | some a =>
  simp only
  rw [h3]
  by_cases q : a.kind ≠ 1 ∧ s.used.getD n false = true
  ·rw [if_pos q, if_pos q]; exact ⟨h1, h2, h3⟩
  ·rw [if_neg q, if_neg q]
   by_cases q2 : a.kind = 1
   ·rw [if_pos q2, if_pos q2]; exact ⟨h1, h2, rfl⟩
   ·rw [if_neg q2, if_neg q2]
    refine ⟨h1, ?_, rfl⟩
    show t.hol.set _ _ = s.hol.set _ _
    rw [h2]
theorem step_pub {s t : Sta} (h : PubEq s t) (x : Int) : PubEq (s.step c x) (t.step c x) := by
 unfold Sta.step
 split
 ·obtain ⟨h1, h2, h3⟩ := h
  exact ⟨by show t.day + 1 = s.day + 1; rw [h1], h2, h3⟩
 ·exact act_pub h _
theorem act_do {s : Sta} {n : Nat} {a : Atc} (ha : c.ac[n]? = some a) (hk : a.kind = 1) : PubEq s (s.act c n) := by
 unfold Sta.act
 rw [ha]
 simp only
 rw [if_neg (by simp [hk]), if_pos hk]
 exact ⟨rfl, rfl, rfl⟩
theorem xFc {s t : Sta} (h : PubEq s t) (hs : SOk c s) (ht : SOk c t) (x : Int) : t.stepE c x = s.stepE c x := by
 unfold Sta.stepE
 rw [xDu.2 hs, xDu.2 ht, h.1]
theorem xHd {p : See} {s t : Sta} (h : PubEq s t) (x : Int) : xCj c p t x = xCj c p s x := by
 unfold xCj
 rw [h.2.1]
theorem hid_pub {p : See} (_hp : Pub p) {s : Sta} {x : Int} (hx : x ∈ hidL c p s) : PubEq s (s.step c x) := by
 unfold hidL at hx
 obtain ⟨n, hn, rfl⟩ := List.mem_map.1 hx
 have h := (List.mem_filter.1 hn).2
 unfold hidA at h
 cases ha : c.ac[n]? with
 | none => rw [ha] at h; cases h
 | some a =>
  rw [ha] at h
  simp only [Bool.and_eq_true, beq_iff_eq] at h
  unfold Sta.step
  rw [if_neg (by omega), Int.toNat_natCast]
  exact act_do ha h.1.1.2
theorem xGu {p : See} {l R : List Sta} (h : ClosP c p l R) (P : Sta → Prop) (h0 : ∀ s ∈ l, P s) (hs : ∀ s, P s → s.day < c.days → ∀ x ∈ hidL c p s, s.stepE c x = 0 → P (s.step c x)) : ∀ s ∈ R, P s := by
 classical
 intro s hs'
 have := h.mn (R.filter fun s => decide (P s)) (fun t ht => List.mem_filter.2 ⟨h.sub t ht, qzO (h0 t ht)⟩) (fun t ht hd x hx hE => by
  obtain ⟨t1, t2⟩ := List.mem_filter.1 ht
  exact List.mem_filter.2 ⟨h.cl t t1 hd x hx hE, qzO (hs t (of_decide_eq_true t2) hd x hx hE)⟩) s hs'
 exact of_decide_eq_true (List.mem_filter.1 this).2
structure Bel (c : Con) (p : See) (s : Sta) (B : List Sta) : Prop where
 srt : B.Pairwise fun a b => a.text < b.text
 n : B.length ≤ 300
 cl : xDm c p B
 tr : s ∈ B
 pub : ∀ t ∈ B, PubEq s t
 ok : ∀ t ∈ B, SOk c t
theorem Bel.clos {p : See} (hp : Pub p) {l R : List Sta} {s : Sta} (h : ClosP c p l R) (hn : R.length ≤ 300) (hs : s ∈ l) (hpub : ∀ _t ∈ l, PubEq s _t) (hok : ∀ _t ∈ l, SOk c _t) : Bel c p s R :=
 ⟨h.srt, hn, h.cl, h.sub s hs, xGu h (fun _t => PubEq s _t) hpub fun _t ht _ _x hx _ => ht.trans (hid_pub hp hx), xGu h (fun _t => SOk c _t) hok fun _t ht _ _x _ hE => xCo ht hE⟩
theorem Bel.hid {p : See} (hp : Pub p) {s : Sta} {B : List Sta} (h : Bel c p s B) {x : Int} (hE : s.stepE c x = 0) (hx : xCj c p s x = false) : Bel c p (s.step c x) B ∧ ∀ t ∈ B, t.step c x ∈ B := by
 have hst : ∀ t ∈ B, t.step c x ∈ B := fun t ht => hid_step hp h.cl (h.ok t ht) ht (by rw [xFc (h.pub t ht) (h.ok s h.tr) (h.ok t ht)]; exact hE) (by rw [xHd (h.pub t ht)]; exact hx)
 exact ⟨⟨h.srt, h.n, h.cl, hst s h.tr, fun t ht => ((h.pub _ (hst s h.tr)).symm).trans (h.pub t ht), h.ok⟩, hst⟩
theorem day_lt {s : Sta} (hs : SOk c s) {x : Int} (hE : s.stepE c x = 0) : s.day < c.days := by
 have := hs.d1
 unfold Sta.stepE at hE
 split at hE
 ·cases hE
 ·split at hE
  ·cases hE
  ·omega
theorem Bel.next {p : See} {s : Sta} {B : List Sta} (h : Bel c p s B) {x : Int} (hE : s.stepE c x = 0) (hx : xCj c p s x = true) : xCk c p B x = B.map fun t => t.step c x := by
 unfold xCk
 congr 1
 refine List.filter_eq_self.2 fun t ht => ?_
 have e := xFc (h.pub t ht) (h.ok s h.tr) (h.ok t ht) x
 rw [hE] at e
 rw [xHd (h.pub t ht), hx, e, qzO (day_lt (h.ok t ht) e)]
 rfl
theorem Bel.see {p : See} (hp : Pub p) {s : Sta} {B R : List Sta} (h : Bel c p s B) {x : Int} (hE : s.stepE c x = 0) (hx : xCj c p s x = true) (hR : ClosP c p (xCk c p B x) R) (hn : R.length ≤ 300) : Bel c p (s.step c x) R := by
 rw [h.next hE hx] at hR
 refine Bel.clos hp hR hn (List.mem_map_of_mem h.tr) (fun t ht => ?_) fun t ht => ?_
 ·obtain ⟨u, hu, rfl⟩ := List.mem_map.1 ht
  exact step_pub (h.pub u hu) x
 ·obtain ⟨u, hu, rfl⟩ := List.mem_map.1 ht
  exact xCo (h.ok u hu) (by rw [xFc (h.pub u hu) (h.ok s h.tr) (h.ok u hu)]; exact hE)
theorem Bel.after {p : See} {s : Sta} {B : List Sta} (h : Bel c p s B) {x : Int} (hE : s.stepE c x = 0) (hx : xCj c p s x = true) : afterF c p B x = clE c p (xCk c p B x) := by
 have hb := xFb hE
 unfold afterF
 rw [if_neg (by omega), if_neg]
 rw [h.next hE hx]
 intro e
 have := List.mem_map_of_mem (f := fun t => t.step c x) h.tr
 rw [e] at this
 cases this
theorem xEo (p : See) (l : List Sta) : (clE c p l = (3, []) ∧ closF c p l = none) ∨ ∃ R, clE c p l = (0, R) ∧ ClosP c p l R ∧ R.length ≤ 300 := by
 unfold clE
 cases h : closF c p l with
 | none => exact .inl ⟨rfl, rfl⟩
 | some R => exact .inr ⟨R, rfl, xC5 h⟩
end
open Go.RowKit
def closB (c : Con) (p : See) (l R : List Sta) : Bool :=
 decide (R.Pairwise fun a b => a.text < b.text) && decide (R.length ≤ 300) && l.all (fun s => decide (s ∈ R)) &&
 R.all (fun s => !decide (s.day < c.days) || (hidL c p s).all fun x => s.stepE c x != 0 || decide (s.step c x ∈ R)) &&
 R.all (fun t => decide (t ∈ l) || l.any fun s => decide (s.day < c.days) && (hidL c p s).any fun x => s.stepE c x == 0 && decide (s.step c x = t))
theorem xI8 {c : Con} {p : See} {l R : List Sta} (h : closB c p l R = true) : ClosP c p l R ∧ R.length ≤ 300 := by
 unfold closB at h
 simp only [Bool.and_eq_true, decide_eq_true_eq] at h
 obtain ⟨⟨⟨⟨h1, h2⟩, h3⟩, h4⟩, h5⟩ := h
 refine ⟨⟨h1, fun s hs => of_decide_eq_true (List.all_eq_true.1 h3 s hs), fun s hs hd x hx hE => ?_, fun S g1 g2 t ht => ?_⟩, h2⟩
 ·have a := List.all_eq_true.1 h4 s hs
  rw [qzO hd] at a
  rw [Bool.not_true, Bool.false_or] at a
  have b := List.all_eq_true.1 a x hx
  rw [hE] at b
  simpa using b
 ·have a := List.all_eq_true.1 h5 t ht
  rw [Bool.or_eq_true] at a
  rcases a with a | a
  ·exact g1 t (of_decide_eq_true a)
  ·obtain ⟨s, hs, b⟩ := List.any_eq_true.1 a
   rw [Bool.and_eq_true] at b
   obtain ⟨x, hx, d⟩ := List.any_eq_true.1 b.2
   rw [Bool.and_eq_true] at d
   have := g2 s (g1 s hs) (of_decide_eq_true b.1) x hx (eq_of_beq d.1)
   rwa [of_decide_eq_true d.2] at this
theorem clE_of {c : Con} {p : See} {l R : List Sta} (h : closB c p l R = true) : clE c p l = (0, R) := by
 obtain ⟨h1, h2⟩ := xI8 h
 unfold clE
 rw [xF4 h1 h2]
theorem xEp {c : Con} {p : See} {R R' : List Sta} {x : Int} (hx : (x == -1 || (decide (0 ≤ x) && decide (x < (c.ac.length : Int)))) = true) (hn : (xCk c p R x).isEmpty = false) (h : closB c p (xCk c p R x) R' = true) : afterF c p R x = (0, R') := by
 unfold afterF
 rw [if_neg, if_neg, clE_of h]
 ·intro e
  rw [e] at hn
  cases hn
 ·intro e
  simp only [Bool.or_eq_true, beq_iff_eq, Bool.and_eq_true, decide_eq_true_eq] at hx
  omega
def accL (c : Con) : Sta → List Int → List Int
 | _, [] => []
 | s, x :: l => if s.stepE c x = 0 then x :: accL c (s.step c x) l else []
theorem accL_run (c : Con) : ∀ (l : List Int) (s : Sta), runE c s (accL c s l) = 0
 | [], _ => rfl
 | x :: l, s => by
  unfold accL
  split
  ·next h => rw [runE, if_pos h]; exact accL_run c l _
  ·rfl
theorem xGx (c : Con) : ∀ (l : List Int) (s : Sta), (accL c s l).length ≤ l.length
 | [], _ => Nat.le_refl _
 | x :: l, s => by
  unfold accL
  split
  ·simp only [List.length_cons]
   have := xGx c l (s.step c x)
   omega
  ·simp
def wC : Con := ⟨3, [0, 1, 2], [], [⟨1, 0, 0, 1, -1, (0, 1)⟩], [⟨4, -1, 0, 1, [], 2, 0, false, false, -1, -1, (0, 1), -1, -1, false⟩], 4, []⟩
def wSee (p : Int) : See := fun hol a => xBo hol p a
def wSt (d : Int) (st left : Int) : Sta := ⟨d, [0, 1, 2], [false], [⟨st, left, 0, -1, false⟩]⟩
theorem w_view1 : xBk wC (wSee 1) wC.first [0, -1, -1] = [0, -1, -1] := by kernel_rfl
theorem w_view2 : xBk wC (wSee 2) wC.first [0, -1, -1] = [-1, -1] := by kernel_rfl
theorem w_watch1 : watchF wC (wSee 1) [0, -1, -1] = (0, [wSt 2 3 0]) := by
 unfold watchF
 rw [clE_of (R := [wSt 0 1 2]) (by kernel_rfl)]
 rw [watchL, if_pos rfl, xEp (R' := [wSt 0 3 0]) (by kernel_rfl) (by kernel_rfl) (by kernel_rfl)]
 rw [watchL, if_pos rfl, xEp (R' := [wSt 1 3 0]) (by kernel_rfl) (by kernel_rfl) (by kernel_rfl)]
 rw [watchL, if_pos rfl, xEp (R' := [wSt 2 3 0]) (by kernel_rfl) (by kernel_rfl) (by kernel_rfl)]
 rfl
theorem w_watch2 : watchF wC (wSee 2) [-1, -1] = (0, [wSt 2 3 0, wSt 2 5 0]) := by
 unfold watchF
 rw [clE_of (R := [wSt 0 1 2, wSt 0 3 0]) (by kernel_rfl)]
 rw [watchL, if_pos rfl, xEp (R' := [wSt 1 1 1, wSt 1 3 0]) (by kernel_rfl) (by kernel_rfl) (by kernel_rfl)]
 rw [watchL, if_pos rfl, xEp (R' := [wSt 2 3 0, wSt 2 5 0]) (by kernel_rfl) (by kernel_rfl) (by kernel_rfl)]
 rfl
abbrev SQ := Sta × Qm
def txt (x : SQ) : List UInt8 := x.1.text
structure Tab (rows : List SQ) (g : List UInt8 → Option Value) : Prop where
 nd : rows.Pairwise fun a b => txt a ≠ txt b
 g : ∀ t v, g t = some v ↔ ∃ x ∈ rows, txt x = t ∧ v = .agg (stA x.1 x.2)
section
variable {rows : List SQ} {g : List UInt8 → Option Value} {c : Con} {p : See} {l F : List Sta}
theorem Tab.nil : Tab [] (fun _ => none) := ⟨List.Pairwise.nil, fun t v => ⟨fun h => (by cases h), fun ⟨x, hx, _⟩ => (by cases hx)⟩⟩
theorem Tab.at_ (h : Tab rows g) {x : SQ} (hx : x ∈ rows) : g (txt x) = some (.agg (stA x.1 x.2)) := (h.g _ _).2 ⟨x, hx, rfl, rfl⟩
theorem Tab.some_ (h : Tab rows g) {t : List UInt8} : (g t).isSome = true ↔ ∃ x ∈ rows, txt x = t := by
 constructor
 ·intro e
  obtain ⟨v, hv⟩ := Option.isSome_iff_exists.1 e
  obtain ⟨x, hx, ht, _⟩ := (h.g t v).1 hv
  exact ⟨x, hx, ht⟩
 ·rintro ⟨x, hx, rfl⟩
  rw [h.at_ hx]
  rfl
theorem Tab.put (h : Tab rows g) {x : SQ} (hn : ∀ y ∈ rows, txt y ≠ txt x) : Tab (rows ++ [x]) (fun t => if t = txt x then some (.agg (stA x.1 x.2)) else g t) := by
 refine ⟨List.pairwise_append.2 ⟨h.nd, List.pairwise_singleton _ _, fun a ha b hb => by rw [List.mem_singleton.1 hb]; exact hn a ha⟩, fun t v => ?_⟩
 by_cases e : t = txt x
 ·subst e
  rw [if_pos rfl]
  constructor
  ·intro hv
   cases hv
   exact ⟨x, by simp, rfl, rfl⟩
  ·rintro ⟨y, hy, hyt, rfl⟩
   rcases List.mem_append.1 hy with hy | hy
   ·exact absurd hyt (hn y hy)
   ·rw [List.mem_singleton.1 hy]
 ·rw [if_neg e, h.g]
  constructor
  ·rintro ⟨y, hy, r⟩
   exact ⟨y, List.mem_append_left _ hy, r⟩
  ·rintro ⟨y, hy, hyt, r⟩
   rcases List.mem_append.1 hy with hy | hy
   ·exact ⟨y, hy, hyt, r⟩
   ·rw [List.mem_singleton.1 hy] at hyt
    exact absurd hyt.symm e
def rest (rows : List SQ) (t : List UInt8) : List SQ := rows.filter fun x => decide (txt x ≠ t)
theorem xB4 {t : List UInt8} {x : SQ} : x ∈ rest rows t ↔ x ∈ rows ∧ txt x ≠ t := by unfold rest; rw [List.mem_filter, decide_eq_true_iff]
theorem Tab.drop (h : Tab rows g) (t : List UInt8) : Tab (rest rows t) (fun x => if x = t then none else g x) := by
 refine ⟨h.nd.filter _, fun u v => ?_⟩
 by_cases e : u = t
 ·subst e
  rw [if_pos rfl]
  exact ⟨fun h => (by cases h), fun ⟨x, hx, hxt, _⟩ => absurd hxt (xB4.1 hx).2⟩
 ·rw [if_neg e, h.g]
  constructor
  ·rintro ⟨x, hx, rfl, r⟩
   exact ⟨x, xB4.2 ⟨hx, e⟩, rfl, r⟩
  ·rintro ⟨x, hx, r⟩
   exact ⟨x, (xB4.1 hx).1, r⟩
theorem xCr {α : Type} [DecidableEq α] : ∀ {a b : List α}, a.Nodup → (∀ x ∈ a, x ∈ b) → a.length ≤ b.length
 | [], _, _, _ => Nat.zero_le _
 | x :: a, b, h, hs => by
  have hx : x ∈ b := hs x (by simp)
  have h2 := List.nodup_cons.1 h
  have := xCr (a := a) (b := b.erase x) h2.2 fun y hy => (List.mem_erase_of_ne (fun e => h2.1 (by rw [← e]; exact hy))).2 (hs y (by simp [hy]))
  rw [List.length_erase_of_mem hx] at this
  have := List.length_pos_of_mem hx
  simp only [List.length_cons]
  omega
theorem Tab.texts (h : Tab rows g) : (rows.map txt).Nodup := List.pairwise_map.2 h.nd
theorem Tab.count (h : Tab rows g) {ks : List (List UInt8)} (hn : ks.Nodup) (hk : ∀ s, s ∈ ks ↔ (g s).isSome = true) : ks.length = rows.length := by
 have hm : ∀ s, s ∈ ks ↔ s ∈ rows.map txt := fun s => by
  rw [hk, h.some_, List.mem_map]
 have h1 := xCr hn fun s hs => (hm s).1 hs
 have h2 := xCr h.texts fun s hs => (hm s).2 hs
 rw [List.length_map] at h1 h2
 omega
theorem xGt {c : Con} (h : c.ok = true) : c.par ≤ 12 ∧ c.days ≤ 2000 ∧ c.hold.length ≤ 12 ∧ c.ac.length ≤ 60 ∧ c.cl.length ≤ 400 := by
 unfold Con.ok Con.lim at h
 simp only [Bool.and_eq_true, decide_eq_true_eq] at h
 obtain ⟨⟨⟨⟨⟨⟨⟨h1, h2⟩, h3⟩, _⟩, h5⟩, h6⟩, _⟩, _⟩ := h
 omega
theorem cla_lim {c : Con} (h : c.ok = true) {k : Cla} (hk : k ∈ c.cl) : k.aft ≤ 400 ∧ k.grace ≤ 400 := by
 have hv := xDa h hk
 unfold Con.ok at h
 simp only [Bool.and_eq_true] at h
 obtain ⟨i, hi⟩ := List.getElem?_of_mem hk
 have h1 := (c.clsOk_iff c.cl 0).1 h.2 i k hi
 unfold Con.claOk at h1
 simp only [Bool.and_eq_true, decide_eq_true_eq] at h1
 obtain ⟨⟨⟨⟨⟨⟨⟨_, _⟩, h3⟩, h4⟩, _⟩, _⟩, _⟩, _⟩ := h1
 refine ⟨h3, ?_⟩
 by_cases e : k.kind = 1
 ·unfold Con.kindOk at h4
  rw [if_neg (by simp [e]), if_pos (by simp [e])] at h4
  simp only [Bool.and_eq_true, decide_eq_true_eq] at h4
  exact h4.2.2
 ·rw [hv.g1 e]; decide
theorem xFd {c : Con} {s : Sta} (h : SOk c s) : s.I64 := by
 obtain ⟨l1, l2, l3, l4, l5⟩ := xGt h.vc
 have d0 := h.d0
 have d1 := h.d1
 refine ⟨⟨by omega, by omega⟩, fun x hx => ?_, fun x hx => ?_⟩
 ·have := h.hr x hx
  exact ⟨by omega, by omega⟩
 ·obtain ⟨i, hi⟩ := List.getElem?_of_mem hx
  have hil : i < s.marks.length := (qzM hi).1
  obtain ⟨k, hk⟩ : ∃ k, c.cl[i]? = some k := ⟨_, qzJ (by rw [← h.m]; exact hil)⟩
  have hv := xDa h.vc (qzK hk)
  obtain ⟨a1, a2⟩ := cla_lim h.vc (qzK hk)
  have hmk := h.mr i k x hk hi
  have n1 := hv.n1
  have g0 := hv.g0
  have run : ∀ {b : Int}, x.left ≤ b → b ≤ 400 → xDb c k x = true → J64 x.left ∧ J64 x.got ∧ J64 x.brr := fun {b} hb h4 hm => by
   unfold xDb at hm
   simp only [Bool.and_eq_true, Bool.not_eq_true', Bool.or_eq_false_iff, Bool.and_eq_false_iff, decide_eq_false_iff_not] at hm
   obtain ⟨⟨⟨⟨_, h1⟩, _⟩, h2⟩, h3⟩ := hm
   have hb3 : -1 ≤ x.brr ∧ x.brr ≤ 12 := by
    split at h3
    ·have : x.brr = -1 := by simpa using h3
     omega
    ·simp only [Bool.and_eq_true, decide_eq_true_eq] at h3
     omega
   have hg : 0 ≤ x.got ∧ x.got ≤ 9 := by
    rcases h2 with h2 | h2
    ·have : x.got = 0 := by simpa using h2
     omega
    ·obtain ⟨⟨_, h5⟩, h6⟩ := h2
     omega
   exact ⟨⟨by omega, by omega⟩, ⟨by omega, by omega⟩, ⟨by omega, by omega⟩⟩
  unfold xBs at hmk
  split at hmk
  ·simp only [Bool.and_eq_true, decide_eq_true_eq] at hmk
   rw [hmk.2]
   exact ⟨by unfold J64; decide, by unfold J64; decide, by unfold J64; decide, by unfold J64; decide⟩
  split at hmk
  ·next e =>
   simp only [Bool.and_eq_true, decide_eq_true_eq] at hmk
   obtain ⟨b1, b2, b3⟩ := run hmk.1 a1 hmk.2
   exact ⟨by rw [e]; unfold J64; decide, b1, b2, b3⟩
  split at hmk
  ·next e =>
   simp only [Bool.and_eq_true, decide_eq_true_eq] at hmk
   obtain ⟨b1, b2, b3⟩ := run hmk.1.2 a2 hmk.2
   exact ⟨by rw [e]; unfold J64; decide, b1, b2, b3⟩
  split at hmk
  ·next e =>
   simp only [Bool.and_eq_true, decide_eq_true_eq, beq_iff_eq] at hmk
   obtain ⟨⟨⟨⟨⟨c1, c2⟩, c3⟩, c4⟩, c5⟩, _⟩ := hmk
   exact ⟨⟨by omega, by omega⟩, ⟨by omega, by omega⟩, ⟨by omega, by omega⟩, ⟨by omega, by omega⟩⟩
  ·cases hmk
structure Way (c : Con) (p : See) (l : List Sta) (rows : List SQ) : Prop where
 mn : ∀ S, (∀ s ∈ l, s ∈ S) → xDm c p S → ∀ x ∈ rows, x.1 ∈ S
theorem Way.add (h : Way c p l rows) {x : SQ} (hx : ∀ S, (∀ s ∈ l, s ∈ S) → xDm c p S → x.1 ∈ S) : Way c p l (rows ++ [x]) := ⟨fun S h1 h2 y hy => by
 rcases List.mem_append.1 hy with hy | hy
 ·exact h.mn S h1 h2 y hy
 ·rw [List.mem_singleton.1 hy]; exact hx S h1 h2⟩
theorem Way.step (h : Way c p l rows) {x : SQ} (hx : x ∈ rows) (hd : x.1.day < c.days) {n : Int} (hn : n ∈ hidL c p x.1) (hE : x.1.stepE c n = 0) : ∀ S, (∀ s ∈ l, s ∈ S) → xDm c p S → x.1.step c n ∈ S :=
 fun S h1 h2 => h2 x.1 (h.mn S h1 h2 x hx) hd n hn hE
theorem Way.many (h : Way c p l rows) (hT : Tab rows g) (hn : 300 < rows.length) : closF c p l = none := by
 refine closF_none fun R hR => ?_
 have hs : ∀ t ∈ rows.map txt, t ∈ R.map Sta.text := fun t ht => by
  obtain ⟨x, hx, rfl⟩ := List.mem_map.1 ht
  exact List.mem_map.2 ⟨x.1, h.mn R hR.sub hR.cl x hx, rfl⟩
 have := xCr hT.texts hs
 rw [List.length_map, List.length_map] at this
 omega
theorem Way.all (h : Way c p l rows) (_hT : Tab rows g) (hn : rows.length ≤ 300) (hl : ∀ s ∈ l, s ∈ rows.map (·.1)) (hC : xDm c p (rows.map (·.1))) (hI : ∀ x ∈ rows, x.1.I64)
  {R : List Sta} (hR : R.Pairwise fun a b => a.text < b.text) (hm : ∀ s ∈ R, s ∈ rows.map (·.1)) (ht : ∀ x ∈ rows, txt x ∈ R.map Sta.text) : closF c p l = some R := by
 have hback : ∀ x ∈ rows, x.1 ∈ R := fun x hx => by
  obtain ⟨s, hs, e⟩ := List.mem_map.1 (ht x hx)
  obtain ⟨y, hy, rfl⟩ := List.mem_map.1 (hm s hs)
  rwa [xG4 (hI y hy) (hI x hx) e] at hs
 have hiff : ∀ s, s ∈ R ↔ s ∈ rows.map (·.1) := fun s => ⟨hm s, fun hs => by
  obtain ⟨x, hx, rfl⟩ := List.mem_map.1 hs
  exact hback x hx⟩
 have hlen : R.length ≤ 300 := by
  have hs : ∀ t ∈ R.map Sta.text, t ∈ rows.map txt := fun t ht => by
   obtain ⟨s, hs, rfl⟩ := List.mem_map.1 ht
   obtain ⟨x, hx, rfl⟩ := List.mem_map.1 (hm s hs)
   exact List.mem_map.2 ⟨x, hx, rfl⟩
  have hnd : (R.map Sta.text).Nodup := List.pairwise_map.2 (hR.imp fun {a b} (hab : a.text < b.text) (e : a.text = b.text) => xEz b (by rw [e] at hab; exact hab))
  have := xCr hnd hs
  rw [List.length_map, List.length_map] at this
  omega
 refine xF4 ⟨hR, fun s hs => (hiff s).2 (hl s hs), fun s hs hd x hx hE => (hiff _).2 (hC s ((hiff s).1 hs) hd x hx hE), fun S h1 h2 s hs => ?_⟩ hlen
 obtain ⟨x, hx, rfl⟩ := List.mem_map.1 (hm s hs)
 exact h.mn S h1 h2 x hx
end
variable {F : Fence} {n : Nat} {P : Program}
theorem xDt {g : Operand} {ps : Array Tmp} {assign body : Code} {Q : Exit → Act → World → Prop} {a : Act} {w : World}
  (hro : F.round = none) (h1 : 1 ≤ n) {gf : Nat} {lb : Array Value} (hg : a.eval g = .func (.func gf) #[] lb) (hFg : F.fn gf) (eg : ∀ args w, (callFunc gf args).run P w = .ok (.enter gf args) w)
  (h : ∀ (l : Nat) (Rec : World → Prop) (RecX : Code → World → Prop), l = w.heap.size + 1 →
   (∀ W W', Rec W → Below (l + 1) W W' → Rec W') → (∀ c W W', RecX c W → Below (l + 1) W W' → RecX c W') → (∀ W, Rec W → l < W.heap.size) →
   (∀ (args : Array Value) (W Wa : World) (a₁ : Act) (I : World → Prop) (X : Code → World → Prop), Rec W → Below W.heap.size W Wa → args.size = ps.size →
    (∀ K : Act → World → Prop, K a₁ Wa → assign.wpIn (F.inRound l) (n - 1 - 1) P (Exit.then K (fun _ _ _ => False)) { tmps := (ps.zip args).foldl (fun t (p, v) => t.setIfInBounds p v) a.tmps, defers := [] } W) →
    (∀ W2, Upd Wa W2 l → body.wpIn (F.inRound l) (n - 1 - 1) P (xFz l w.heap.size W2 I X) a₁ W2) →
    YieldAt F (n - 1 - 1) P l args W fun e W' => (e = .returned (.bool true) ∧ Rec W' ∧ I W') ∨ (e = .returned (.bool false) ∧ ∃ c, RecX c W' ∧ X c W')) →
   ∀ W1, Rec W1 → Below w.heap.size w W1 → W1.heap.size = w.heap.size + 2 →
    CallsIn F (n - 1) P gf (#[.func (.yield l) #[] #[]] ++ lb) W1 fun e W' => (∃ v, e = .returned v) ∧
     ((Rec W' ∧ ∀ W4, Upd W' W4 l → W4.heap[w.heap.size]? = some (.deferred (some [])) → Q .normal { a with defers := { target := .collected w.heap.size, args := #[] } :: a.defers } W4) ∨
      (∃ c, RecX c W' ∧ ∀ W4, Upd W' W4 l → W4.heap[w.heap.size]? = some (.deferred (some [])) → c.wpIn F n P Q { a with defers := { target := .collected w.heap.size, args := #[] } :: a.defers } W4))) :
  (Code.rangeFunc g ps assign body).wpIn F n P Q a w := by
 refine wpIn_rangeFunc ?_
 intro fn hfn
 rw [hro]
 obtain ⟨rec, hrec⟩ : ∃ rec : LoopState → Option Code → Loop, rec = fun st pe => { state := st, pending := pe, fn, tmps := a.tmps, params := ps, assign, body, defers := w.heap.size } := ⟨_, rfl⟩
 obtain ⟨W1, hW1⟩ : ∃ W1, (w.alloc (.deferred (some []))).alloc (.loop (rec .ready none)) = W1 := ⟨_, rfl⟩
 have hL1 : W1.heap[w.heap.size + 1]? = some (.loop (rec .ready none)) := by
  rw [← hW1]; have := World.alloc_heap_new (w.alloc (.deferred (some []))) (.loop (rec .ready none)); rwa [World.size_alloc] at this
 have hK1 : W1.heap[w.heap.size]? = some (.deferred (some [])) := by
  rw [← hW1]; exact (Below.heap_alloc _ _ _ (by simp)).trans (World.alloc_heap_new w _)
 have hb1 : Below w.heap.size w W1 := by
  rw [← hW1]; exact ((Below.refl _ w).alloc (Nat.le_refl _) _).alloc (by simp) _
 have hs1 : W1.heap.size = w.heap.size + 2 := by rw [← hW1]; simp
 refine ⟨w.heap.size + 1, [{ target := .collected w.heap.size, args := #[] }], W1, { target := .fn (.func gf) lb, args := #[.func (.yield (w.heap.size + 1)) #[] #[]] }, W1, gf,
  #[.func (.yield (w.heap.size + 1)) #[] #[]] ++ lb, W1, ?_, ?_, ?_, ?_, fun _ => h1, ?_⟩
 ·rw [← hW1, hrec]; exact run_enterLoop_outer _ _ _ _ _
 ·simp only [resolve, hg]
  simp [go_sem]
 ·intro f' hf'; simp [Target.leads] at hf'; subst hf'; exact hFg
 ·simp [invoke, go_sem, eg]
 ·refine (h (w.heap.size + 1)
   (fun W => W.heap[w.heap.size + 1]? = some (.loop (rec .ready none)) ∧ W.heap[w.heap.size]? = some (.deferred (some [])))
   (fun c W => W.heap[w.heap.size + 1]? = some (.loop (rec .done (some c))) ∧ W.heap[w.heap.size]? = some (.deferred (some []))) rfl
   (fun W W' hr hb => ⟨(hb.block _ (by omega)).trans hr.1, (hb.block _ (by omega)).trans hr.2⟩)
   (fun c W W' hr hb => ⟨(hb.block _ (by omega)).trans hr.1, (hb.block _ (by omega)).trans hr.2⟩)
   (fun W hr => (Array.getElem?_eq_some_iff.1 hr.1).1) ?_ W1 ⟨hL1, hK1⟩ hb1 hs1).mono ?_
  ·
   rintro args W Wa a₁ I X ⟨hl, hk⟩ hba hps hassign hbody
   have hlt0 : w.heap.size + 1 < W.heap.size := (Array.getElem?_eq_some_iff.1 hl).1
   have hlt : w.heap.size + 1 < Wa.heap.size := Nat.lt_of_lt_of_le hlt0 hba.size
   have hlA := (hba.block _ hlt0).trans hl
   have hkA := (hba.block w.heap.size (by omega)).trans hk
   have hy := run_yield (P := P) (args := args) hl (by rw [hrec]; exact hps)
   rw [hrec] at hy
   refine ⟨fn, _, assign, body, hy, roundIn_of_wpIn hfn (hassign _ ⟨_, run_beginRound hlA (by rw [hrec]), ?_⟩)⟩
   have hl2 : (Wa.putObj (w.heap.size + 1) (.loop { rec .ready none with state := .busy })).heap[w.heap.size + 1]? = some (.loop { rec .ready none with state := .busy }) := World.putObj_heap_same hlt
   have hk2 : (Wa.putObj (w.heap.size + 1) (.loop { rec .ready none with state := .busy })).heap[w.heap.size]? = some (.deferred (some [])) := (World.putObj_heap_other (by omega)).trans hkA
   refine wpIn_mono (hbody _ (Upd.putObj _ hlt)) ?_
   have fin : ∀ (jump : Option Code) (W3 : World), W3.heap[w.heap.size + 1]? = some (.loop { rec .ready none with state := .busy }) → W3.heap[w.heap.size]? = some (.deferred (some [])) →
     (Instr.endRound (w.heap.size + 1) jump).run P W3 = .ok (.bool jump.isNone) (W3.putObj (w.heap.size + 1) (.loop (rec (if jump.isNone then .ready else .done) jump))) ∧
     (W3.putObj (w.heap.size + 1) (.loop (rec (if jump.isNone then .ready else .done) jump))).heap[w.heap.size + 1]? = some (.loop (rec (if jump.isNone then .ready else .done) jump)) ∧
     (W3.putObj (w.heap.size + 1) (.loop (rec (if jump.isNone then .ready else .done) jump))).heap[w.heap.size]? = some (.deferred (some [])) ∧
     Upd W3 (W3.putObj (w.heap.size + 1) (.loop (rec (if jump.isNone then .ready else .done) jump))) (w.heap.size + 1) := fun jump W3 hl3 hk3 => by
    have := run_endRound (P := P) jump hl3
    rw [hrec] at this ⊢
    exact ⟨this, World.putObj_heap_same (Array.getElem?_eq_some_iff.1 hl3).1, (World.putObj_heap_other (by omega)).trans hk3, Upd.putObj _ (Array.getElem?_eq_some_iff.1 hl3).1⟩
   rintro e a3 W3 hp
   cases e with
   | normal =>
    obtain ⟨e1, e2, hi3⟩ := hp
    obtain ⟨hr, hl4, hk4, hu⟩ := fin none W3 (e1.trans hl2) (e2.trans hk2)
    exact ⟨_, _, hr, .inl ⟨rfl, ⟨hl4, hk4⟩, hi3 _ hu⟩⟩
   | ret =>
    obtain ⟨e1, e2, hi3⟩ := hp
    obtain ⟨hr, hl4, hk4, hu⟩ := fin (some .ret) W3 (e1.trans hl2) (e2.trans hk2)
    exact ⟨_, _, hr, .inr ⟨rfl, .ret, ⟨hl4, hk4⟩, hi3 _ hu⟩⟩
   | exit id =>
    obtain ⟨e1, e2, hi3⟩ := hp
    obtain ⟨hr, hl4, hk4, hu⟩ := fin (some (.exit id)) W3 (e1.trans hl2) (e2.trans hk2)
    exact ⟨_, _, hr, .inr ⟨rfl, .exit id, ⟨hl4, hk4⟩, hi3 _ hu⟩⟩
   | goto t =>
    obtain ⟨e1, e2, hi3⟩ := hp
    obtain ⟨hr, hl4, hk4, hu⟩ := fin (some (.goto t)) W3 (e1.trans hl2) (e2.trans hk2)
    exact ⟨_, _, hr, .inr ⟨rfl, .goto t, ⟨hl4, hk4⟩, hi3 _ hu⟩⟩
   | panic ch => exact hp.elim
   | outgrown => exact hp.elim
  ·
   rintro e W2 ⟨⟨v, rfl⟩, (⟨⟨hl, hk⟩, hq⟩ | ⟨c, ⟨hl, hk⟩, hq⟩)⟩
   ·exact ⟨none, _, by have := run_endLoop (P := P) hl (by rw [hrec]; simp); rw [hrec] at this; exact this, hq _ (Upd.putObj _ (Array.getElem?_eq_some_iff.1 hl).1) ((World.putObj_heap_other (by omega)).trans hk)⟩
   ·exact ⟨some c, _, by have := run_endLoop (P := P) hl (by rw [hrec]; simp); rw [hrec] at this; exact this, hq _ (Upd.putObj _ (Array.getElem?_eq_some_iff.1 hl).1) ((World.putObj_heap_other (by omega)).trans hk)⟩
end Go.Proofs.YtffceokjeonpcaaGreatDoor
