/- Contracts of functions and plain laws, joined: Uj, Uk, Ul, Um. -/
import Derived.Test.YtginnonjdbpamaaGreatDoorMc26
import Derived.Maps.AppendAt
import Derived.Test.YtginnonjdbpamaaGreatDoorMc9
/- The walk of a reading's start. -/
import Derived.Test.YtginnonjdbpamaaGreatDoorMc1
set_option maxHeartbeats 12800000
set_option maxRecDepth 100000
namespace Go.Proofs.YtginnonjdbpamaaGreatDoor
open Go.RowKit Go.Sort Go.Maps
theorem xDp {w : World} {ops : Array Oper} {rest : List Oper} {o : Oper} {a : Act} {Q : Exit → Act → World → Prop} (hgd : o.guard = none) (s x : Operand) (ho : o.op = .call { callee := .builtin .append, args := #[s, x], argTypes := #[22, 22] })
  (i : TypeInfo) (hi : Tryz.prog.info? 3 = some i) (hz : i.zero = some (.int .i64 0)) (hsize : i.size = 1) (hby : i.bytes = 8)
  (B : Nat) (v : Value) (xs : List Int) (hs : a.eval s = v) (hown : Own w B 3 1 eI v xs) (hl : xs.length ≤ 1000000) (g c : Nat) (y : Int) (hx : a.eval x = .slice (some ⟨g, 0, none⟩) 1 c) (hblk : Blk w g 3 (eI y).toArray) (hbase : B ≤ w.heap.size)
  (h : ∀ v' w', Own w' B 3 1 eI v' (xs ++ [y]) → w.grownBy w' v.ownBlock → (v'.ownBlock = v.ownBlock ∨ v'.ownBlock = some w.heap.size) → wpList Tryz.prog ops Q rest (a.put o.dst v') w') : wpList Tryz.prog ops Q (o :: rest) a w := by
 refine wpList_append_own_at w hgd s x 22 ho B 3 i _ 1 8 Tryz.underlying22 hi hz hsize hby rfl (by decide) v xs.length (xs.flatMap eI) hs hown ⟨g, 0, none⟩ 1 c (eI y) hx rfl ?_ (by intro u hu; simp only [eI, List.mem_cons, List.not_mem_nil, or_false] at hu; subst hu; rfl) (by unfold maxLen; omega) (by omega) hbase ?_
 ·intro j u hu
  have hadd : (⟨g, 0, none⟩ : Addr).add j = ⟨g, j, none⟩ := by unfold Addr.add; split <;> simp_all
  rw [hadd, hblk.cell j]; simpa using hu
 ·intro v' w' h2 h3 _ h5
  refine h v' w' ?_ h3 h5
  unfold Own
  rw [List.length_append, List.flatMap_append]
  simpa using h2
theorem Own.grownN {α : Type} {w w' : World} {B : Nat} {T : TypeId} {size : Nat} {enc : α → List Value} {v v' : Value} {xs : List α} (h : Own w B T size enc v xs) (hg : w.grownBy w' v'.ownBlock) (hne : ∀ x, v.ownBlock = some x → v'.ownBlock ≠ some x) : Own w' B T size enc v xs :=
 h.kept hg (by
  cases hv : v.ownBlock with
  | none => exact .inl rfl
  | some x => exact .inr fun e => hne x hv e.symm)
abbrev Rq.wf (q : Rq) (f : Int → Value) (n : Nat) : Rq := { q with f := f, n := n }
theorem Rdm.grown {w0 w w' : World} {b : Nat} {c : Con} {m : Cm} {r : Rd} {wl : Int → List Int} {q : Rq} {v : Value} {N : Nat} (h : Rdm w0 w b c m r wl q) (hg : w.grownBy w' v.ownBlock) (hv : ∀ x, v.ownBlock = some x → N ≤ x) (hn : w0.heap.size ≤ N) (hq : b < N ∧ q.bc < N ∧ q.h < N ∧ q.a < N ∧ q.k < N ∧ q.o < N ∧ q.mp < N) (hr : ∀ x, q.row x → v.ownBlock ≠ some x) : Rdm w0 w' b c m r wl q :=
 h.keepP (Kept.grown hg) (fun e => by have := hv _ e; omega) (fun e => by have := hv _ e; omega) (fun e => by have := hv _ e; omega) (fun e => by have := hv _ e; omega) (fun e => by have := hv _ e; omega) (fun e => by have := hv _ e; omega) (fun e => by have := hv _ e; omega) (fun x hx e => hr x hx e) (fun x e => by have := hv _ e; omega)
structure QS (q : Rq) (b N : Nat) : Prop where
 b : b < N
 bc : q.bc < N
 h : q.h < N
 a : q.a < N
 k : q.k < N
 o : q.o < N
 mp : q.mp < N
theorem QB.s {q : Rq} {b N : Nat} (h : QB q b N) : QS q b N := ⟨h.b, h.bc, h.h, h.a, h.k, h.o, h.mp⟩
structure SO (w0 w W : World) (b : Nat) (c : Con) (m : Cm) (r : Rd) (q : Rq) (N M : Nat) (v0 : Value) (nn : Nat) (v : Value) (K : List Int) (r' : Rd) (wl : Int → List Int) (f : Int → Value) (n : Nat) : Prop where
 rd : Rdm w0 W b c m r' wl (q.wf f n)
 o : Own W N 3 1 eI v K
 si : RSt c r r'
 wi : WI c r' wl
 ji : JI c r' (K.drop nn)
 kb : ∀ k ∈ K, -1 ≤ k ∧ k < (c.cl.length : Int)
 kl : K.length + xB5 (r'.marks c) ≤ M
 nl : nn ≤ K.length
 nq : n ≤ q.n + nn
 dk : ∀ x, (q.wf f n).row x → v.ownBlock ≠ some x
 wb : ∀ s, (wl s).length ≤ 1000000
 k : Kept w W (fun x => x = q.o ∨ x = q.mp ∨ v0.ownBlock = some x)
 nw : ∀ x, v.ownBlock = some x → v0.ownBlock = some x ∨ w.heap.size ≤ x
structure SN (w0 w W : World) (b : Nat) (c : Con) (m : Cm) (r : Rd) (q : Rq) (N M : Nat) (v0 : Value) (nn : Nat) (s : Int) (wl : Int → List Int) (f : Int → Value) (n : Nat) (p : Nat) (v vr : Value) (K rest : List Int) (r' : Rd) : Prop where
 rd : Rdm w0 W b c m r' wl (q.wf f n)
 o : Own W N 3 1 eI v K
 orr : Own W N 3 1 eI vr rest
 inn : IN c r r' wl K nn s p rest
 kb : ∀ k ∈ K, -1 ≤ k ∧ k < (c.cl.length : Int)
 kl : K.length + xB5 (r'.marks c) ≤ M
 rl : rest.length ≤ p
 dk : ∀ x, (q.wf f n).row x → v.ownBlock ≠ some x
 dr : ∀ x, (q.wf f n).row x → vr.ownBlock ≠ some x
 dd : ∀ x, v.ownBlock = some x → vr.ownBlock ≠ some x
 k : Kept w W (fun x => x = q.o ∨ x = q.mp ∨ v0.ownBlock = some x)
 nw : ∀ x, v.ownBlock = some x → v0.ownBlock = some x ∨ w.heap.size ≤ x
 nr : ∀ x, vr.ownBlock = some x → w.heap.size ≤ x
section
variable {w0 w W W' W2 : World} {b : Nat} {c : Con} {m : Cm} {r : Rd} {q : Rq} {N M : Nat} {v0 : Value} {nn : Nat} {s : Int} {wl : Int → List Int} {f : Int → Value} {n p : Nat} {v vr v' : Value} {K rest : List Int} {r' : Rd} {i : Int}
theorem SN.then_ (h : SN w0 w W b c m r q N M v0 nn s wl f n p v vr K rest r') (hb : Below W.heap.size W W') : SN w0 w W' b c m r q N M v0 nn s wl f n p v vr K rest r' :=
 ⟨h.rd.then_ hb, h.o.below hb, h.orr.below hb, h.inn, h.kb, h.kl, h.rl, h.dk, h.dr, h.dd, h.k.trans (Kept.of_below hb), h.nw, h.nr⟩
theorem SN.old (h : SN w0 w W b c m r q N M v0 nn s wl f n p v vr K rest r') (hb : Below W.heap.size W W') (hi : (wl s)[p]? = some i) {j : Nat} {k : Cla} {x : Out × Cnt} (hn : i = (j : Int)) (hk : c.cl[j]? = some k) (hx : r'.oc[j]? = some x) (hf : 0 ≤ x.1.from_) : SN w0 w W' b c m r q N M v0 nn s wl f n (p + 1) v vr K rest r' :=
 ⟨h.rd.then_ hb, h.o.below hb, h.orr.below hb, h.inn.old hi hn hk hx hf, h.kb, h.kl, by have := h.rl; omega, h.dk, h.dr, h.dd, h.k.trans (Kept.of_below hb), h.nw, h.nr⟩
theorem SN.skip (h : SN w0 w W b c m r q N M v0 nn s wl f n p v vr K rest r') (hq : QS q b N) (hN : w0.heap.size ≤ N) (hi : (wl s)[p]? = some i) {j : Nat} {k : Cla} (hn : i = (j : Int)) (hk : c.cl[j]? = some k) (hc : xCs r' k = false)
  {o : Obj} (hO : Own W2 N 3 1 eI v' (rest ++ [i])) (hg : (W.alloc o).grownBy W2 vr.ownBlock) (hl : v'.ownBlock = vr.ownBlock ∨ v'.ownBlock = some (W.alloc o).heap.size) : SN w0 w W2 b c m r q N M v0 nn s wl f n (p + 1) v v' K (rest ++ [i]) r' := by
 have hb := wa1 W o
 have hs : (W.alloc o).heap.size = W.heap.size + 1 := by simp
 refine ⟨(h.rd.then_ hb).grown hg (fun x e => (World.ownsRow.lt h.orr x e).1) hN ⟨hq.b, hq.bc, hq.h, hq.a, hq.k, hq.o, hq.mp⟩ h.dr, (h.o.below hb).grownN hg h.dd, hO, h.inn.skip hi hn hk hc, h.kb, h.kl, by rw [List.length_append]; have := h.rl; simp; omega, h.dk, fun x hx e => ?_, fun x hx e => ?_, (h.k.trans (Kept.of_below hb)).newer (Kept.grown hg) h.nr, h.nw, fun x e => ?_⟩
 ·rcases hl with e2 | e2
  ·exact h.dr x hx (e2 ▸ e)
  ·rw [e2] at e; cases e; have := h.rd.qb.r _ hx; omega
 ·rcases hl with e2 | e2
  ·exact h.dd x hx (e2 ▸ e)
  ·rw [e2] at e; cases e; have := (World.ownsRow.lt h.o _ hx).2; omega
 ·rcases hl with e2 | e2
  ·exact h.nr x (e2 ▸ e)
  ·rw [e2] at e; cases e; have := h.k.size; omega
theorem SN.go (h : SN w0 w W b c m r q N M v0 nn s wl f n p v vr K rest r') (hg : CGood c) (hcs : xEq c) (hq : QS q b N) (hN : w0.heap.size ≤ N) (hi : (wl s)[p]? = some i) {j : Nat} {k : Cla} {x : Out × Cnt} (hn : i = (j : Int)) (hk : c.cl[j]? = some k) (hx : r'.oc[j]? = some x) (hw : k.waived = false) (hf : x.1.from_ < 0) (hc : xCs r' k = true)
  {o : Obj} (hR : Rdm w0 W' b c m (r'.wo (r'.oc.set j (xB4 k r.hol r.steps x))) wl (q.wf f n)) (hK : Kept W W' (fun y => y = q.o)) (hO : Own W2 N 3 1 eI v' (K ++ [i])) (hgr : (W'.alloc o).grownBy W2 v.ownBlock) (hl : v'.ownBlock = v.ownBlock ∨ v'.ownBlock = some (W'.alloc o).heap.size) :
  SN w0 w W2 b c m r q N M v0 nn s wl f n (p + 1) v' vr (K ++ [i]) rest (r'.wo (r'.oc.set j (xB4 k r.hol r.steps x))) := by
 have hb := wa1 W' o
 have hs : (W'.alloc o).heap.size = W'.heap.size + 1 := by simp
 have hsz := hK.size
 have ho' : Own W' N 3 1 eI v K := h.o.keepP hK (fun y e => by rw [e]; exact hq.o)
 have hr' : Own W' N 3 1 eI vr rest := h.orr.keepP hK (fun y e => by rw [e]; exact hq.o)
 refine ⟨(hR.then_ hb).grown hgr (fun x e => (World.ownsRow.lt h.o x e).1) hN ⟨hq.b, hq.bc, hq.h, hq.a, hq.k, hq.o, hq.mp⟩ h.dk, hO, (hr'.below hb).grownN hgr (fun y e e2 => h.dd y e2 e), h.inn.go hg hcs hi hn hk hx hw hf hc, fun y hy => ?_, ?_, by have := h.rl; omega, fun y hy e => ?_, h.dr, fun y hy e => ?_, ?_, fun y e => ?_, h.nr⟩
 ·rcases List.mem_append.1 hy with hy | hy
  ·exact h.kb y hy
  ·rw [List.mem_singleton.1 hy, hn]
   have := (qzM hk).1
   omega
 ·have := (h.inn.si.go hg hk hx hw hf hc).2
  have := h.kl
  have e : xB5 ((r'.wo (r'.oc.set j (xB4 k r.hol r.steps x))).marks c) + 1 = xB5 (r'.marks c) := (h.inn.si.go hg hk hx hw hf hc).2
  rw [List.length_append]
  simp only [List.length_singleton]
  omega
 ·rcases hl with e2 | e2
  ·exact h.dk y hy (e2 ▸ e)
  ·rw [e2] at e; cases e; have := h.rd.qb.r _ hy; omega
 ·rcases hl with e2 | e2
  ·exact h.dd y (e2 ▸ hy) e
  ·rw [e2] at hy; cases hy; have := (World.ownsRow.lt h.orr _ e).2; omega
 ·refine ⟨fun B hB hs' => ?_, fun y hy hp => ?_⟩
  ·have h1 := h.k.b B hB hs'
   have h2 := hK.b B (fun y e => by rw [e]; exact hB _ (.inl rfl)) (by have := h.k.size; omega)
   have h3 : Below B W' (W'.alloc o) := (Below.refl _ _).alloc (by have := h.k.size; omega) o
   refine ((h1.trans h2).trans h3).trans ⟨hgr.os, hgr.tape, hgr.output, hgr.size, fun z hz => hgr.block z (by have := h.k.size; omega) (fun e => ?_)⟩
   rcases h.nw z e.symm with e3 | e3
   ·have := hB z (.inr (.inr e3)); omega
   ·omega
  ·have l1 := h.k.size
   refine (hgr.block y (by omega) (fun e => ?_)).trans ((hb.block y (by omega)).trans ((hK.k y (by omega) (fun e => hp (.inl e))).trans (h.k.k y hy hp)))
   rcases h.nw y e.symm with e3 | e3
   ·exact hp (.inr (.inr e3))
   ·omega
 ·rcases hl with e2 | e2
  ·exact h.nw y (e2 ▸ e)
  ·rw [e2] at e; cases e; have := h.k.size; exact .inr (by omega)
theorem SN.fin (h : SN w0 w W b c m r q N M v0 nn s wl f n p v vr K rest r') (hq : QS q b N) (hN : w0.heap.size ≤ N) (hp : (wl s).length ≤ p) (hp2 : p ≤ 1000000) (hwb : ∀ s, (wl s).length ≤ 1000000) (hnq : n ≤ q.n + nn) (hM : MapF W' q.mp (n + 1) (fun y => if y = s then vr else f y)) (hu : Upd W W' q.mp) :
  SO w0 w W' b c m r q N M v0 (nn + 1) v K r' (fun x => if x = s then rest else wl x) (fun y => if y = s then vr else f y) (n + 1) := by
 obtain ⟨h1, h2⟩ := h.inn.fin hp
 obtain ⟨hl, _⟩ := qzM h.inn.kn
 have nmv : ∀ x, v.ownBlock = some x → x ≠ q.mp := fun x e => by have := (World.ownsRow.lt h.o x e).1; have := hq.mp; omega
 have nmr : ∀ x, vr.ownBlock = some x → x ≠ q.mp := fun x e => by have := (World.ownsRow.lt h.orr x e).1; have := hq.mp; omega
 have hrow : ∀ x, (q.wf (fun y => if y = s then vr else f y) (n + 1)).row x → (q.wf f n).row x ∨ vr.ownBlock = some x := fun x ⟨k, hk⟩ => by
  by_cases e : k = s
  ·have : (if k = s then vr else f k).ownBlock = some x := hk
   rw [if_pos e] at this; exact .inr this
  ·have : (if k = s then vr else f k).ownBlock = some x := hk
   rw [if_neg e] at this; exact .inl ⟨k, this⟩
 refine ⟨⟨h.rd.g.upd hu h.rd.bm, h.rd.gc.upd hu h.rd.mc.symm, h.rd.oh.upd hu (by intro k hk; cases hk; exact h.rd.mh.symm), h.rd.oa.upd hu (by intro k hk; cases hk; exact h.rd.ma.symm), h.rd.ok.upd hu (by intro k hk; cases hk; exact h.rd.mk_.symm), h.rd.oo.upd hu (by intro k hk; cases hk; exact h.rd.mo.symm), hM, fun k => ?_, fun k k' x hne hx hx' => ?_, fun hx => ?_, h.rd.hb.trans (hu.b _ h.rd.lb.2.2), h.rd.lb, h.rd.bb, h.rd.cn, h.rd.lo, h.rd.lh, h.rd.la⟩, h.o.upd hu nmv, h.inn.si, h1, h2, h.kb, h.kl, by omega, by omega, fun x hx e => ?_, fun y => ?_, ?_, h.nw⟩
 ·by_cases e : k = s
  ·have e1 : (q.wf (fun y => if y = s then vr else f y) (n + 1)).f k = vr := if_pos e
   show Own W' w0.heap.size 3 1 eI ((q.wf (fun y => if y = s then vr else f y) (n + 1)).f k) (if k = s then rest else wl k)
   rw [e1, if_pos e]
   exact (h.orr.upd hu nmr).more hN
  ·have e1 : (q.wf (fun y => if y = s then vr else f y) (n + 1)).f k = f k := if_neg e
   show Own W' w0.heap.size 3 1 eI ((q.wf (fun y => if y = s then vr else f y) (n + 1)).f k) (if k = s then rest else wl k)
   rw [e1, if_neg e]
   exact (h.rd.ol k).upd hu fun x hx => h.rd.rowM ⟨k, hx⟩
 ·have hx : (if k = s then vr else f k).ownBlock = some x := hx
  have hx' : (if k' = s then vr else f k').ownBlock = some x := hx'
  by_cases e : k = s <;> by_cases e' : k' = s
  ·omega
  ·rw [if_pos e] at hx
   rw [if_neg e'] at hx'
   exact h.dr x ⟨k', hx'⟩ hx
  ·rw [if_neg e] at hx
   rw [if_pos e'] at hx'
   exact h.dr x ⟨k, hx⟩ hx'
  ·rw [if_neg e] at hx
   rw [if_neg e'] at hx'
   exact h.rd.ap k k' x hne hx hx'
 ·rcases hrow _ hx with hx | hx
  ·exact h.rd.ah hx
  ·have h1 : N ≤ q.h := (World.ownsRow.lt h.orr _ hx).1
   have := hq.h
   show False
   omega
 ·rcases hrow x hx with hx | hx
  ·exact h.dk x hx e
  ·exact h.dd x e hx
 ·show (if y = s then rest else wl y).length ≤ _
  split
  ·have := h.rl; omega
  ·exact hwb y
 ·exact h.k.trans (Kept.of_upd hu (.inr (.inl rfl)))
theorem SO.inner (h : SO w0 w W b c m r q N M v0 nn v K r' wl f n) (hn : K[nn]? = some s) : SN w0 w W b c m r q N M v0 nn s wl f n 0 v (.slice none 0 0) K [] r' :=
 ⟨h.rd, h.o, Own.nil _ _ _ _ _, IN.start h.si h.wi h.ji hn, h.kb, h.kl, Nat.le_refl _, h.dk, fun x _ e => (by cases e), fun x _ e => (by cases e), h.k, h.nw, fun x e => (by cases e)⟩
theorem SO.then_ (h : SO w0 w W b c m r q N M v0 nn v K r' wl f n) (hb : Below W.heap.size W W') : SO w0 w W' b c m r q N M v0 nn v K r' wl f n :=
 ⟨h.rd.then_ hb, h.o.below hb, h.si, h.wi, h.ji, h.kb, h.kl, h.nl, h.nq, h.dk, h.wb, h.k.trans (Kept.of_below hb), h.nw⟩
end
end Go.Proofs.YtginnonjdbpamaaGreatDoor
/- The walk of a reading's start. -/
namespace Go.Proofs.YtginnonjdbpamaaGreatDoor
open Go.RowKit Go.Sort Go.Maps
structure StRes (w0 w w' : World) (b : Nat) (c : Con) (m : Cm) (r : Rd) (q : Rq) (v0 : Value) (len M : Nat) : Prop where
 x : ∃ wl f n, Rdm w0 w' b c m (r.startR c) wl (q.wf f n) ∧ WI c (r.startR c) wl ∧ n ≤ q.n + M ∧ ∀ s, (wl s).length ≤ 1000000
 k : Kept w w' (fun x => x = q.o ∨ x = q.mp ∨ v0.ownBlock = some x)
 f : FInv c (r.startR c)
theorem xF2 (w0 : World) (b : Nat) (c : Con) (m : Cm) (r : Rd) (wl : Int → List Int) (q : Rq) (v0 : Value) (K0 : List Int) (N M : Nat) (w : World) (hW : Rdm w0 w b c m r wl q) (hO : Own w N 3 1 eI v0 K0) (hQ : QS q b N) (hdk : ∀ x, q.row x → v0.ownBlock ≠ some x) (hN : w0.heap.size ≤ N) (hNw : N ≤ w.heap.size) (hok : c.ok = true) (hcs : xEq c) (hci : CIs c) (hI : RInv c r) (hF : FInv c r) (hWI : WI c r wl) (hJ : JI c r K0) (hkb : ∀ k ∈ K0, -1 ≤ k ∧ k < (c.cl.length : Int)) (hM : K0.length + xB5 (r.marks c) ≤ M) (hM2 : M ≤ 1000000) (hqn : q.n ≤ 1000000000000) (hwb : ∀ s, (wl s).length ≤ 1000000) :
  Calls Tryz.prog 87 #[.pointer (some ⟨b, 0, none⟩), v0] w fun e w' => e = .returned (.tuple #[]) ∧ StRes w0 w w' b c m r q v0 K0.length M := by
 have HOK := qzL hok
 have HCS := qzL hcs
 have HCI := qzL hci
 have HI := qzL hI
 have HQ := qzL hQ
 have nk := hW.cn.nk
 have HLO := qzL hW.lo
 have HLH := qzL hW.lh
 obtain ⟨i3, hi3, hz30, hz31, hz32⟩ := info_parts (show (Tryz.prog.info? 3).map (fun i => (i.zero, i.size, i.bytes)) = some (some (.int .i64 0), 1, 8) by kernel_rfl)
 have h0 : Hid (SO w0 w w b c m r q N M v0 0 v0 K0 r wl q.f q.n) := ⟨hW, hO, RSt.refl hI hF, hWI, by rw [List.drop_zero]; exact hJ, hkb, hM, Nat.zero_le _, Nat.le_refl _, hdk, hwb, Kept.refl _ _, fun x e => .inl e⟩
 clear hW hO hQ hdk hok hcs hci hI hF hWI hJ hkb hM hwb
 go_enter Tryz.func87, Tryz.ntmps87
 go_upto_region 1 with (fail)
 go_loopw [1, 4] (fun v y WR => ∃ (nn : Nat) (K : List Int) (r' : Rd) (wl' : Int → List Int) (f' : Int → Value) (n' : Nat), y = .int .i64 nn ∧ Hid (SO w0 w WR b c m r q N M v0 nn v K r' wl' f' n')) (fun _ y _ => 3000000 - (intOf y).toNat)
 case atStart => exact ⟨0, K0, r, wl, q.f, q.n, rfl, h0⟩
 case round =>
  clear h0
  obtain ⟨nn, K, r', wl', f', n', rfl, hS⟩ := hrel
  obtain ⟨A1, c1, e1, hc1, hm1, hseg1, _, _, _⟩ := hS.out.o.segz xAz
  have hKl : K.length ≤ 1000000 := by have := hS.out.kl; omega
  have hnl := hS.out.nl
  subst e1
  by_cases hlt : nn < K.length
  case neg =>
   have tl : decide ((nn : Int) < (K.length : Int)) = false := qzN (by omega)
   go_wp2
   go_end0
   have hS := hS.out
   have hd : K.drop nn = [] := List.drop_of_length_le (by omega)
   have hsh := hS.ji.shut hd
   have e := hS.si.fin (xCa HOK.out) HI.out hsh
   have hrd := hS.rd
   have hwi := hS.wi
   have hff := hS.si.f
   rw [e] at hrd hwi hff
   exact ⟨rfl, ⟨wl', f', n', hrd, hwi, by have := hS.nq; have := hS.kl; omega, hS.wb⟩, hS.k, hff⟩
  have tl : decide ((nn : Int) < (K.length : Int)) = true := qzO (by omega)
  obtain ⟨s, hs⟩ : ∃ s, K[nn]? = some s := ⟨_, qzJ hlt⟩
  have hsb := hS.out.kb s (qzK hs)
  have hsI : Hid (I64 s) := by unfold Hid; omega
  obtain ⟨b1, o1, eA1, hb1, hcc1⟩ := xAx hseg1 hs
  have hix1 := fun W => xAq (t := 22) (size := 1) (cap := c1) (len := K.length) eA1 hlt (by kernel_rfl) (fun W => by kernel_rfl) W
  have x1 : wr.cell? ⟨b1, o1 + nn, none⟩ = some (.int .i64 s) := by have := hcc1 0 _ rfl; simpa using this
  have k12 : wr.cell? ⟨b, 12, none⟩ = some (.map (some q.mp)) := hS.out.rd.g.cell 12
  obtain ⟨A2, c2, e2, hc2, hm2, hseg2, _, _, _⟩ := (hS.out.rd.ol s).segz xAz
  have e2' : f' s = .slice A2 (wl' s).length c2 := e2
  have hlk : ∀ d os, (Instr.lookup 81 (.map (some q.mp)) (.int .i64 s) false).run Tryz.prog (grow (redrawn wr d) os) = .ok (.slice A2 (wl' s).length c2) (grow (redrawn wr d) os) := fun d os => by
   have h1 : MapF (grow (redrawn wr d) os) q.mp n' f' := hS.out.rd.mp.keep ((below_regrown wr d os).block _ hS.out.rd.mp.lt)
   rw [← e2']
   exact h1.look hsI.out
  have hwl := hS.out.wb s
  have hSI := qzL (hS.out.inner hs)
  have HS0 := qzL hs
  have HSEG2 := qzL hseg2
  have HE2 := qzL e2'
  clear hs hcc1 hseg1 hseg2 e2 e2' eA1 hb1
  go_upto_region 4 with (fail)
  have rg0 := cR k12
  have rg1 := cR x1
  refine xAe [0, 1, 2, 3, 4, 5, 6, 7, 8, 9, 10] [] (by kernel_rfl) (by kernel_rfl) pO ?_
  simp only [xAm, qzA, qzB, qzC, qzD, qzE, qzF]
  repeat (go_big_quiet_step (skip))
  refine wpQuiet_nil ?_
  intro Z hw2
  have hbZ := xAh hw2
  clear hw2 rg0 rg1
  have hSN := qzL (hSI.out.then_ hbZ)
  have hSEG := qzL ((HSEG2.out.below hbZ).more hbZ.size)
  have lZ := hbZ.size
  clear k12 x1 hlk hix1 hbZ HSEG2 hSI
  have hS2 : Hid (SO w0 w wr b c m r q N M v0 nn (.slice A1 K.length c1) K r' wl' f' n') := hS
  clear hS
  go_upto_region 5 with (fail)
  go_loopw [1, 5, 25] (fun v vr y WR => ∃ (p : Nat) (K' rest : List Int) (r2 : Rd), y = .int .i64 p ∧ p ≤ (wl' s).length ∧ Hid (SN w0 w WR b c m r q N M v0 nn s wl' f' n' p v vr K' rest r2)) (fun _ _ y _ => 3000000 - (intOf y).toNat)
  case atStart => exact ⟨0, K, [], r', rfl, by omega, hSN⟩
  case round =>
   clear hSN
   obtain ⟨p, K', rest, r2, rfl, hp, hN1⟩ := hrel
   have hKl' : K'.length ≤ 1000000 := by have := hN1.out.kl; omega
   have hpl : p ≤ 1000000 := by omega
   by_cases hlp : p < (wl' s).length
   case neg =>
    have tl2 : decide ((p : Int) < ((wl' s).length : Int)) = false := qzN (by omega)
    obtain ⟨A3, c3, e3, hc3, hm3, hseg3, _, _, _⟩ := hN1.out.o.segz xAz
    subst e3
    have hks := hN1.out.inn.kn
    have hkl3 := (qzM hks).1
    obtain ⟨b1, o1, eA1, hb1, hcc1⟩ := xAx hseg3 hks
    have hix1 := fun W => xAq (t := 22) (size := 1) (cap := c3) (len := K'.length) eA1 hkl3 (by kernel_rfl) (fun W => by kernel_rfl) W
    have HE1 : Hid (∀ X, Below wr.heap.size wr X → X.cell? ⟨b1, o1 + nn, none⟩ = some (.int .i64 s)) := fun X hb => by
     have h1 : wr.cell? ⟨b1, o1 + nn, none⟩ = some (.int .i64 s) := by have := hcc1 0 _ rfl; simpa using this
     exact (hb.cell (p := ⟨b1, o1 + nn, none⟩) hb1).trans h1
    have k12 : wr.cell? ⟨b, 12, none⟩ = some (.map (some q.mp)) := hN1.out.rd.g.cell 12
    have x1 := HE1.out _ (Below.refl _ _)
    clear hseg3 hcc1 eA1 HE1
    go_upto_region 16 with (fail)
    have rg0 := cR k12
    have rg1 := cR x1
    refine xAe [0, 1, 2, 3, 4, 5, 6, 7, 8] [9] (by kernel_rfl) (by kernel_rfl) pO ?_
    simp only [xAm, qzA, qzB, qzC, qzD, qzE, qzF]
    repeat (go_big_quiet_step (skip))
    refine wpQuiet_nil ?_
    intro Y hw2
    have hbY := xAh hw2
    clear hw2 rg0 rg1
    have hY := qzL (hN1.out.then_ hbY)
    have hMF := hY.out.rd.mp
    have hnn : n' ≤ q.n + nn := hS2.out.nq
    clear k12 x1 hbY hix1
    go_wp2_with (refine xDo rfl (.tmp 98) (.tmp 102) (.tmp 103) rfl q.mp n' f' s _ rfl rfl rfl hMF hsI.out (by unfold maxLen; omega) ?_; intro w9 hM9 hU9)
    go_roundw
    case rel => exact ⟨nn + 1, K', r2, _, _, n' + 1, by simp, hY.out.fin HQ.out hN (by omega) hpl hS2.out.wb hnn hM9 hU9⟩
    case measure => simp [intOf]; omega
   have tl2 : decide ((p : Int) < ((wl' s).length : Int)) = true := qzO (by omega)
   obtain ⟨i, hi⟩ : ∃ i, (wl' s)[p]? = some i := ⟨_, qzJ hlp⟩
   obtain ⟨n, k, x, hin, hk, hx, hw, _⟩ := hN1.out.inn.at_ hi
   subst hin
   have hol : Own wr w0.heap.size 3 1 eI (.slice A2 (wl' s).length c2) (wl' s) := by
    have h := hN1.out.rd.ol s
    rw [show (q.wf f' n').f s = .slice A2 (wl' s).length c2 from HE2.out] at h
    exact h
   obtain ⟨_, _, hsg, _, _⟩ := hol.segS xAz
   obtain ⟨b2, o2, eA2, hb2, hcc2⟩ := xAx hsg hi
   have hix2 := fun W => xAq (t := 22) (size := 1) (cap := c2) (len := (wl' s).length) eA2 hlp (by kernel_rfl) (fun W => by kernel_rfl) W
   have x2 : wr.cell? ⟨b2, o2 + p, none⟩ = some (.int .i64 (n : Int)) := by have := hcc2 0 _ rfl; simpa using this
   have hncl : n < c.cl.length := (qzM hk).1
   have hnoc : n < r2.oc.length := (qzM hx).1
   have no2 := hN1.out.rd.no
   have HRD := qzL (readyR_any w0 b c m r2 wl' (q.wf f' n') n k wr hN1.out.rd hk HCS.out HCI.out)
   have hrl := hN1.out.rl
   have lwr : N ≤ wr.heap.size := by have := hN1.out.k.size; omega
   have hs2 : Hid (r2.steps = r.steps ∧ r2.hol = r.hol) := by unfold Hid; rw [hN1.out.inn.si.s]; exact ⟨rfl, rfl⟩
   have HI2 := qzL hi
   have HK := qzL hk
   have HX := qzL hx
   have HWV := qzL hw
   have hix := fun W => xAy (t := 37) (size := 5) (g := q.o) (cap := q.oc) hnoc (by kernel_rfl) (fun W => by kernel_rfl) W
   clear hi hk hx hw hol hsg hcc2 eA2 hb2
   obtain ⟨rb, hrb⟩ : ∃ z, xCs r2 k = z := ⟨_, rfl⟩
   rw [hrb] at HRD
   have HRB := qzL hrb
   clear hrb
   cases rb with
   | false =>
    have hr6 : rest.length ≤ 1000000 := by omega
    go_wp2_with (first | (go_at_call 112; (with_reducible refine HRD.out.mono ?_); rintro e w1 ⟨rfl, hb1'⟩; have HN2 := qzL (hN1.out.then_ hb1'); have lw1 : N ≤ w1.heap.size := (by have := hb1'.size; omega)) | (at_builtin; refine xDp rfl (.tmp 33) (.tmp 35) rfl i3 hi3 hz30 hz31 hz32 N _ rest rfl (HN2.out.orr.alloc _) hr6 _ 1 (n : Int) rfl (Blk.new _ _ _) (by simp; omega) ?_; intro v' w2 hO2 hg2 hl2))
    go_roundw
    case rel => exact ⟨p + 1, K', _, r2, by simp, by omega, HN2.out.skip HQ.out hN HI2.out rfl HK.out HRB.out hO2 hg2 hl2⟩
    case measure => simp [intOf]; omega
   | true =>
   go_upto_region 9 with (go_at_call 112; (with_reducible refine HRD.out.mono ?_); rintro e w1 ⟨rfl, hb1'⟩)
   refine xAf ?_
   intro V hV
   have hbV : Below wr.heap.size wr V := by rw [hV]; exact hb1'
   have HBV := qzL hbV
   have HN2 := qzL (hN1.out.then_ hbV)
   clear hV hb1' hbV HRD x2 hix2
   have k14 : V.cell? ⟨b, 14, none⟩ = some (.slice (some ⟨q.o, 0, none⟩) r2.oc.length q.oc) := HN2.out.rd.g.cell 14
   obtain ⟨⟨y0, g0⟩, ⟨y1, g1⟩, ⟨y2, g2⟩, ⟨y3, g3⟩, ⟨y4, g4⟩⟩ := HN2.out.rd.out HX.out
   by_cases hf : 0 ≤ x.1.from_
   ·have tf := qzO hf
    go_wp2
    go_roundw
    case rel => exact ⟨p + 1, K', rest, r2, by simp, by omega, hN1.out.old HBV.out HI2.out rfl HK.out HX.out hf⟩
    case measure => simp [intOf]; omega
   have tf := qzN hf
   have HF := qzL (show x.1.from_ < 0 by omega)
   go_upto_region 10 with (fail)
   have k7 : V.cell? ⟨b, 7, none⟩ = some (.int .i64 r2.steps) := HN2.out.rd.g.cell 7
   clear y0 y1 y2 y3 y4 g0 g1 g2 g3 g4
   have rg0 := cR k14
   have rg1 := cR k7
   refine xBk [9] [0, 1, 2, 3, 4, 5, 6, 7, 8, 10, 11, 12, 13] [14, 15, 16, 17, 18, 19] (by kernel_rfl) (by kernel_rfl) pO ?_
   simp only [xAm, qzA, qzB, qzC, qzD, qzE, qzF]
   repeat (go_big_quiet_step (skip))
   refine wpQuiet_nil ?_
   intro X hw2
   have hbX := xAh hw2
   clear hw2 rg0 rg1
   have HRX := qzL (HN2.out.rd.then_ hbX)
   have HKX : Hid (Kept V X (fun y => y = q.o)) := Kept.of_below hbX
   clear k14 k7 hbX
   obtain ⟨⟨y0, g0⟩, ⟨y1, g1⟩, _⟩ := HRX.out.out HX.out
   go_upto_region 11 with (fail)
   refine xAf ?_
   intro Y hY
   have HRY : Hid (Rdm w0 Y b c m (r2.wo (r2.oc.set n ({ x.1 with st := 1, from_ := r2.steps }, x.2))) wl' (q.wf f' n')) := by
    rw [hY]
    have h1 := HRX.out.setO (j := 0) (y := { x.1 with st := 1 }) (v := .int .i64 1) HX.out (by omega) rfl
    have h2 := h1.setO (i := n) (j := 1) (x := ({ x.1 with st := 1 }, x.2)) (y := { x.1 with st := 1, from_ := r2.steps }) (v := .int .i64 r2.steps) (List.getElem?_set_self hnoc) (by omega) rfl
    have e9 : ∀ (a d : Out × Cnt), (r2.oc.set n a).set n d = r2.oc.set n d := fun a d => List.set_set _
    unfold Rd.wo at h2 ⊢
    simp only [e9] at h2
    refine qzL ?_
    simpa using h2
   have HKY : Hid (Kept V Y (fun y => y = q.o)) := by rw [hY]; exact (HKX.out.setCell rfl).setCell rfl
   clear hY y0 y1 g0 g1 HRX HKX
   obtain ⟨kx, hkx, hkk⟩ := xCv HRY.out.cn.e HK.out
   subst hkk
   obtain ⟨b3, o3, eA3, hb3, hcc3⟩ := xAx (HRY.out.cn.k.below HRY.out.hb) hkx
   have hix3 := fun W => xAq (t := 25) (size := 16) (cap := m.kc) eA3 hncl (by kernel_rfl) (fun W => by kernel_rfl) W
   have hrg : Y.rangeAt b3 (o3 + n * 16) (kL kx) := fun j v hv => hcc3 j v hv
   have k4 : Y.cell? ⟨b, 4, none⟩ = some (.slice m.k c.cl.length m.kc) := HRY.out.g.cell 4
   have hkv := qzL (xDr HOK.out (qzK HK.out)).r
   clear hkx hcc3 eA3 hb3
   go_upto_region 12 with ((refine xAo 52 el16 _ _ _ rfl rfl rfl rfl rfl rfl rfl rfl rfl b3 _ rfl (kL kx) rfl hrg (by simp [Value.oneCell']) (by decide) (by simp) (by simp) ?_; simp only [Act.put, qzG, qzH, qzI]))
   refine xAf ?_
   intro U hU
   have gx : Blk U Y.heap.size 52 (kL kx).toArray := by rw [hU]; exact Blk.new _ _ _
   have hbU : Below Y.heap.size Y U := by rw [hU]; exact wa1 _ _
   obtain ⟨bx, ex⟩ : ∃ b, Y.heap.size = b := ⟨_, rfl⟩
   rw [ex] at gx ⊢
   have HRU := qzL (HRY.out.then_ hbU)
   have HKU : Hid (Kept V U (fun y => y = q.o)) := HKY.out.trans (Kept.of_below hbU)
   clear hU ex hbU hrg hix3 k4 HRY HKY
   have x0 : U.cell? ⟨bx, 0, none⟩ = some (.int .i64 kx.k.kind) := gx.cell 0
   have x1 : U.cell? ⟨bx, 1, none⟩ = some (.int .i64 kx.k.role) := gx.cell 1
   have hxu : (r2.wo (r2.oc.set n ({ x.1 with st := 1, from_ := r2.steps }, x.2))).oc[n]? = some ({ x.1 with st := 1, from_ := r2.steps }, x.2) := List.getElem?_set_self hnoc
   have HXU := qzL hxu
   clear gx hxu
   go_upto_if 74 with (fail)
   go_cut [] from 26 to 94 (fun W => Hid (Rdm w0 W b c m (r2.wo (r2.oc.set n (xB4 kx.k r.hol r.steps x))) wl' (q.wf f' n')) ∧ Hid (Kept V W (fun y => y = q.o)))
   case first =>
    by_cases h4 : kx.k.kind = 4
    ·have t4 : (kx.k.kind != 4) = false := by simp [h4]
     have hr9 := HRU.out
     rw [show ({ x.1 with st := 1, from_ := r2.steps }, x.2) = xB4 kx.k r.hol r.steps x from by unfold xB4; rw [if_pos h4, hs2.out.1]] at hr9
     have HR9 := qzL hr9
     clear h4 hr9
     go_wp2
     go_meet
     case rel => exact ⟨HR9, HKU⟩
    ·have t4 : (kx.k.kind != 4) = true := by simpa using h4
     obtain ⟨hr0, hr1⟩ := hkv.out h4
     obtain ⟨rn, hrn⟩ : ∃ z : Nat, kx.k.role = (z : Int) := ⟨kx.k.role.toNat, by omega⟩
     have hrl2 : rn < r2.hol.length := by rw [hs2.out.2, HLH.out]; omega
     obtain ⟨dv, hdv⟩ : ∃ z, r2.hol[rn]? = some z := ⟨_, qzJ hrl2⟩
     have nh2 : r2.hol.length ≤ 1000000 := HRU.out.nh
     have hlv : Hid (({ x.1 with st := 1, from_ := r2.steps, brr := dv }, x.2) = xB4 kx.k r.hol r.steps x) := by
      unfold Hid xB4 xD2
      rw [if_neg h4, hs2.out.1, hrn, Int.toNat_natCast, ← hs2.out.2, List.getD_eq_getElem?_getD, hdv]
      rfl
     obtain ⟨y0, _⟩ := HRU.out.holAt (n := rn) hdv
     have k9 : U.cell? ⟨b, 9, none⟩ = some (.slice (some ⟨q.h, 0, none⟩) r2.hol.length q.hc) := HRU.out.g.cell 9
     have k14 : U.cell? ⟨b, 14, none⟩ = some (.slice (some ⟨q.o, 0, none⟩) r2.oc.length q.oc) := by have := HRU.out.g.cell 14; simpa using this
     have hixh := fun W => xAy (t := 22) (size := 1) (g := q.h) (cap := q.hc) hrl2 (by kernel_rfl) (fun W => by kernel_rfl) W
     simp only [Nat.mul_one] at hixh
     rw [hrn] at x1
     clear h4 hr0 hr1 hrn hdv x0
     go_upto_region 13 with (fail)
     have rg0 := cR k14
     have rg1 := cR k9
     have rg2 := cR x1
     have rg3 := cR y0
     refine xAe [0, 1, 2, 3, 4, 5, 6, 7, 8, 9, 10, 11, 12] [13, 14, 15] (by kernel_rfl) (by kernel_rfl) pO ?_
     simp only [xAm, qzA, qzB, qzC, qzD, qzE, qzF]
     repeat (go_big_quiet_step (skip))
     refine wpQuiet_nil ?_
     intro X hw2
     have hbX := xAh hw2
     clear hw2 rg0 rg1 rg2 rg3
     have HRX := qzL (HRU.out.then_ hbX)
     have HKX : Hid (Kept V X (fun y => y = q.o)) := HKU.out.trans (Kept.of_below hbX)
     clear k14 k9 x1 y0 hbX
     obtain ⟨_, _, _, _, z4, g4⟩ := HRX.out.out HXU.out
     have h3 := HRX.out.setO (j := 4) (y := { x.1 with st := 1, from_ := r2.steps, brr := dv }) (v := .int .i64 dv) HXU.out (by omega) rfl
     have e9 : ∀ (a d : Out × Cnt), (r2.oc.set n a).set n d = r2.oc.set n d := fun a d => List.set_set _
     unfold Rd.wo at h3
     simp only [e9] at h3
     rw [hlv.out] at h3
     have HR9 := qzL h3
     have HK9 := qzL (HKX.out.setCell (g := q.o) (o := n * 5 + 4) (v := .int .i64 dv) rfl)
     clear h3 e9
     go_wp2
     go_meet
     case rel => exact ⟨HR9, HK9⟩
   case rest =>
   obtain ⟨HR9, HK9⟩ := hcut
   have hOk : Hid (Own wc N 3 1 eI u1 K') := HN2.out.o.keepP HK9.out (fun y e => by rw [e]; exact HQ.out.o)
   have lwc : N ≤ wc.heap.size := by have h1 := HK9.out.size; have h2 := HBV.out.size; omega
   clear x0 x1 HRU HKU HXU hkv
   go_wp2_with (at_builtin; refine xDp rfl (.tmp 90) (.tmp 92) rfl i3 hi3 hz30 hz31 hz32 N _ K' rfl (hOk.out.alloc _) hKl' _ 1 (n : Int) rfl (Blk.new _ _ _) (by simp; omega) ?_; intro v' w2 hO2 hg2 hl2)
   go_roundw
   case rel => exact ⟨p + 1, _, rest, _, by simp, by omega, HN2.out.go (xCa HOK.out) HCS.out HQ.out hN HI2.out rfl HK.out HX.out HWV.out HF.out HRB.out HR9.out HK9.out hO2 hg2 hl2⟩
   case measure => simp [intOf]; omega
end Go.Proofs.YtginnonjdbpamaaGreatDoor
/- The walk of a reading's step. -/
namespace Go.Proofs.YtginnonjdbpamaaGreatDoor
open Go.RowKit Go.Sort Go.Maps
def GInv (r : Rd) : Prop := ∀ (i : Nat) x, r.oc[i]? = some x → 0 ≤ x.1.got ∧ x.1.got ≤ 9
theorem GInv.zip {c : Con} {r r' : Rd} {f : Cla → Out × Cnt → Out × Cnt} (h : GInv r) (hi : RInv c r) (ho : r'.oc = List.zipWith f c.cl r.oc) (hf : ∀ k p, k ∈ c.cl → 0 ≤ p.1.got ∧ p.1.got ≤ 9 → (p.1.runs = true → k.kind = 1 → p.1.got < k.need) → 0 ≤ (f k p).1.got ∧ (f k p).1.got ≤ 9) : GInv r' := by
 intro j x hx
 rw [ho, List.getElem?_zipWith] at hx
 cases hk : c.cl[j]? with
 | none => rw [hk] at hx; simp at hx
 | some k =>
  cases hp : r.oc[j]? with
  | none => rw [hk, hp] at hx; simp at hx
  | some p =>
   rw [hk, hp] at hx
   cases hx
   exact hf k p (qzK hk) (h j p hp) (hi.inv j k p hk hp).2.1
theorem GInv.startR {c : Con} {r : Rd} (h : GInv r) : GInv (r.startR c) := by
 intro j x hx
 have hx : (List.zipWith (xBi r.steps) (xAs c r.hol (r.marks c)) r.oc)[j]? = some x := hx
 rw [List.getElem?_zipWith] at hx
 cases hm : (xAs c r.hol (r.marks c))[j]? with
 | none => rw [hm] at hx; simp at hx
 | some m =>
  cases hp : r.oc[j]? with
  | none => rw [hm, hp] at hx; simp at hx
  | some p =>
   rw [hm, hp] at hx
   cases hx
   have := h j p hp
   unfold xBi
   split <;> exact this
theorem GInv.tickW {c : Con} {r : Rd} (h : GInv r) (hi : RInv c r) : GInv (r.tickW c) := h.zip hi (f := xBn (decide (r.day ∈ c.off)) r.steps) rfl fun k p _ hp _ => by
 show 0 ≤ (xB3 _ _ k p.1 p.2).1.got ∧ (xB3 _ _ k p.1 p.2).1.got ≤ 9
 unfold xB3
 repeat' split
 all_goals exact hp
theorem GInv.actA {c : Con} {r : Rd} {n : Nat} {a : Atc} (h : GInv r) (hi : RInv c r) (hok : c.ok = true) : GInv (r.actA c n a) := h.zip hi (f := actP (n : Int) (xA7 a r.hol) r.steps (a.takes r n)) rfl fun k p hk hp hg => by
 have hn := (xDr hok hk).n1
 show 0 ≤ (actO _ _ _ _ k p.1 p.2).1.got ∧ (actO _ _ _ _ k p.1 p.2).1.got ≤ 9
 unfold actO
 split
 ·exact hp
 ·next hr =>
  have hr : p.1.runs = true := by cases h : p.1.runs with | true => rfl | false => exact absurd h hr
  show 0 ≤ (if a.takes r n = true ∧ k.act = (n : Int) then xAu (xA7 a r.hol) r.steps k p.1 p.2 else p.1).got ∧ (if a.takes r n = true ∧ k.act = (n : Int) then xAu (xA7 a r.hol) r.steps k p.1 p.2 else p.1).got ≤ 9
  split
  ·unfold xAu
   split
   ·exact hp
   ·split
    ·next h1 =>
     have := hg hr h1
     split
     ·show 0 ≤ p.1.got + 1 ∧ p.1.got + 1 ≤ 9
      omega
     ·show 0 ≤ p.1.got + 1 ∧ p.1.got + 1 ≤ 9
      omega
    ·split
     ·split <;> exact hp
     ·exact hp
  ·exact hp
theorem GInv.actW {c : Con} {r : Rd} {n : Nat} {a : Atc} (h : GInv r) (hi : RInv c r) (hok : c.ok = true) : GInv (r.actW c n a) := by
 have h1 := h.actA (n := n) (a := a) hi hok
 unfold Rd.actW
 split
 ·exact h1
 ·intro j x hx
  by_cases h3 : a.kind = 3
  ·rw [if_pos h3] at hx
   obtain ⟨k, p, _, hp, rfl⟩ := novW_oc hx
   have := h1 j p hp
   unfold xBb
   split <;> exact this
  ·rw [if_neg h3] at hx
   exact h1 j x hx
structure RG (c : Con) (r : Rd) (wl : Int → List Int) : Prop where
 i : RInv c r
 f : FInv c r
 w : WI c r wl
 s : Shut c (r.marks c)
 g : GInv r
 b : ∀ s, (wl s).length ≤ 1000000
abbrev Rq.pS (q : Rq) (b x : Nat) : Prop := x = b ∨ x = q.a ∨ x = q.o ∨ x = q.k ∨ x = q.h ∨ x = q.mp
theorem ok_cl {c : Con} (h : c.ok = true) : c.cl.length ≤ 400 ∧ c.ac.length ≤ 60 ∧ c.days ≤ 2000 := by
 unfold Con.ok Con.lim at h
 simp only [Bool.and_eq_true, decide_eq_true_eq] at h
 exact ⟨h.1.1.2, h.1.1.1.2, h.1.1.1.1.1.1.2⟩
structure StepR (w0 w w' : World) (b : Nat) (c : Con) (m : Cm) (r' : Rd) (q : Rq) : Prop where
 x : ∃ wl f n, Rdm w0 w' b c m r' wl (q.wf f n) ∧ RG c r' wl ∧ n ≤ q.n + 1000
 k : Kept w w' (q.pS b)
theorem StepR.mk_ {w0 w w1 w2 w' : World} {b : Nat} {c : Con} {m : Cm} {r1 r' : Rd} {q : Rq} {v0 : Value} {len M : Nat} {p : Nat → Prop} (hok : c.ok = true) (h : StRes w0 w2 w' b c m r1 q v0 len M) (hr : r1.startR c = r') (hi : RInv c r1) (hg : GInv r1) (hM : M ≤ 1000) (hk : Kept w w1 (q.pS b)) (hk1 : Kept w1 w2 p) (hp : ∀ x, p x → q.pS b x) (hv : ∀ x, v0.ownBlock = some x → w1.heap.size ≤ x) : StepR w0 w w' b c m r' q := by
 obtain ⟨wl, f, n, h1, h2, h3, h4⟩ := h.x
 have hS := xCi (xCa hok) hi
 have hI := (xBm hi (xCa hok).k (xCa hok).n).2
 have hf := h.f
 have hgs := hg.startR (c := c)
 rw [hr] at h1 h2 hS hI hf hgs
 refine ⟨⟨wl, f, n, h1, ⟨hI, hf, h2, hS, hgs, h4⟩, by omega⟩, ?_⟩
 have ka := (hk.trans (hk1.weak hp))
 refine ⟨fun B hB hs => (ka.b B hB hs).trans (h.k.b B (fun x hx => ?_) (by have := ka.size; omega)), fun x hx hpx => (h.k.k x (by have := ka.size; omega) (fun e => ?_)).trans (ka.k x hx hpx)⟩
 ·rcases hx with e | e | e
  ·exact hB x (.inr (.inr (.inl e)))
  ·exact hB x (.inr (.inr (.inr (.inr (.inr e)))))
  ·have := hv x e; have := hk.size; omega
 ·rcases e with e | e | e
  ·exact hpx (.inr (.inr (.inl e)))
  ·exact hpx (.inr (.inr (.inr (.inr (.inr e)))))
  ·have := hv x e; have := hk.size; omega
theorem stepR_any (w0 : World) (b : Nat) (c : Con) (m : Cm) (r : Rd) (wl : Int → List Int) (q : Rq) (x : Int) (w : World) (hW : Rdm w0 w b c m r wl q) (hok : c.ok = true) (hcs : xEq c) (hci : CIs c) (hG : RG c r wl) (hst : r.steps ≤ 1000000) (hday : 0 ≤ r.day ∧ r.day ≤ 1000000) (hx : -1 ≤ x ∧ x < (c.ac.length : Int)) (hqn : q.n ≤ 1000000000000) :
  Calls Tryz.prog 62 #[.pointer (some ⟨b, 0, none⟩), .int .i64 x] w fun e w' => e = .returned (.tuple #[]) ∧ StepR w0 w w' b c m (r.step c x) q := by
 have HW := qzL hW
 have HOK := qzL hok
 have HCS := qzL hcs
 have HCI := qzL hci
 have HG := qzL hG
 have hs0 := hG.i.s0
 have hcl := ok_cl hok
 have k7 : w.cell? ⟨b, 7, none⟩ = some (.int .i64 r.steps) := hW.g.cell 7
 have f7 : w.frozen? ⟨b, 7, none⟩ = false := hW.g.frozen 7
 have hIB := qzL (xD3 hG.i)
 have hSB : Hid (Shut c (r.bump.marks c)) := hG.s
 have HST := qzL (fun (W : World) (r1 : Rd) (v0 : Value) (K0 : List Int) (N : Nat) (hW : Rdm w0 W b c m r1 wl q) (hO : Own W N 3 1 eI v0 K0) (hQ : QB q b N) (hN : w0.heap.size ≤ N) (hNw : N ≤ W.heap.size) (hi : RInv c r1) (hp : Pst r.bump r1) (he : EndL c r.bump r1 K0) => xF2 w0 b c m r1 wl q v0 K0 N 1000 W hW hO hQ.s (fun x hx e => by have := (World.ownsRow.lt hO x e).1; have := hQ.r x hx; omega) hN hNw hok hcs hci hi (hp.finv (finv_bump hG.f)) (hp.wi ⟨hG.w.a, hG.w.b⟩) (hp.ji (xD3 hG.i) hi hcs hG.s he) (fun k hk => by obtain ⟨n, e, hn⟩ := he.b k hk; omega) (by have := he.n; have := xDi (r1.marks c); rw [xBw hi.len] at this; omega) (by omega) hqn hG.b)
 clear hW hok hcs hci hG
 go_enter Tryz.func62, Tryz.ntmps62
 by_cases hx1 : x = -1
 ·subst hx1
  go_upto_region 4 with (fail)
  refine xAf ?_
  intro X hX
  have HRX : Hid (Rdm w0 X b c m r.bump wl q) := by rw [hX]; exact HW.out.setSteps _
  have HKX : Hid (Kept w X (q.pS b)) := by rw [hX]; exact (Kept.refl w _).setCell (.inl rfl)
  clear hX k7 f7
  have HT := qzL (tickR_any w0 b c m r.bump wl q X (-1) HRX.out HOK.out hIB.out hday)
  have hinv := qzL (xHb (xCa HOK.out) hIB.out)
  have hgt := qzL (GInv.tickW (r := r.bump) (show GInv r.bump from HG.out.g) hIB.out)
  have hQX := qzL HRX.out.qb
  go_wp2_with (first | (go_at_call 89; (with_reducible refine HT.out.mono ?_); rintro e w1 ⟨v0, L, rfl, hr1, hk1, ho1, he1⟩; have HS1 := qzL (HST.out w1 _ v0 L X.heap.size hr1 ho1 hQX.out HRX.out.hb.size hk1.size hinv.out.1 hinv.out.2 he1); have HO1 := qzL ho1; have HK1 := qzL hk1; clear hr1 hk1 ho1 he1) | (go_at_call 87; (with_reducible refine HS1.out.mono ?_); rintro e w2 ⟨rfl, hres⟩))
  go_end0
  refine ⟨rfl, StepR.mk_ (r' := r.step c (-1)) HOK.out hres ?_ hinv.out.1 hgt.out (Nat.le_refl _) HKX.out HK1.out (fun y e => ?_) (fun y e => (World.ownsRow.lt HO1.out y e).1)⟩
  ·unfold Rd.step
   rw [if_pos rfl]
   rfl
  ·rcases e with e | e | e
   ·exact .inl e
   ·exact .inr (.inr (.inl e))
   ·exact .inr (.inr (.inr (.inl e)))
 ·obtain ⟨n, rfl⟩ : ∃ n : Nat, x = (n : Int) := ⟨x.toNat, by omega⟩
  have hnl : n < c.ac.length := by omega
  obtain ⟨a, ha⟩ : ∃ a, c.ac[n]? = some a := ⟨_, qzJ hnl⟩
  have HA := qzL ha
  have HX1 := qzL hx1
  have tx : ((n : Int) == -1) = false := beq_eq_false_iff_ne.2 (by omega)
  clear ha hx1
  go_upto_region 4 with (fail)
  refine xAf ?_
  intro X hX
  have HRX : Hid (Rdm w0 X b c m r.bump wl q) := by rw [hX]; exact HW.out.setSteps _
  have HKX : Hid (Kept w X (q.pS b)) := by rw [hX]; exact (Kept.refl w _).setCell (.inl rfl)
  clear hX k7 f7
  have HT := qzL (actR_any w0 b c m r.bump wl q n a X HRX.out HOK.out hIB.out HA.out (fun i y hy => by have := HG.out.g i y hy; omega))
  have hinv := qzL (xG8 (xCa HOK.out) (xD6 HOK.out) hIB.out HA.out)
  have hgt := qzL (GInv.actW (r := r.bump) (n := n) (a := a) (show GInv r.bump from HG.out.g) hIB.out HOK.out)
  have hQX := qzL HRX.out.qb
  go_wp2_with (first | (go_at_call 88; (with_reducible refine HT.out.mono ?_); rintro e w1 ⟨v0, L, rfl, hr1, hk1, ho1, he1⟩; have HS1 := qzL (HST.out w1 _ v0 L X.heap.size hr1 ho1 hQX.out HRX.out.hb.size hk1.size hinv.out.1 hinv.out.2.1 he1); have HO1 := qzL ho1; have HK1 := qzL hk1; clear hr1 hk1 ho1 he1) | (go_at_call 87; (with_reducible refine HS1.out.mono ?_); rintro e w2 ⟨rfl, hres⟩))
  go_end0
  refine ⟨rfl, StepR.mk_ (r' := r.step c (n : Int)) HOK.out hres ?_ hinv.out.1 hgt.out (Nat.le_refl _) HKX.out HK1.out (fun y e => ?_) (fun y e => (World.ownsRow.lt HO1.out y e).1)⟩
  ·unfold Rd.step
   rw [if_neg HX1.out, Int.toNat_natCast, act_W HA.out]
  ·rcases e with e | e | e | e
   ·exact .inr (.inl e)
   ·exact .inr (.inr (.inl e))
   ·exact .inr (.inr (.inr (.inl e)))
   ·exact .inr (.inr (.inr (.inr (.inl e))))
end Go.Proofs.YtginnonjdbpamaaGreatDoor
/- Operations of a region that come up in whatever order, one invariant for all orders. -/
namespace Go.Proofs.YtginnonjdbpamaaGreatDoor
open Go.RowKit Go.Sort
def subs : List Nat → List (List Nat)
 | [] => [[]]
 | x :: l => subs l ++ (subs l).map (x :: ·)
theorem xG1 : ∀ {r l : List Nat}, r.Sublist l → r ∈ subs l
 | _, [], h => by rw [List.sublist_nil.1 h]; simp [subs]
 | r, x :: l, h => by
  rcases List.sublist_cons_iff.1 h with h2 | ⟨r', rfl, h2⟩
  ·exact List.mem_append_left _ (xG1 h2)
  ·exact List.mem_append_right _ (List.mem_map.2 ⟨r', xG1 h2, rfl⟩)
def lstF (n : Nat) (un : List Nat) : Array Bool := (Array.range n).map fun j => !un.contains j
theorem lstF_set {n i : Nat} {r later : List Nat} (hn : r.Nodup) (_hi : i ∈ r) (hl : i ∉ later) : (lstF n (r ++ later)).setIfInBounds i true = lstF n (r.erase i ++ later) := by
 unfold lstF
 refine Array.ext (by simp) fun j h1 h2 => ?_
 have hj : j < n := by simpa using h2
 rw [Array.getElem_setIfInBounds (by simpa using hj)]
 simp only [Array.getElem_map, Array.getElem_range]
 by_cases e : i = j
 ·subst e
  rw [if_pos rfl]
  have h3 : i ∉ r.erase i := fun h => ((List.Nodup.mem_erase_iff hn).1 h).1 rfl
  simp [h3, hl]
 ·rw [if_neg e]
  have h3 : j ∈ r.erase i ↔ j ∈ r := List.mem_erase_of_ne (fun h => e h.symm)
  simp [List.contains_eq_mem, h3]
section
variable {P : Program} {ops : Array Oper} {md : Region.Mode} {S : World → Prop} {Q : Exit → Act → World → Prop} {hs ts : List Nat}
theorem wpHB_set {later rem : List Nat} {f : Nat} (Inv : List Nat → Act → World → Prop) (hnd : rem.Nodup) (hlt : ∀ i ∈ rem, i ∉ later) (hin : ∀ i ∈ rem, hs.contains i = true)
  (hready : ((subs rem).all fun r => r == [] || Region.ready md ops (lstF ops.size (r ++ later)) == r) = true)
  (hstep : ∀ r a w, r.Sublist rem → S w → Inv r a w → ∀ i ∈ r, ∃ o, ops[i]? = some o ∧ ∀ K' : Act → World → Prop, _root_.Go.Shut (∀ a w, S w → Inv (r.erase i) a w → K' a w) → if Region.wanted o (yielded ops a.tmps) = true then Oper.wp P o a w K' Q else K' (a.put o.dst undef) w)
  (hend : ∀ a w, S w → Inv [] a w → wpHB P md ops Q S hs ts f (lstF ops.size later) a w) :
  ∀ (k : Nat) (r : List Nat), r.length = k → r.Sublist rem → ∀ a w, S w → Inv r a w → wpHB P md ops Q S hs ts (f + k) (lstF ops.size (r ++ later)) a w
 | 0, r, hk, hr, a, w, hS, hI => by
  obtain rfl : r = [] := List.eq_nil_of_length_eq_zero hk
  exact hend a w hS hI
 | k + 1, r, hk, hr, a, w, hS, hI => by
  have hne : r ≠ [] := fun e => by rw [e] at hk; simp at hk
  have h1 := List.all_eq_true.1 hready r (xG1 hr)
  have h2 : Region.ready md ops (lstF ops.size (r ++ later)) = r := by
   rcases Bool.or_eq_true_iff.1 h1 with h | h
   ·exact absurd (eq_of_beq h) hne
   ·exact eq_of_beq h
  refine xAr (f := f + k) h2 hne fun i hi => ⟨hin i (hr.subset hi), ?_⟩
  obtain ⟨o, ho, hs'⟩ := hstep r a w hr hS hI i hi
  refine wpOp_step ho (fun K' hK => hs' K' (fun a' w' hS' hI' => hK a' w' ⟨hS', ?_⟩))
  rw [lstF_set (hnd.sublist hr) hi (hlt i (hr.subset hi))]
  exact wpHB_set Inv hnd hlt hin hready hstep hend k (r.erase i) (by rw [List.length_erase_of_mem hi, hk]; rfl) ((List.erase_sublist).trans hr) a' w' hS' hI'
end
end Go.Proofs.YtginnonjdbpamaaGreatDoor
