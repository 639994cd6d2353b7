/- Contracts of functions and plain laws, joined: Uo. -/
import Derived.Test.YtginnonjdbpamaaGreatDoorMc29
/- A reading while it is made: clauses that wait, put on lists. -/
import Derived.Test.YtginnonjdbpamaaGreatDoorMc1
namespace Go.Proofs.YtginnonjdbpamaaGreatDoor
open Go.RowKit Go.Sort Go.Maps
abbrev Zoc : Out × Cnt := (⟨0, 0, 0, 0, 0⟩, ⟨0, false⟩)
abbrev Con.rz (c : Con) : Rd := ⟨0, 0, c.hold, List.replicate c.ac.length false, List.replicate c.cl.length Zoc⟩
abbrev Con.rE (c : Con) (e : Nat) : Rd := c.rz.wo (mixP (fun k _ => out0 k) c.cl c.rz.oc e)
section
variable {w0 w w' : World} {b : Nat} {c : Con} {m : Cm} {r : Rd} {wl : Int → List Int} {q : Rq}
theorem Rdm.setWhole (h : Rdm w0 w b c m r wl q) {i : Nat} {x : Out × Cnt} (y : Out) (hx : r.oc[i]? = some x) : Rdm w0 (w.setCells q.o (i * 5) (eO y)) b c m (r.wo (r.oc.set i (y, x.2))) wl q := by
 have hi := (qzM hx).1
 have hx1 : (r.oc.map (·.1))[i]? = some x.1 := by rw [List.getElem?_map, hx]; rfl
 have hx2 : (r.oc.map (·.2))[i]? = some x.2 := by rw [List.getElem?_map, hx]; rfl
 have u : Upd w (w.setCells q.o (i * 5) (eO y)) q.o := Upd.setCells _ _ _ (Upd.refl _ _)
 refine h.updO u (.inl rfl) List.length_set ?_ ?_
 ·have h2 := h.oo.setPart xDf (List.length_map _) (k := i) (j := 0) (y := y) (vs := eO y) hx1 (by simp [eO]) rfl
  rw [List.map_set]
  exact h2
 ·rw [List.map_set, show (r.oc.map (·.2)).set i x.2 = r.oc.map (·.2) from by
   refine List.ext_getElem? fun n => ?_
   by_cases e : i = n
   ·subst e; rw [List.getElem?_set_self (by rw [List.length_map]; exact hi), hx2]
   ·rw [List.getElem?_set_ne e]]
  exact h.ok.upd u (by intro k hk; cases hk; exact h.ko)
theorem Rdm.there (h : Rdm w0 w b c m r wl q) {i : Nat} {x : Out × Cnt} (hx : r.oc[i]? = some x) : w.there q.o (i * 5) 5 := by
 have hx1 : (r.oc.map (·.1))[i]? = some x.1 := by rw [List.getElem?_map, hx]; rfl
 exact h.oo.there xDf (List.length_map _) hx1 (j := 0) (by omega)
end
structure BL (w W : World) (b : Nat) (c : Con) (m : Cm) (q : Rq) (N e i cnt : Nat) (D : Int → Prop) (v : Value) (K : List Int) (wl : Int → List Int) (f : Int → Value) (n : Nat) : Prop where
 rd : Rdm w W b c m (c.rE e) wl (q.wf f n)
 o : Own W N 3 1 eI v K
 a : ∀ s x, x ∈ wl s → ∃ (j : Nat) (k : Cla), x = (j : Int) ∧ c.cl[j]? = some k ∧ k.waived = false ∧ xDv k s
 b : ∀ (j : Nat) k, c.cl[j]? = some k → k.waived = false → ∀ s, xDv k s → (j < i ∨ (j = i ∧ D s)) → (j : Int) ∈ wl s
 kb : ∀ x ∈ K, -1 ≤ x ∧ x < (c.cl.length : Int)
 kl : K.length ≤ e + 1
 k1 : (-1 : Int) ∈ K
 kw : ∀ (j : Nat) k, c.cl[j]? = some k → k.waived = true → j < i → (j : Int) ∈ K
 nb : n ≤ cnt
 wb : ∀ s, (wl s).length ≤ cnt
 dk : ∀ x, (q.wf f n).row x → v.ownBlock ≠ some x
 rr : ∀ x, (q.wf f n).row x → N ≤ x
section
variable {w W W2 W3 : World} {b : Nat} {c : Con} {m : Cm} {q : Rq} {N e i cnt : Nat} {D : Int → Prop} {v v' : Value} {K : List Int} {wl : Int → List Int} {f : Int → Value} {n : Nat} {s : Int} {k : Cla}
theorem BL.then_ (h : BL w W b c m q N e i cnt D v K wl f n) (hb : Below W.heap.size W W2) : BL w W2 b c m q N e i cnt D v K wl f n :=
 ⟨h.rd.then_ hb, h.o.below hb, h.a, h.b, h.kb, h.kl, h.k1, h.kw, h.nb, h.wb, h.dk, h.rr⟩
theorem BL.wd {D' : Int → Prop} (h : BL w W b c m q N e i cnt D v K wl f n) (hd : ∀ x, D' x → D x) : BL w W b c m q N e i cnt D' v K wl f n :=
 ⟨h.rd, h.o, h.a, fun j k h1 h2 s h3 h4 => h.b j k h1 h2 s h3 (h4.imp id fun ⟨a, b⟩ => ⟨a, hd _ b⟩), h.kb, h.kl, h.k1, h.kw, h.nb, h.wb, h.dk, h.rr⟩
theorem BL.lay (h : BL w W b c m q N e i cnt D v K wl f n) (hR : Rdm w W2 b c m (c.rE (e + 1)) wl (q.wf f n)) (hK : Kept W W2 (fun x => x = q.o)) (hq : q.o < N) : BL w W2 b c m q N (e + 1) i cnt D v K wl f n :=
 ⟨hR, h.o.keepP hK (fun y e => by rw [e]; exact hq), h.a, h.b, h.kb, by have := h.kl; omega, h.k1, h.kw, h.nb, h.wb, h.dk, h.rr⟩
theorem BL.next (h : BL w W b c m q N e i cnt D v K wl f n) (hk : c.cl[i]? = some k) (hD : k.waived = false → ∀ s, xDv k s → D s) (hKw : k.waived = true → (i : Int) ∈ K) : BL w W b c m q N e (i + 1) cnt (fun _ => False) v K wl f n :=
 ⟨h.rd, h.o, h.a, fun j k' h1 h2 s' h3 h4 => by
  rcases h4 with h4 | ⟨_, h4⟩
  ·by_cases e : j = i
   ·subst e
    rw [hk] at h1
    cases h1
    exact h.b j k hk h2 s' h3 (.inr ⟨rfl, hD h2 s' h3⟩)
   ·exact h.b j k' h1 h2 s' h3 (.inl (by omega))
  ·exact h4.elim, h.kb, h.kl, h.k1, fun j k' h1 h2 h3 => by
   by_cases e : j = i
   ·subst e
    rw [hk] at h1
    cases h1
    exact hKw h2
   ·exact h.kw j k' h1 h2 (by omega), h.nb, h.wb, h.dk, h.rr⟩
theorem BL.known (h : BL w W b c m q N e i cnt D v K wl f n) (hN : w.heap.size ≤ N) (hq : b < N ∧ q.bc < N ∧ q.h < N ∧ q.a < N ∧ q.k < N ∧ q.o < N ∧ q.mp < N) (hi : i < c.cl.length) (hke : K.length ≤ e)
  {o : Obj} (hO : Own W2 N 3 1 eI v' (K ++ [(i : Int)])) (hg : (W.alloc o).grownBy W2 v.ownBlock) (hl : v'.ownBlock = v.ownBlock ∨ v'.ownBlock = some (W.alloc o).heap.size) : BL w W2 b c m q N e i cnt D v' (K ++ [(i : Int)]) wl f n := by
 have hb := wa1 W o
 have hs : (W.alloc o).heap.size = W.heap.size + 1 := by simp
 refine ⟨(h.rd.then_ hb).grown hg (fun x e => (World.ownsRow.lt h.o x e).1) hN hq h.dk, hO, h.a, h.b, fun x hx => ?_, by rw [List.length_append]; simp; omega, List.mem_append_left _ h.k1, fun j k' h1 h2 h3 => List.mem_append_left _ (h.kw j k' h1 h2 h3), h.nb, h.wb, fun x hx e => ?_, h.rr⟩
 ·rcases List.mem_append.1 hx with hx | hx
  ·exact h.kb x hx
  ·rw [List.mem_singleton.1 hx]; omega
 ·rcases hl with e2 | e2
  ·exact h.dk x hx (e2 ▸ e)
  ·rw [e2] at e; cases e; have := h.rd.qb.r _ hx; omega
theorem BL.put (h : BL w W b c m q N e i cnt D v K wl f n) (hq : b < N ∧ q.bc < N ∧ q.h < N ∧ q.a < N ∧ q.k < N ∧ q.o < N ∧ q.mp < N) (hk : c.cl[i]? = some k) (hw : k.waived = false) (hws : xDv k s)
  {o : Obj} (hO : Own W2 w.heap.size 3 1 eI v' (wl s ++ [(i : Int)])) (hg : (W.alloc o).grownBy W2 (f s).ownBlock) (hl : v'.ownBlock = (f s).ownBlock ∨ v'.ownBlock = some (W.alloc o).heap.size) (hM : MapF W3 q.mp (n + 1) (fun y => if y = s then v' else f y)) (hu : Upd W2 W3 q.mp) (hN : N ≤ W.heap.size) :
  BL w W3 b c m q N e i (cnt + 1) (fun x => D x ∨ x = s) v K (fun x => if x = s then wl s ++ [(i : Int)] else wl x) (fun y => if y = s then v' else f y) (n + 1) := by
 have hb := wa1 W o
 have hs : (W.alloc o).heap.size = W.heap.size + 1 := by simp
 have hrs : ∀ x, (f s).ownBlock = some x → N ≤ x := fun x hx => h.rr x ⟨s, hx⟩
 have keep : ∀ x, x < W.heap.size → (f s).ownBlock ≠ some x → x ≠ q.mp → W3.heap[x]? = W.heap[x]? := fun x hx h1 h2 => (hu.f x h2).trans ((hg.block x (by omega) (fun e => h1 e.symm)).trans (hb.block x hx))
 have keepS : ∀ x, x < N → x ≠ q.mp → W3.heap[x]? = W.heap[x]? := fun x hx h2 => keep x (by omega) (fun e => by have := hrs x e; omega) h2
 have hv' : ∀ x, v'.ownBlock = some x → (f s).ownBlock = some x ∨ x = W.heap.size + 1 := fun x hx => by
  rcases hl with e2 | e2
  ·exact .inl (e2 ▸ hx)
  ·rw [e2] at hx; cases hx; exact .inr hs
 have hv0 : ∀ k x, (f k).ownBlock = some x → x < W.heap.size := fun k x hx => (World.ownsRow.lt (h.rd.ol k) x hx).2
 have ownK : ∀ {α : Type} {B : Nat} {T : TypeId} {size : Nat} {enc : α → List Value} {V : Value} {xs : List α}, Own W B T size enc V xs → (∀ x, V.ownBlock = some x → (f s).ownBlock ≠ some x ∧ x ≠ q.mp) → Own W3 B T size enc V xs := fun {α B T size enc V xs} hO hx => by
  refine ⟨hO.1, ?_⟩
  rcases hO.2 with h2 | ⟨g', cap', cur, hv, hg', hh, r⟩
  ·exact .inl h2
  ·have hx2 := hx g' (by rw [hv]; rfl)
   exact .inr ⟨g', cap', cur, hv, hg', by rw [keep g' (Array.getElem?_eq_some_iff.1 hh).1 hx2.1 hx2.2]; exact hh, r⟩
 have st : ∀ (g : Nat), g < N → (f s).ownBlock ≠ some g := fun g hg e => by have := hrs g e; omega
 have rowN : ∀ x, (q.wf (fun y => if y = s then v' else f y) (n + 1)).row x → (∃ k, k ≠ s ∧ (f k).ownBlock = some x) ∨ v'.ownBlock = some x := fun x ⟨j, hj⟩ => by
  have hj : (if j = s then v' else f j).ownBlock = some x := hj
  by_cases e : j = s
  ·rw [if_pos e] at hj; exact .inr hj
  ·rw [if_neg e] at hj; exact .inl ⟨j, e, hj⟩
 have hlk : ∀ x, v.ownBlock = some x → x < W.heap.size ∧ N ≤ x := fun x hx => ⟨(World.ownsRow.lt h.o x hx).2, (World.ownsRow.lt h.o x hx).1⟩
 refine ⟨⟨?_, ?_, ?_, ?_, ?_, ?_, hM, fun j => ?_, fun j j' x hne hx hx' => ?_, fun hx => ?_, ?_, h.rd.lb, h.rd.bb, h.rd.cn, h.rd.lo, h.rd.lh, h.rd.la⟩, ?_, fun s' x hx => ?_, fun j k' h1 h2 s' h3 h4 => ?_, h.kb, h.kl, h.k1, h.kw, by have := h.nb; omega, fun y => ?_, fun x hx e => ?_, fun x hx => ?_⟩
 ·exact (keepS b hq.1 h.rd.bm).trans h.rd.g
 ·exact (keepS q.bc hq.2.1 h.rd.mc.symm).trans h.rd.gc
 ·exact ownK h.rd.oh (fun x hx => by cases hx; exact ⟨st _ hq.2.2.1, h.rd.mh.symm⟩)
 ·exact ownK h.rd.oa (fun x hx => by cases hx; exact ⟨st _ hq.2.2.2.1, h.rd.ma.symm⟩)
 ·exact ownK h.rd.ok (fun x hx => by cases hx; exact ⟨st _ hq.2.2.2.2.1, h.rd.mk_.symm⟩)
 ·exact ownK h.rd.oo (fun x hx => by cases hx; exact ⟨st _ hq.2.2.2.2.2.1, h.rd.mo.symm⟩)
 ·show Own W3 w.heap.size 3 1 eI (if j = s then v' else f j) (if j = s then wl s ++ [(i : Int)] else wl j)
  by_cases e : j = s
  ·rw [if_pos e, if_pos e]
   refine hO.upd hu fun x hx => ?_
   rcases hv' x hx with h1 | h1
   ·exact h.rd.rowM ⟨s, h1⟩
   ·have h2 : q.mp < N := hq.2.2.2.2.2.2
    omega
  ·rw [if_neg e, if_neg e]
   exact ownK (h.rd.ol j) (fun x hx => ⟨fun e2 => h.rd.ap j s x e hx e2, h.rd.rowM ⟨j, hx⟩⟩)
 ·have hx : (if j = s then v' else f j).ownBlock = some x := hx
  have hx' : (if j' = s then v' else f j').ownBlock = some x := hx'
  by_cases e : j = s <;> by_cases e' : j' = s
  ·omega
  ·rw [if_pos e] at hx
   rw [if_neg e'] at hx'
   rcases hv' x hx with h1 | h1
   ·exact h.rd.ap j' s x e' hx' h1
   ·have := hv0 j' x hx'; omega
  ·rw [if_neg e] at hx
   rw [if_pos e'] at hx'
   rcases hv' x hx' with h1 | h1
   ·exact h.rd.ap j s x e hx h1
   ·have := hv0 j x hx; omega
  ·rw [if_neg e] at hx
   rw [if_neg e'] at hx'
   exact h.rd.ap j j' x hne hx hx'
 ·have hqh : q.h < N := hq.2.2.1
  rcases rowN _ hx with ⟨j, _, h1⟩ | h1
  ·exact h.rd.ah ⟨j, h1⟩
  ·rcases hv' _ h1 with h2 | h2
   ·exact h.rd.ah ⟨s, h2⟩
   ·have h2 : q.h = W.heap.size + 1 := h2
    omega
 ·refine (xAa h.rd.hb hb).trans (Below.trans (b := W2) ⟨hg.os, hg.tape, hg.output, hg.size, fun x hx => hg.block x (by have := h.rd.hb.size; omega) (fun e => ?_)⟩ (hu.b _ h.rd.lb.2.2))
  have := (World.ownsRow.lt (h.rd.ol s) x e.symm).1
  omega
 ·exact ownK h.o (fun x hx => ⟨fun e => h.dk x ⟨s, e⟩ hx, fun e => by have := (hlk x hx).2; have h2 : q.mp < N := hq.2.2.2.2.2.2; omega⟩)
 ·have hx : x ∈ (if s' = s then wl s ++ [(i : Int)] else wl s') := hx
  by_cases e : s' = s
  ·rw [if_pos e] at hx
   rcases List.mem_append.1 hx with hx | hx
   ·rw [e]; exact h.a s x hx
   ·rw [List.mem_singleton.1 hx, e]; exact ⟨i, k, rfl, hk, hw, hws⟩
  ·rw [if_neg e] at hx
   exact h.a s' x hx
 ·show (j : Int) ∈ (if s' = s then wl s ++ [(i : Int)] else wl s')
  by_cases e : s' = s
  ·rw [if_pos e]
   rcases h4 with h4 | ⟨h4, _⟩
   ·exact List.mem_append_left _ (by have := h.b j k' h1 h2 s' h3 (.inl h4); rwa [e] at this)
   ·rw [h4]; simp
  ·rw [if_neg e]
   refine h.b j k' h1 h2 s' h3 ?_
   rcases h4 with h4 | ⟨h4, h5 | h5⟩
   ·exact .inl h4
   ·exact .inr ⟨h4, h5⟩
   ·exact absurd h5 e
 ·show (if y = s then wl s ++ [(i : Int)] else wl y).length ≤ cnt + 1
  split
  ·rw [List.length_append]; have := h.wb s; simp; omega
  ·have := h.wb y; omega
 ·rcases rowN x hx with ⟨j, _, h1⟩ | h1
  ·exact h.dk x ⟨j, h1⟩ e
  ·rcases hv' x h1 with h2 | h2
   ·exact h.dk x ⟨s, h2⟩ e
   ·have := (hlk x e).1; omega
 ·rcases rowN x hx with ⟨j, _, h1⟩ | h1
  ·exact h.rr x ⟨j, h1⟩
  ·rcases hv' x h1 with h2 | h2
   ·exact hrs x h2
   ·omega
end
theorem xCr {c : Con} (h : c.ok = true) : xEq c ∧ CIs c ∧ ∀ k ∈ c.cl, k.start.length ≤ 8 := by
 have key : ∀ k ∈ c.cl, k.start.length ≤ 8 ∧ ∀ p ∈ k.start, (0 ≤ p.1 ∧ p.1 < (c.cl.length : Int)) ∧ 1 ≤ p.2 ∧ p.2 ≤ 4 := fun k hk => by
  unfold Con.ok at h
  simp only [Bool.and_eq_true] at h
  obtain ⟨i, hi⟩ := List.getElem?_of_mem hk
  have h2 := (c.clsOk_iff c.cl 0).1 h.2 i k hi
  unfold Con.claOk at h2
  simp only [Bool.and_eq_true, decide_eq_true_eq, List.all_eq_true] at h2
  refine ⟨h2.1.1.1.2, fun p hp => ?_⟩
  have h3 := h2.1.1.2 p hp
  unfold xB7 isI at h3
  simp only [Bool.and_eq_true, decide_eq_true_eq] at h3
  exact ⟨h3.1.1.1, h3.1.2, h3.2⟩
 exact ⟨fun k hk p hp => ((key k hk).2 p hp).1, fun k hk p hp => ((key k hk).2 p hp).2, fun k hk => (key k hk).1⟩
theorem rE_all (c : Con) : c.rE c.cl.length = c.base := by
 unfold Con.rE Con.rz Rd.wo Con.base
 rw [xEx (by simp)]
 have e : List.zipWith (fun k _ => out0 k) c.cl (List.replicate c.cl.length Zoc) = c.cl.map out0 := by
  refine List.ext_getElem? fun i => ?_
  rw [List.getElem?_zipWith, List.getElem?_map]
  by_cases hi : i < c.cl.length
  ·rw [qzJ hi, List.getElem?_replicate, if_pos hi]; rfl
  ·rw [List.getElem?_eq_none (by omega)]; simp
 rw [e]
theorem xJc {c : Con} {n : Nat} {p : Out × Cnt} (h : c.base.oc[n]? = some p) : ∃ k, c.cl[n]? = some k ∧ p = out0 k := by
 have e : c.base.oc[n]? = (c.cl[n]?).map out0 := by simp [Con.base]
 rw [e] at h
 cases hk : c.cl[n]? with
 | none => rw [hk] at h; simp at h
 | some k => rw [hk] at h; cases h; exact ⟨k, rfl, rfl⟩
theorem base_f (c : Con) : FInv c c.base := by
 refine ⟨fun i k p hk hp hw _ => ?_, fun i k p hk hp hs => ?_⟩ <;> obtain ⟨k', hk', rfl⟩ := xJc hp <;> rw [hk] at hk' <;> cases hk'
 ·unfold out0; rw [hw]; rfl
 ·cases hw : k.waived with
  | true => unfold out0 at hs; rw [hw] at hs; simp at hs
  | false => unfold out0; rw [hw]; exact ⟨by decide, rfl⟩
theorem base_g (c : Con) : GInv c.base := fun i x hx => by
 obtain ⟨k, _, rfl⟩ := xJc hx
 unfold out0
 split <;> simp
theorem BL.fin {w W : World} {b : Nat} {c : Con} {m : Cm} {q : Rq} {N e cnt : Nat} {D : Int → Prop} {v : Value} {K : List Int} {wl : Int → List Int} {f : Int → Value} {n : Nat} (h : BL w W b c m q N e c.cl.length cnt D v K wl f n) (hcs : xEq c) (hc : CGood c) : WI c c.base wl ∧ JI c c.base K := by
 refine ⟨⟨h.a, fun j k p h1 h2 h3 s h4 => ?_⟩, fun j hr => ?_⟩
 ·obtain ⟨k', hk', rfl⟩ := xJc h2
  rw [h1] at hk'
  cases hk'
  have hw : k.waived = false := by
   cases hw : k.waived with
   | false => rfl
   | true => unfold out0 at h3; rw [hw] at h3; simp at h3
  exact h.b j k h1 hw s h4 (.inl (qzM h1).1)
 ·obtain ⟨k, p, g1, g2, g3, g4, g5⟩ := (xGv (xE3 hc)).1 hr
  by_cases he : k.start = []
  ·exact ⟨k, -1, g1, .inl ⟨he, rfl⟩, h.k1⟩
  ·obtain ⟨x, hx⟩ := List.exists_mem_of_ne_nil _ he
   have hx3 := List.all_eq_true.1 g5 x hx
   obtain ⟨x0, x1⟩ := hcs k (qzK g1) x hx
   refine ⟨k, x.1, g1, .inr ⟨x, hx, rfl⟩, ?_⟩
   obtain ⟨ku, hku⟩ : ∃ u, c.cl[x.1.toNat]? = some u := ⟨_, qzJ (by omega)⟩
   have hou : c.base.oc[x.1.toNat]? = some (out0 ku) := by simp [Con.base, hku]
   unfold stR at hx3
   rw [hou] at hx3
   simp only at hx3
   cases hw : ku.waived with
   | true =>
    have := h.kw _ ku hku hw (by omega)
    rwa [Int.toNat_of_nonneg x0] at this
   | false =>
    exfalso
    have e : (out0 ku).1.st = 0 := by unfold out0; rw [hw]; rfl
    rw [e, cond0] at hx3
    cases hx3
end Go.Proofs.YtginnonjdbpamaaGreatDoor
