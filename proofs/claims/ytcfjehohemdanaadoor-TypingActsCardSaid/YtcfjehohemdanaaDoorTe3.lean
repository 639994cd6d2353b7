/- Symbols whose act types and clauses lie in lists of the call's own: a part of one element stored. -/
import Derived.Test.YtcfjehohemdanaaDoorTd5
import Derived.Test.YtcfjehohemdanaaDoorTa5
namespace Go.Proofs.YtcfjehohemdanaaDoor
open Go.RowKit Go.Sort

theorem chk_len (s : Sy) : (chk s).length ≤ 1000 := by
  cases h : wfS s with
  | false => rw [chk_no h]; simp
  | true =>
    have hs := h
    simp only [wfS, smallT, Bool.and_eq_true, decide_eq_true_eq] at hs
    rw [chk, if_pos h]
    have h1 := flt_len (eBeg s) (-1); have h2 := fU_len s s.un.length; have h3 := fA_len s s.ac.length; have h4 := fC_len s s.cl.length
    simp only [List.length_append]; omega
/-- what every law begins with -/
structure Beg (w : World) (s : Sy) (m : Sm) : Prop where
  nr : Nr w
  tb : Tb w
  sm : Smw w s m
  nl : Nls s m
theorem Beg.then_ {w w' : World} {s : Sy} {m : Sm} (h : Beg w s m) (hb : Below w.heap.size w w') : Beg w' s m := ⟨h.nr.below hb, h.tb.below hb, h.sm.then_ hb, h.nl⟩
theorem faults_eq (A B : Option Addr) (c d : Nat) (a : List (Int × Int)) (w : World) (ha : a.length ≤ 1000000) (hA : Seg w w.heap.size 2 encF A a) (hB : Seg w w.heap.size 2 encF B a) :
    Calls Tryd.prog 13 #[.slice A a.length c, .slice B a.length d] w fun e w' => e = .returned (.bool true) ∧ Below w.heap.size w w' :=
  (faults_any A B c d a a w ha ha hA hB).mono fun _ _ ⟨h1, h2⟩ => ⟨h1.trans (by simp), h2⟩
theorem wf_u8 {n : Int} (h : (Lit.int .u8 n).wf = true) : 0 ≤ n ∧ n ≤ 255 := by
  simp [Lit.wf, IntKind.min, IntKind.max, IntKind.signed, IntKind.bits] at h
  omega
def setL : List Value → Nat → List Value → List Value
  | l, _, [] => l
  | l, i, v :: vs => setL (l.set i v) (i + 1) vs
theorem setL_left (r : List Value) : ∀ (vs l : List Value) (i : Nat), i + vs.length ≤ l.length → setL (l ++ r) i vs = setL l i vs ++ r
  | [], l, i, _ => rfl
  | v :: vs, l, i, h => by
    simp only [List.length_cons] at h
    simp only [setL]
    rw [List.set_append_left _ _ (by omega), setL_left r vs _ _ (by rw [List.length_set]; omega)]
theorem setL_right (l : List Value) : ∀ (vs r : List Value) (i : Nat), setL (l ++ r) (l.length + i) vs = l ++ setL r i vs
  | [], r, i => rfl
  | v :: vs, r, i => by
    simp only [setL]
    rw [List.set_append_right _ _ (by omega), show l.length + i - l.length = i by omega, Nat.add_assoc, setL_right l vs _ (i + 1)]
theorem setL_flat {α : Type} {enc : α → List Value} {size : Nat} (he : ∀ x, (enc x).length = size) {y : α} {j : Nat} {vs : List Value} : ∀ (xs : List α) (k : Nat) (x : α), xs[k]? = some x → enc y = setL (enc x) j vs → j + vs.length ≤ size → setL (xs.flatMap enc) (k * size + j) vs = (xs.set k y).flatMap enc
  | [], k, x, h, _, _ => by simp at h
  | z :: xs, 0, x, h, hy, hj => by
    simp at h; subst h
    simp only [List.flatMap_cons, List.set_cons_zero, Nat.zero_mul, Nat.zero_add, hy]
    rw [setL_left _ _ _ _ (by rw [he]; exact hj)]
  | z :: xs, k + 1, x, h, hy, hj => by
    have ih := setL_flat he xs k x (by simpa using h) hy hj
    simp only [List.flatMap_cons, List.set_cons_succ]
    rw [show (k + 1) * size + j = (enc z).length + (k * size + j) by rw [he, Nat.add_mul]; omega, setL_right, ih]
section
variable {α : Type} {w : World} {B : Nat} {T : TypeId} {size : Nat} {enc : α → List Value} {xs : List α} {g n cap : Nat}
theorem ownsRow_setCells : ∀ (vs : List Value) (i : Nat) (w : World) (cur : List Value), w.ownsRow B T size (.slice (some ⟨g, 0, none⟩) n cap) n cur → (w.setCells g i vs).ownsRow B T size (.slice (some ⟨g, 0, none⟩) n cap) n (setL cur i vs)
  | [], _, _, _, h => h
  | v :: vs, i, w, cur, h => by
    simp only [World.setCells, setL]
    exact ownsRow_setCells vs (i + 1) _ _ (World.ownsRow.stored h i v).1
/-- some cells of an element stored -/
theorem Own.setPart (h : Own w B T size enc (.slice (some ⟨g, 0, none⟩) n cap) xs) (he : ∀ x, (enc x).length = size) (hn : xs.length = n) {k j : Nat} {x y : α} {vs : List Value} (hx : xs[k]? = some x) (hj : j + vs.length ≤ size) (hy : enc y = setL (enc x) j vs) :
    Own (w.setCells g (k * size + j) vs) B T size enc (.slice (some ⟨g, 0, none⟩) n cap) (xs.set k y) := by
  unfold Own at h ⊢
  rw [hn] at h
  have h1 := ownsRow_setCells vs (k * size + j) _ _ h
  rw [List.length_set, hn, ← setL_flat he xs k x hx hy hj]
  exact h1
theorem Own.there (h : Own w B T size enc (.slice (some ⟨g, 0, none⟩) n cap) xs) (he : ∀ x, (enc x).length = size) (hn : xs.length = n) {k j c : Nat} {x : α} (hx : xs[k]? = some x) (hj : j + c ≤ size) : w.there g (k * size + j) c := by
  intro i hi
  obtain ⟨h1, h2⟩ := h.getAt he hn hx (j := j + i) (by omega)
  rw [Nat.add_assoc]
  refine ⟨?_, h2⟩
  rw [h1, List.getElem?_eq_getElem (by rw [he]; omega)]
  rfl
theorem Own.lt_ (h : Own w B T size enc (.slice (some ⟨g, 0, none⟩) n cap) xs) : B ≤ g ∧ g < w.heap.size := by
  rcases h.2 with ⟨h1, hl⟩ | ⟨g', cap', cur, hv', hg, hh, _⟩
  · cases h1
  · cases hv'
    exact ⟨hg, (Array.getElem?_eq_some_iff.1 hh).1⟩
theorem Own.segA {A : Option Addr} (h : Own w B T size enc (.slice A n cap) xs) (he : ∀ x, (enc x).length = size) : Seg w w.heap.size size enc A xs := by
  obtain ⟨A', c', e, _, h1⟩ := h.seg he
  cases e
  exact h1
theorem Own.ne_ {v : Value} (h : Own w B T size enc v xs) {p : Nat} (hp : p < B) : ∀ k, v.ownBlock = some k → k ≠ p := by
  intro k hk
  rcases h.2 with ⟨h1, _⟩ | ⟨g', cap', cur, hv', hg, _⟩
  · rw [h1] at hk; cases hk
  · rw [hv'] at hk; cases hk; show g' ≠ p; omega
end
/-- a struct stored into some cells that are there -/
theorem wpList_store_part {P : Program} {ops : Array Oper} {Q : Exit → Act → World → Prop} {a : Act} {w : World} {rest : List Oper} {o : Oper} (hgd : o.guard = none) (ty : TypeId) (x y : Operand) (ho : o.op = .store ty x y) (hd : o.dst = none) (b i : Nat) (cs : List Value)
    (hx : a.eval x = .pointer (some ⟨b, i, none⟩)) (hy : a.eval y = .agg cs.toArray) (ht : w.there b i cs.length) (hi : (P.info? ty).map (·.size) = some cs.length) (h1 : ∀ v ∈ cs, v.oneCell' = true)
    (h : wpList P ops Q rest a (w.setCells b i cs)) : wpList P ops Q (o :: rest) a w := by
  refine wpList_store_mid hgd ty x y ho b i cs.toArray hx hy (by simpa using ht) (by simpa using hi) (all_oneCell_toArray h1) ?_
  rw [hd, List.toList_toArray]
  exact h
structure Olt (w0 : World) (s : Sy) (m : Sm) (g ga ca gc cc : Nat) (W : World) (xs : List As) (ys : List Cm) : Prop where
  O : Blk W g 34 (syA s (cpM m ga ca gc cc ys))
  A : Own W w0.heap.size 60 9 encAs (.slice (some ⟨ga, 0, none⟩) s.ac.length ca) xs
  C : Own W w0.heap.size 51 24 encCl (.slice (some ⟨gc, 0, none⟩) s.cl.length cc) ys
  B : Below w0.heap.size w0 W
  n : w0.heap.size ≤ g ∧ ga ≠ gc ∧ g ≠ ga ∧ g ≠ gc
  lx : xs.length = s.ac.length
  ly : ys.length = s.cl.length
section
variable {w0 : World} {s : Sy} {m : Sm} {g ga ca gc cc : Nat} {W W' : World} {xs : List As} {ys : List Cm}
theorem Olt.then_ (h : Olt w0 s m g ga ca gc cc W xs ys) (hb : Below W.heap.size W W') : Olt w0 s m g ga ca gc cc W' xs ys :=
  ⟨h.O.then_ hb, h.A.below hb, h.C.below hb, below_then h.B hb, h.n, h.lx, h.ly⟩
theorem Olt.setC (h : Olt w0 s m g ga ca gc cc W xs ys) {k j : Nat} {x y : Cm} {vs : List Value} (hx : ys[k]? = some x) (hj : j + vs.length ≤ 24) (hy : encCl y = setL (encCl x) j vs) : Olt w0 s m g ga ca gc cc (W.setCells gc (k * 24 + j) vs) xs (ys.set k y) :=
  ⟨setCells_far h.n.2.2.2 _ _ _ h.O, own_setCells (by intro i hi; cases hi; exact h.n.2.1) _ _ _ h.A, h.C.setPart encCl_len h.ly hx hj hy, setCells_below h.C.lt_.1 _ _ _ h.B, h.n, h.lx, by rw [List.length_set]; exact h.ly⟩
theorem Olt.setA (h : Olt w0 s m g ga ca gc cc W xs ys) {k j : Nat} {x y : As} {vs : List Value} (hx : xs[k]? = some x) (hj : j + vs.length ≤ 9) (hy : encAs y = setL (encAs x) j vs) : Olt w0 s m g ga ca gc cc (W.setCells ga (k * 9 + j) vs) (xs.set k y) ys :=
  ⟨setCells_far h.n.2.2.1 _ _ _ h.O, h.A.setPart encAs_len h.lx hx hj hy, own_setCells (by intro i hi; cases hi; exact h.n.2.1.symm) _ _ _ h.C, setCells_below h.A.lt_.1 _ _ _ h.B, h.n, by rw [List.length_set]; exact h.lx, h.ly⟩
theorem Olt.smb (h : Olt w0 s m g ga ca gc cc W xs ys) (hm : Smb w0 s m) (hA : ∀ a ∈ xs, b64 a.a.lot.1 ∧ b64 a.a.lot.2)
    (hC : ∀ y ∈ ys, Seg W W.heap.size 2 encCo y.A y.c.c.start ∧ y.c.c.start.length ≤ 1000000 ∧ b64 y.c.c.v.1 ∧ b64 y.c.c.v.2) : Smb W { s with ac := xs, cl := ys.map (·.c) } (cpM m ga ca gc cc ys) := by
  have hm' := hm.then_ h.B
  obtain ⟨A1, c1, e1, _, h1⟩ := h.A.seg encAs_len
  obtain ⟨A2, c2, e2, _, h2⟩ := h.C.seg encCl_len
  injection e1 with q1 _ _
  injection e2 with q2 _ _
  subst q1 q2
  refine ⟨⟨hm'.y.h, hm'.y.p, hm'.y.r, hm'.y.u, h1, h2, rfl, fun y hy => (hC y hy).1⟩, hm'.cu, hm'.lp, hm'.lr, hm'.lu, ?_, ?_, hm'.lh, ?_, hm'.bu, hA, ?_⟩
  · show xs.length ≤ 1000000
    rw [h.lx]; exact hm.la
  · show (ys.map (·.c)).length ≤ 1000000
    rw [List.length_map, h.ly]; exact hm.lc
  · intro c hc
    obtain ⟨y, hy, rfl⟩ := List.mem_map.1 hc
    exact (hC y hy).2.1
  · intro c hc
    obtain ⟨y, hy, rfl⟩ := List.mem_map.1 hc
    exact (hC y hy).2.2
theorem Olt.syA (h : Olt w0 s m g ga ca gc cc W xs ys) : syA s (cpM m ga ca gc cc ys) = syA { s with ac := xs, cl := ys.map (·.c) } (cpM m ga ca gc cc ys) := by
  simp only [Go.Proofs.YtcfjehohemdanaaDoor.syA, List.length_map, h.lx, h.ly]
end
/-- the clauses of placed symbols are fit -/
theorem plM_fit {w0 W : World} {s : Sy} {m : Sm} (hm : Smb w0 s m) (hb : Below w0.heap.size w0 W) : ∀ y ∈ plM s.cl.length m.cs, Seg W W.heap.size 2 encCo y.A y.c.c.start ∧ y.c.c.start.length ≤ 1000000 ∧ b64 y.c.c.v.1 ∧ b64 y.c.c.v.2 := by
  have h := hm.then_ hb
  intro y hy
  obtain ⟨i, hi⟩ := List.mem_iff_getElem?.1 hy
  simp only [plM, List.getElem?_mapIdx] at hi
  cases hd : m.cs[i]? with
  | none => rw [hd] at hi; cases hi
  | some d =>
    rw [hd] at hi
    have hmem := List.mem_of_getElem? hd
    have ht := h.y.t d hmem
    have hc : d.c ∈ s.cl := by rw [← hm.y.e]; exact List.mem_map_of_mem hmem
    have h2 := hm.lx d.c hc
    have h3 := hm.bc d.c hc
    simp only [Option.map_some, Option.some.injEq] at hi
    rw [← hi]; split <;> exact ⟨ht, h2, h3⟩
theorem plA_fit {w0 : World} {s : Sy} {m : Sm} (hm : Smb w0 s m) : ∀ a ∈ plA s.ac.length s.ac, b64 a.a.lot.1 ∧ b64 a.a.lot.2 := by
  intro y hy
  obtain ⟨i, hi⟩ := List.mem_iff_getElem?.1 hy
  simp only [plA, List.getElem?_mapIdx] at hi
  cases hd : s.ac[i]? with
  | none => rw [hd] at hi; cases hi
  | some d =>
    rw [hd] at hi
    have h3 := hm.ba d (List.mem_of_getElem? hd)
    simp only [Option.map_some, Option.some.injEq] at hi
    rw [← hi]; split <;> exact h3
theorem plc_eq {w0 : World} {s : Sy} {m : Sm} (hm : Smb w0 s m) : ({ s with ac := plA s.ac.length s.ac, cl := (plM s.cl.length m.cs).map (·.c) } : Sy) = s.plc := by
  rw [plM_map, hm.y.e]; rfl
theorem mem_set {α : Type} {l : List α} {P : α → Prop} (h : ∀ y ∈ l, P y) (i : Nat) {x : α} (hx : P x) : ∀ y ∈ l.set i x, P y := fun y hy => (List.mem_or_eq_of_mem_set hy).elim (h y) (fun e => e ▸ hx)
/-- a new variable holds what placed returned -/
theorem olt_new {w0 W1 W2 : World} {s : Sy} {m : Sm} {ga ca gc cc : Nat} (hm : Smb w0 s m) (h1 : Below w0.heap.size w0 W1) (h2 : Below W1.heap.size W1 W2) (hg : ga < gc)
    (hA : Own W2 W1.heap.size 60 9 encAs (.slice (some ⟨ga, 0, none⟩) s.ac.length ca) (plA s.ac.length s.ac)) (hC : Own W2 W1.heap.size 51 24 encCl (.slice (some ⟨gc, 0, none⟩) s.cl.length cc) (plM s.cl.length m.cs)) :
    Olt w0 s m W2.heap.size ga ca gc cc (W2.alloc (.cells (syA s (cpM m ga ca gc cc (plM s.cl.length m.cs))) 34)) (plA s.ac.length s.ac) (plM s.cl.length m.cs) := by
  have l1 := hA.lt_
  have l2 := hC.lt_
  have hs := h1.size
  refine ⟨Blk.new _ _ _, (hA.more hs).alloc _, (hC.more hs).alloc _, below_alloc (below_then h1 h2) _, ⟨Nat.le_trans hs h2.size, by omega, by omega, by omega⟩, plA_len _ _, ?_⟩
  rw [plM_len]; exact hm.len
end Go.Proofs.YtcfjehohemdanaaDoor
