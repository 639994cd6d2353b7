/- Contracts of functions and plain laws, joined: Hb, Fc0, Fc3. -/
import Derived.Test.YtemkghgcdpmlbaaDoorMb4
import Derived.Test.YtemkghgcdpmlbaaDoorMb3
import Derived.Deep.RegionHeld
import Derived.Test.YtemkghgcdpmlbaaDoorMb13
import Derived.Test.YtemkghgcdpmlbaaDoorMb12
import Derived.Maps.OwnSet
import Derived.Maps.OwnOps
/- A region that draws its order: a head whose operations may come up in whatever order (among them calls and new variables), one condition on the world held all through it, and behind all of the head a tail in sequence. What yields in every world of the condition is taken first. -/
namespace Go.Proofs.YtemkghgcdpmlbaaDoor
open Go.RowKit Go.Sort

section
variable {P : Program} {ops : Array Oper} {md : Region.Mode} {S : World → Prop} {Q : Exit → Act → World → Prop} {hs ts : List Nat}

/-- the head in whatever order, S behind each of its operations; then the tail -/
def wpHB (P : Program) (md : Region.Mode) (ops : Array Oper) (Q : Exit → Act → World → Prop) (S : World → Prop) (hs ts : List Nat) : Nat → Array Bool → Act → World → Prop
  | 0, listed, a, w => Cl md ops listed → (overB md ops hs listed = true ∧ tlB md ops ts listed = true) ∧ wpList P ops Q (opsAt ops ts) a w
  | f + 1, listed, a, w => Cl md ops listed → Region.ready md ops listed ≠ [] ∧ ∀ i ∈ Region.ready md ops listed, hs.contains i = true ∧ wpOp P ops Q i (fun a' w' => S w' ∧ wpHB P md ops Q S hs ts f (listed.setIfInBounds i true) a' w') a w

theorem wpAny_of_hb (hsel : Region.noSelect ops = true) (hQ : PanOk Q) : ∀ (f : Nat) (listed : Array Bool) (a : Act) (w : World), Cl md ops listed → wpHB P md ops Q S hs ts f listed a w → wpAny P md ops Q (f + ts.length) listed a w
  | 0, listed, a, w, hcl, h => by
    obtain ⟨⟨h1, h2⟩, h3⟩ := h hcl
    rw [Nat.zero_add]
    exact wpAny_of_tl hsel hQ ts listed a w h2 h3
  | f + 1, listed, a, w, hcl, h => by
    obtain ⟨h1, h2⟩ := h hcl
    rw [show f + 1 + ts.length = (f + ts.length) + 1 by omega]
    exact ⟨fun h0 => absurd h0 h1, fun i hi => wpOp_mono (fun a' w' h' => wpAny_of_hb hsel hQ f _ a' w' (hcl.set hi) h'.2) (h2 i hi).2⟩

theorem wpHB_first {i : Nat} {oi : Oper} {v : Value} (hi : ops[i]? = some oi) (hsel : ∀ (j : Nat) (o : Oper) cs b, ops[j]? = some o → o.op ≠ .select cs b) (hd : dirB md ops hs = true) (hin : i ∈ hs)
    (hQ : ∀ c a w, Q (.panic c) (a.put oi.dst v) w → Q (.panic c) a w) :
    ∀ (f : Nat) (listed : Array Bool) (a : Act) (w : World),
      (∀ j oj, ops[j]? = some oj → j ≠ i → listed.getD j true = false → (∀ e ∈ oj.after, Region.binds md e = true → e.on ≠ i) → oi.apart ops oj = true) →
      i ∈ Region.ready md ops listed → YieldsIf P ops S oi v a → S w →
      wpHB P md ops Q S hs ts f (listed.setIfInBounds i true) (a.put oi.dst v) w → wpHB P md ops Q S hs ts (f + 1) listed a w := by
  intro f
  induction f with
  | zero =>
    intro listed a w _ hr hy hS H hcl
    have H' := H (hcl.set hr)
    have hun := (mem_ready.1 hr).1
    refine ⟨fun h => (by rw [h] at hr; cases hr), fun j hj => ?_⟩
    have hjn : hs.contains j = true := by
      cases hc : hs.contains j with
      | true => rfl
      | false => exact absurd hj (dirB_not hd hcl hc hin hun)
    refine ⟨hjn, ?_⟩
    by_cases hji : j = i
    · subst hji; exact hy.wpOp hi hS ⟨hS, H⟩
    · have h5 := List.all_eq_true.1 H'.1.1 j (ready_mono hj hji)
      rw [hjn] at h5
      cases h5
  | succ f ih =>
    intro listed a w hfree hr hy hS H hcl
    have H' := H (hcl.set hr)
    have hun := (mem_ready.1 hr).1
    refine ⟨fun h => (by rw [h] at hr; cases hr), fun j hj => ?_⟩
    have hjn : hs.contains j = true := by
      cases hc : hs.contains j with
      | true => rfl
      | false => exact absurd hj (dirB_not hd hcl hc hin hun)
    refine ⟨hjn, ?_⟩
    by_cases hji : j = i
    · subst hji; exact hy.wpOp hi hS ⟨hS, H⟩
    · have h1 := (H'.2 j (ready_mono hj hji)).2
      obtain ⟨hjun, oj, hoj, hall⟩ := mem_ready.1 hj
      have hnot : ∀ e ∈ oj.after, Region.binds md e = true → e.on ≠ i := fun e he hb heq => by
        have h3 := hall e he hb
        rw [heq, getD_both hun] at h3
        cases h3
      have h2 := wpOp_putIf hoj (hfree j oj hoj hji hjun hnot) (fun cs b => hsel i oi cs b hi) (fun cs b => hsel j oj cs b hoj) hQ hy h1
      have hfree' : ∀ k ok, ops[k]? = some ok → k ≠ i → (listed.setIfInBounds j true).getD k true = false →
          (∀ e ∈ ok.after, Region.binds md e = true → e.on ≠ i) → oi.apart ops ok = true := fun k ok hk hki hku hno => by
        refine hfree k ok hk hki ?_ hno
        by_cases hjk : j = k
        · subst hjk; exact hjun
        · rw [getD_set_ne true hjk] at hku; exact hku
      refine wpOp_mono (fun a' w' h3 => ⟨h3.2.1, ih (listed.setIfInBounds j true) a' w' hfree' (ready_mono hr (Ne.symm hji)) h3.1 h3.2.1 ?_⟩) h2
      rw [Array.setIfInBounds_comm _ _ hji]
      exact h3.2.2

theorem wpHB_take {i : Nat} {oi : Oper} {v : Value} {f : Nat} {listed : Array Bool} {a : Act} {w : World} (hd : dirB md ops hs = true) (hsel : Region.noSelect ops = true) (hQ : PanOk Q) (hi : ops[i]? = some oi) (hin : hs.contains i = true)
    (hf : Region.free md ops listed i = true) (hr : (Region.ready md ops listed).contains i = true) (hy : YieldsIf P ops S oi v a) (hS : S w)
    (h : wpHB P md ops Q S hs ts f (listed.setIfInBounds i true) (a.put oi.dst v) w) : wpHB P md ops Q S hs ts (f + 1) listed a w :=
  wpHB_first hi (Region.noSelect_spec hsel) hd (by simpa using hin) (fun c a w hq => hQ c _ _ w (by cases oi.dst <;> rfl) hq) f listed a w (Region.free_spec hi hf) (by simpa using hr) hy hS h

/-- each of the operations rs comes up next -/
def AllHB (P : Program) (md : Region.Mode) (ops : Array Oper) (Q : Exit → Act → World → Prop) (S : World → Prop) (hs ts : List Nat) (f : Nat) (listed : Array Bool) (a : Act) (w : World) (rs : List Nat) : Prop :=
  ∀ i ∈ rs, hs.contains i = true ∧ wpOp P ops Q i (fun a' w' => S w' ∧ wpHB P md ops Q S hs ts f (listed.setIfInBounds i true) a' w') a w
theorem AllHB.nil {f : Nat} {listed : Array Bool} {a : Act} {w : World} : AllHB P md ops Q S hs ts f listed a w [] := fun _ h => by cases h
theorem AllHB.cons {f : Nat} {listed : Array Bool} {a : Act} {w : World} {i : Nat} {o : Oper} {rs : List Nat} (hin : hs.contains i = true) (ho : ops[i]? = some o)
    (h : ∀ K' : Act → World → Prop, Shut (∀ a w, S w → (S w → wpHB P md ops Q S hs ts f (listed.setIfInBounds i true) a w) → K' a w) → if Region.wanted o (yielded ops a.tmps) = true then Oper.wp P o a w K' Q else K' (a.put o.dst undef) w)
    (hr : AllHB P md ops Q S hs ts f listed a w rs) : AllHB P md ops Q S hs ts f listed a w (i :: rs) := fun j hj => by
  rcases List.mem_cons.1 hj with rfl | hj
  · exact ⟨hin, wpOp_step ho (fun K' hK => h K' (fun a w hS hW => hK a w ⟨hS, hW hS⟩))⟩
  · exact hr j hj
theorem wpHB_ready {rs : List Nat} {f : Nat} {listed : Array Bool} {a : Act} {w : World} (hr : Region.ready md ops listed = rs) (hne : rs ≠ [])
    (h : AllHB P md ops Q S hs ts f listed a w rs) : wpHB P md ops Q S hs ts (f + 1) listed a w := fun _ => ⟨fun h0 => hne (hr ▸ h0), hr ▸ h⟩
theorem wpHB_tail {listed : Array Bool} {a : Act} {w : World} (h1 : overB md ops hs listed = true) (h2 : tlB md ops ts listed = true) (h : wpList P ops Q (opsAt ops ts) a w) : wpHB P md ops Q S hs ts 0 listed a w := fun _ => ⟨⟨h1, h2⟩, h⟩
end
/-- the beginning -/
theorem wp_region_hb {P : Program} {id : Nat} {Q : Exit → Act → World → Prop} {a : Act} {w : World} {l : List Oper} (S : World → Prop) (hs ts : List Nat) (hm : P.follows .mixedOrders = true)
    (hB : (Region.noSelect l.toArray && decide (hs.length + ts.length = l.toArray.size) && dirB .any l.toArray hs) = true) (hQ : PanOk Q) (hS : S w.drew)
    (h : dirB .any l.toArray hs = true → Region.noSelect l.toArray = true → PanOk Q → S w.drew → wpHB P .any l.toArray Q S hs ts hs.length (Array.replicate l.toArray.size false) a w.drew) : (Code.region id l.toArray true).wp P Q a w := by
  simp only [Bool.and_eq_true, decide_eq_true_eq] at hB
  obtain ⟨⟨hsel, hn⟩, hd⟩ := hB
  refine wp_region_any hm ?_
  have := wpAny_of_hb (md := .any) (ts := ts) hsel hQ hs.length (Array.replicate l.toArray.size false) a w.drew (fun j oj _ hl => by rw [getD_replicate_false] at hl; cases hl) (h hd hsel hQ hS)
  rwa [hn] at this
theorem yieldsIf_row {P : Program} {ops : Array Oper} {S : World → Prop} {op : Oper} {a : Act} (hw : Region.wanted op (yielded ops a.tmps) = true) (ty : TypeId) (x : Operand) (ho : op.op = .load ty x) (g : Nat) (hx : a.eval x = .pointer (some ⟨g, 0, none⟩)) (t : TypeId) (cs : Array Value) (hS : ∀ w, S w → Blk w g t cs)
    (hu : ∃ fs, P.underlying ty = some (.struct fs)) (hi : (P.info? ty).map (·.size) = some cs.size) : YieldsIf P ops S op (.agg cs) a := by
  obtain ⟨fs, hu⟩ := hu
  refine .inl ⟨hw, fun w hs => ?_⟩
  have h1 := run_loadVar_row w g t ty cs (0, 0) _ (hS w hs) hu rfl hi
  unfold execOp
  simp only [ho, hx, Instr.loadAt, Instr.sureAddr, Sem.run_bind, Sem.run_pure, Result.andThen_ok]
  rw [h1]
  rfl
theorem Blk.range {w : World} {b : Nat} {t : TypeId} {pre mid post : List Value} (h : Blk w b t (pre ++ mid ++ post).toArray) : w.rangeAt b pre.length mid := fun j v hv => by
  rw [h.cell]
  have hj := (List.getElem?_eq_some_iff.1 hv).1
  rw [List.getElem?_toArray, List.append_assoc, List.getElem?_append_right (by omega), show pre.length + j - pre.length = j by omega, List.getElem?_append_left hj]
  exact hv
/-- one block has changed -/
structure Upd (w w' : World) (g : Nat) : Prop where
  b : ∀ B, B ≤ g → Below B w w'
  f : ∀ x, x ≠ g → w'.heap[x]? = w.heap[x]?
  s : w'.heap.size = w.heap.size
theorem Upd.cell {w w' : World} {g : Nat} (h : Upd w w' g) {x o : Nat} (hx : x ≠ g) : w'.cell? ⟨x, o, none⟩ = w.cell? ⟨x, o, none⟩ := World.cell?_of_block (h.f x hx)
theorem Blk.upd {w w' : World} {g b : Nat} {t : TypeId} {cs : Array Value} (h : Blk w b t cs) (u : Upd w w' g) (hb : b ≠ g) : Blk w' b t cs := (u.f b hb).trans h
theorem Upd.refl (w : World) (g : Nat) : Upd w w g := ⟨fun _ _ => Below.refl _ _, fun _ _ => rfl, rfl⟩
theorem Upd.setCell {w w' : World} {g : Nat} (h : Upd w w' g) (o : Nat) (v : Value) : Upd w (w'.setCell ⟨g, o, none⟩ v) g :=
  ⟨fun B hB => (h.b B hB).setCell (p := ⟨g, o, none⟩) hB v, fun x hx => (Below.heap_setCell w' ⟨g, o, none⟩ v x hx).trans (h.f x hx), by simpa using h.s⟩
theorem Upd.setCells {w : World} {g : Nat} : ∀ (vs : List Value) (o : Nat) (w' : World), Upd w w' g → Upd w (w'.setCells g o vs) g
  | [], _, _, h => h
  | v :: vs, o, w', h => by
    simp only [World.setCells]
    exact Upd.setCells vs (o + 1) _ (h.setCell o v)
theorem Upd.trans {a b c : World} {g : Nat} (h : Upd a b g) (k : Upd b c g) : Upd a c g := ⟨fun B hB => (h.b B hB).trans (k.b B hB), fun x hx => (k.f x hx).trans (h.f x hx), k.s.trans h.s⟩
theorem Seg.upd {α : Type} {w w' : World} {g B size : Nat} {enc : α → List Value} {A : Option Addr} {xs : List α} (h : Seg w B size enc A xs) (u : Upd w w' g) (hp : ∀ a, A = some a → a.block ≠ g) : Seg w' B size enc A xs := fun k x hx => by
  obtain ⟨b, off, e, hb, hc⟩ := h k x hx
  exact ⟨b, off, e, hb, fun j v hv => (u.cell (hp _ e)).trans (hc j v hv)⟩
theorem Own.upd {α : Type} {w w' : World} {B g : Nat} {T : TypeId} {size : Nat} {enc : α → List Value} {v : Value} {xs : List α} (h : Own w B T size enc v xs) (u : Upd w w' g) (hg : ∀ k, v.ownBlock = some k → k ≠ g) : Own w' B T size enc v xs := by
  refine ⟨h.1, ?_⟩
  rcases h.2 with h2 | ⟨k, cap, cur, hv, hk, hh, r⟩
  · exact .inl h2
  · exact .inr ⟨k, cap, cur, hv, hk, by rw [u.f k (hg k (by rw [hv]; rfl))]; exact hh, r⟩
/-- a struct stored into cells i, i + 1, .. of a block known whole: the world behind as a letter -/
theorem wp_store_all {P : Program} {o : Oper} {a : Act} {w : World} {K : Act → World → Prop} {Q : Exit → Act → World → Prop} (ty : TypeId) (x y : Operand) (ho : o.op = .store ty x y) (g : Nat) (t : TypeId) (pre old post cs : List Value) (hx : a.eval x = .pointer (some ⟨g, pre.length, none⟩)) (hy : a.eval y = .agg cs.toArray)
    (hb : Blk w g t (pre ++ old ++ post).toArray) (hlen : old.length = cs.length) (hi : (P.info? ty).map (·.size) = some cs.length) (h1 : ∀ v ∈ cs, v.oneCell' = true)
    (h : ∀ w', Blk w' g t (pre ++ cs ++ post).toArray → Upd w w' g → K (a.put o.dst undef) w') : o.wp P a w K Q := by
  refine wp_store_mid ty x y ho g pre.length cs.toArray hx hy ?_ (by simpa using hi) (all_oneCell_toArray h1) ?_
  · intro j hj
    simp only [List.size_toArray] at hj
    rw [hb.cell, hb.frozen]
    refine ⟨?_, rfl⟩
    simp; omega
  · rw [List.toList_toArray]
    exact h _ (setCells_blk cs pre old post w hlen hb) (Upd.setCells cs pre.length w (Upd.refl w g))
theorem wpList_store_all {P : Program} {ops : Array Oper} {rest : List Oper} {Q : Exit → Act → World → Prop} {a : Act} {w : World} {o : Oper} (hgd : o.guard = none) (ty : TypeId) (x y : Operand) (ho : o.op = .store ty x y) (g : Nat) (t : TypeId) (pre old post cs : List Value) (hx : a.eval x = .pointer (some ⟨g, pre.length, none⟩)) (hy : a.eval y = .agg cs.toArray)
    (hb : Blk w g t (pre ++ old ++ post).toArray) (hlen : old.length = cs.length) (hi : (P.info? ty).map (·.size) = some cs.length) (h1 : ∀ v ∈ cs, v.oneCell' = true)
    (h : ∀ w', Blk w' g t (pre ++ cs ++ post).toArray → Upd w w' g → wpList P ops Q rest (a.put o.dst undef) w') : wpList P ops Q (o :: rest) a w :=
  wpList_plain hgd fun _K hK => wp_store_all ty x y ho g t pre old post cs hx hy hb hlen hi h1 fun w' h2 h3 => hK _ _ (h w' h2 h3)
end Go.Proofs.YtemkghgcdpmlbaaDoor
/- Files as results: where their lists lie; a struct and a number returned; parts of lists. -/
namespace Go.Proofs.YtemkghgcdpmlbaaDoor
open Go.RowKit Go.Sort

theorem ret_row2 {P : Program} {fn : Func} {a : Act} {w : World} {r s g : Nat} {t : TypeId} {cs : Array Value} (hres : fn.results = #[.cell r t, .tmp s]) (hp : a.tmps.getD r undef = .pointer (some ⟨g, 0, none⟩)) (hk : Blk w g t cs) (hu : ∃ fs, P.underlying t = some (.struct fs)) (hi : (P.info? t).map (·.size) = some cs.size) :
    (results fn a.tmps).run P w = .ok (.tuple #[.agg cs, a.tmps.getD s undef]) w := by
  obtain ⟨fs, hu⟩ := hu
  have h1 := run_loadVar_row w g t t cs (0, 0) _ hk hu rfl hi
  rw [Array.getD_eq_getD_getElem?] at hp
  have ha : (isAgg t).run P w = .ok true w := by simp [isAgg, run_underlying hu, Result.andThen]
  simp only [go_sem] at h1
  simp [results, hres, hp, go_sem, ha]
  simp [ha] at h1
  rw [h1]
  rfl
theorem take_at {t : TypeId} {size : Nat} {A : Option Addr} {len cap i : Nat} (hi : i ≤ cap) (ht : Tryd.prog.underlying t = some (.slice (Tryd.prog.elem t))) (hs : ∀ W : World, (sizeOf (Tryd.prog.elem t)).run Tryd.prog W = .ok size W) (W : World) :
    (Instr.slice t (.slice A len cap) none (some (.int .i64 (i : Nat))) none).run Tryd.prog W = .ok (.slice A i cap) W := by
  rw [run_slice_h W t A len cap ht .i64 i (by omega) (by omega), hs]
  cases A with
  | none => simp [sliced, Result.andThen]
  | some p => simp [sliced, Result.andThen, Addr.add]
theorem take_seg {α : Type} {w : World} {C size : Nat} {enc : α → List Value} {A : Option Addr} {xs : List α} {k : Nat} (hs : Seg w C size enc A xs) : Seg w C size enc A (xs.take k) := fun j x hx => by
  rw [List.getElem?_take] at hx
  split at hx
  · exact hs j x hx
  · cases hx
theorem drop_seg {α : Type} {w : World} {C size : Nat} {enc : α → List Value} {A : Option Addr} {xs : List α} {cap l : Nat} (hs : Seg w C size enc A xs) (hx : xs.length ≤ cap) : Seg w C size enc (subA A cap l size) (xs.drop l) := by
  have h := sub_seg (l := l) (h := xs.length) hs hx
  rwa [List.take_of_length_le (by rw [List.length_drop]; omega)] at h
theorem Own.segz {α : Type} {w : World} {B : Nat} {T : TypeId} {size : Nat} {enc : α → List Value} {v : Value} {xs : List α} (h : Own w B T size enc v xs) (he : ∀ x, (enc x).length = size) :
    ∃ A c, v = .slice A xs.length c ∧ xs.length ≤ c ∧ c ≤ 9223372036854775807 ∧ Seg w w.heap.size size enc A xs ∧ (A = none → xs = [] ∧ c = 0) ∧ (∀ a, A = some a → B ≤ a.block) ∧ (∀ a, A = some a → ∃ cs, Blk w a.block T cs) := by
  obtain ⟨A, c, hv, hc, hs⟩ := h.seg he
  refine ⟨A, c, hv, hc, ?_, hs, ?_, ?_, ?_⟩
  · rcases h.2 with ⟨e, _⟩ | ⟨g, cap, cur, e, _, _, _, hm, _⟩
    · rw [e] at hv; injection hv with _ _ h3; omega
    · rw [e] at hv; injection hv with _ _ h3; unfold maxLen at hm; omega
  · intro hA
    rcases h.2 with ⟨e, h0⟩ | ⟨g, cap, cur, e, _⟩
    · rw [e] at hv; injection hv with _ _ h3; exact ⟨List.eq_nil_of_length_eq_zero h0, h3.symm⟩
    · rw [e, hA] at hv; injection hv with h1; cases h1
  · intro a hA
    rcases h.2 with ⟨e, h0⟩ | ⟨g, cap, cur, e, hg, _⟩
    · rw [e, hA] at hv; injection hv with h1; cases h1
    · rw [e, hA] at hv; injection hv with h1; cases h1; exact hg
  · intro a hA
    rcases h.2 with ⟨e, h0⟩ | ⟨g, cap, cur, e, hg, hh, _⟩
    · rw [e, hA] at hv; injection hv with h1; cases h1
    · rw [e, hA] at hv; injection hv with h1; cases h1; exact ⟨_, hh⟩
/-- a store into a block of another type -/
theorem Own.updT {α : Type} {w w' : World} {B g : Nat} {T t : TypeId} {size : Nat} {enc : α → List Value} {v : Value} {xs : List α} {cs : Array Value} (h : Own w B T size enc v xs) (u : Upd w w' g) (hb : Blk w g t cs) (ht : T ≠ t) : Own w' B T size enc v xs := by
  refine h.upd u fun k hk e => ?_
  subst e
  rcases h.2 with ⟨e, _⟩ | ⟨g', cap, cur, e, _, hh, _⟩
  · rw [e] at hk; cases hk
  · rw [e] at hk
    obtain rfl : g' = k := Option.some.inj hk
    have h2 := hb.symm.trans hh
    injection h2 with h2
    injection h2 with _ h3 _
    exact ht h3.symm
theorem blk_ne {w : World} {a b : Nat} {t t' : TypeId} {cs cs' : Array Value} (h : Blk w a t cs) (h' : Blk w b t' cs') (ht : t ≠ t') : a ≠ b := by
  rintro rfl
  have h2 := h.symm.trans h'
  injection h2 with h2
  injection h2 with _ h3 _
  exact ht h3
/-- the lists of a file lie in blocks with the property -/
structure FOff (p : Nat → Prop) (m : Fm) : Prop where
  qf : ∀ a, m.f = some a → p a.block
  qo : ∀ a, m.o = some a → p a.block
theorem FOff.mono {p q : Nat → Prop} {m : Fm} (h : FOff p m) (hpq : ∀ b, p b → q b) : FOff q m := ⟨fun a e => hpq _ (h.qf a e), fun a e => hpq _ (h.qo a e)⟩
theorem Filt.upd {w w' : World} {g : Nat} {f : Fil} {m : Fm} (h : Filt w f m) (u : Upd w w' g) (ho : FOff (· ≠ g) m) : Filt w' f m :=
  ⟨by rw [u.s]; exact h.sf.upd u ho.qf, by rw [u.s]; exact h.so.upd u ho.qo, h.nf, h.no, h.cf, h.co, h.zf, h.zo, h.mf, h.mo⟩
abbrev zF : Array Value := #[.int .i64 0, .slice none 0 0, .slice none 0 0]
abbrev Fil.zero : Fil := ⟨0, [], []⟩
abbrev Fm.zero : Fm := ⟨none, 0, none, 0⟩
theorem filt_zero (w : World) : Filt w Fil.zero Fm.zero := ⟨Seg.nil _ _ _ _ _, Seg.nil _ _ _ _ _, by simp, by simp, by simp, by simp, fun _ => ⟨rfl, rfl⟩, fun _ => ⟨rfl, rfl⟩, by simp, by simp⟩
theorem foff_zero (p : Nat → Prop) : FOff p Fm.zero := ⟨(fun _ e => by cases e), (fun _ e => by cases e)⟩
/-- the file that Put gives: the zero file beside an error -/
def Fil.putF (c : Con) (f : Fil) (x : Fac) : Fil := if f.putE c x = 0 then f.put x else Fil.zero
def Fil.ordF (c : Con) (f : Fil) (b : Int × Int) : Fil := if f.ordE c b = 0 then f.ord b else Fil.zero
/-- a file returned beside an error code -/
def RetF (w : World) (F : Fil) (E : Int) (e : Ending) (w' : World) : Prop := (∃ m, e = .returned (.tuple #[.agg (flA F m), .int .i64 E]) ∧ Filt w' F m ∧ FOff (w.heap.size ≤ ·) m) ∧ Below w.heap.size w w'
theorem RetF.zero {w w' : World} {E : Int} (h : Below w.heap.size w w') : RetF w Fil.zero E (.returned (.tuple #[.agg zF, .int .i64 E])) w' := ⟨⟨Fm.zero, rfl, filt_zero _, foff_zero _⟩, h⟩
theorem name_wpl {P : Program} {ops : Array Oper} {l : List Oper} {Q : Exit → Act → World → Prop} {a : Act} {w : World} (h : ∀ w', w' = w → wpList P ops Q l a w') : wpList P ops Q l a w := h w rfl
theorem name_k {K : Act → World → Prop} {a : Act} {w : World} (h : ∀ V, V = w → K a V) : K a w := h _ rfl
theorem list_new2 {W V : World} {t : TypeId} {cs : Array Value} (h : V = W.alloc (.cells cs t)) : ∃ b, W.heap.size = b ∧ Blk V b t cs ∧ Below W.heap.size W V := by
  rw [h]
  exact ⟨_, rfl, Blk.new _ _ _, wa1 _ _⟩
theorem Own.segS {α : Type} {w : World} {B : Nat} {T : TypeId} {size : Nat} {enc : α → List Value} {A : Option Addr} {n c : Nat} {xs : List α} (h : Own w B T size enc (.slice A n c) xs) (he : ∀ x, (enc x).length = size) :
    xs.length ≤ c ∧ c ≤ 9223372036854775807 ∧ Seg w w.heap.size size enc A xs ∧ (A = none → xs = [] ∧ c = 0) ∧ (∀ a, A = some a → B ≤ a.block) := by
  obtain ⟨A', c', hv, h1, h2, h3, h4, h5, _⟩ := h.segz he
  injection hv with e1 e2 e3
  subst e1
  subst e3
  exact ⟨h1, h2, h3, h4, h5⟩
theorem filt_own {w : World} {B : Nat} {F : Fil} {A1 A2 : Option Addr} {n1 n2 : Nat} (h1 : Own w B 33 6 eF (.slice A1 F.facts.length n1) F.facts) (h2 : Own w B 35 2 eS (.slice A2 F.ords.length n2) F.ords) (nf : F.facts.length ≤ 1000000) (no : F.ords.length ≤ 1000000) :
    Filt w F ⟨A1, n1, A2, n2⟩ ∧ FOff (B ≤ ·) ⟨A1, n1, A2, n2⟩ := by
  obtain ⟨a1, a2, a3, a4, a5⟩ := h1.segS eF_len
  obtain ⟨b1, b2, b3, b4, b5⟩ := h2.segS eS_len
  exact ⟨⟨a3, b3, nf, no, a1, b1, a4, b4, a2, b2⟩, ⟨a5, b5⟩⟩
theorem seg_one {α : Type} {w : World} {b : Nat} {T : TypeId} {size : Nat} {enc : α → List Value} {x : α} {cs : Array Value} (hb : Blk w b T cs) (he : enc x = cs.toList) (_h0 : (enc x).length = size) : Seg w w.heap.size size enc (some ⟨b, 0, none⟩) [x] := by
  intro k y hk
  cases k with
  | zero =>
    simp only [List.getElem?_cons_zero, Option.some.injEq] at hk
    subst hk
    refine ⟨b, 0, rfl, hb.lt, fun j u hu => ?_⟩
    rw [show 0 + 0 * size + j = j by omega, hb.cell j, ← hu, he]
    simp
  | succ k => simp at hk
/-- a list cut in two, with one element between the parts, joined -/
theorem concat_insF (l : List Fac) (A : Option Addr) (cap N : Nat) (x : Fac) (g b1 : Nat) (W : World) (hl : l.length ≤ 4000) (hN : N ≤ l.length) (hc : l.length ≤ cap) (hs : Seg W W.heap.size 6 eF A l) (g1 : Blk W b1 33 (fA x))
    (hg : Blk W g 28 #[.slice A N cap, .slice (some ⟨b1, 0, none⟩) 1 1, .slice (subA A cap N 6) (l.length - N) (cap - N)]) :
    Calls Tryd.prog 26 #[.slice (some ⟨g, 0, none⟩) 3 3] W fun e w' => (∃ v, e = .returned v ∧ Own w' W.heap.size 33 6 eF v (insA l N x)) ∧ Below W.heap.size W w' := by
  have h1 : (l.take N).length = N := by rw [List.length_take]; omega
  have h3 : (l.drop N).length = l.length - N := by rw [List.length_drop]
  have h := concatFac A (some ⟨b1, 0, none⟩) (subA A cap N 6) cap 1 (cap - N) (l.take N) [x] (l.drop N) g W (by rw [h1, h3]; exact hg) (by omega) (by simp) (by omega) (by simp) (take_seg hs) (seg_one g1 rfl rfl) (drop_seg hs hc)
  exact h
theorem concat_insO (l : List (Int × Int)) (A : Option Addr) (cap N : Nat) (x : Int × Int) (g b1 : Nat) (W : World) (hl : l.length ≤ 4000) (hN : N ≤ l.length) (hc : l.length ≤ cap) (hs : Seg W W.heap.size 2 eS A l) (g1 : Blk W b1 35 (bA x))
    (hg : Blk W g 29 #[.slice A N cap, .slice (some ⟨b1, 0, none⟩) 1 1, .slice (subA A cap N 2) (l.length - N) (cap - N)]) :
    Calls Tryd.prog 31 #[.slice (some ⟨g, 0, none⟩) 3 3] W fun e w' => (∃ v, e = .returned v ∧ Own w' W.heap.size 35 2 eS v (insA l N x)) ∧ Below W.heap.size W w' := by
  have h1 : (l.take N).length = N := by rw [List.length_take]; omega
  have h3 : (l.drop N).length = l.length - N := by rw [List.length_drop]
  have h := concatBef A (some ⟨b1, 0, none⟩) (subA A cap N 2) cap 1 (cap - N) (l.take N) [x] (l.drop N) g W (by rw [h1, h3]; exact hg) (by omega) (by simp) (by omega) (by simp) (take_seg hs) (seg_one g1 rfl rfl) (drop_seg hs hc)
  exact h
end Go.Proofs.YtemkghgcdpmlbaaDoor
/- What the walk of file.part keeps: two lists of the call's own, behind a variable, and a set of Refs in a map. -/
namespace Go.Proofs.YtemkghgcdpmlbaaDoor
open Go.RowKit Go.Sort Go.Maps

theorem keyI : Keyed Tryd.prog 3 := int_keyed Tryd.underlying3
theorem plainElem_bool_inv {H : Type} {P : Program} {e : TypeId} (he : P.underlying e = some .bool) {v : Value} {z : DataW H × List MemPlace} (h : plainElem P e v = some z) : ∃ c, v = .bool c ∧ z = (.lit (.bool c), []) := by
  unfold plainElem at h
  rw [he] at h
  cases v <;> simp at h
  subst h
  exact ⟨_, rfl, rfl⟩
/-- the look-up of a bool -/
theorem lookup_bool {w : World} {b n : Nat} {D : DataW Unit} (h : w.ownsMap Tryd.prog 3 (plainElem Tryd.prog 4) b n D) {r : Int} (hr : I64 r) :
    ∃ c, (Instr.lookup 99 (.map (some b)) (.int .i64 r) false).run Tryd.prog w = .ok (.bool c) w ∧ D.atKey (.int .i64 r) (.lit (.bool false)) = .lit (.bool c) := by
  have hkey := keyOf_int_mk (P := Tryd.prog) (k := 3) (q := .i64) (a := r) Tryd.underlying3 (by simp [Lit.wf, IntKind.min, IntKind.max, IntKind.signed, IntKind.bits]; omega)
  obtain ⟨v, ps, hrun, hv⟩ := h.lookup keyI Tryd.underlying99 (z := .bool false) (by kernel_rfl) (plainElem_bool Tryd.underlying4 false) hkey
  obtain ⟨c, rfl, hc⟩ := plainElem_bool_inv Tryd.underlying4 hv
  simp only [Prod.mk.injEq] at hc
  exact ⟨c, hrun, hc.1⟩
/-- the map holds the Refs of the list -/
def MapR (D : DataW Unit) (L : List Fac) : Prop := ∀ r : Int, D.atKey (.int .i64 r) (.lit (.bool false)) = .lit (.bool (hasRef L r))
theorem MapR.start : MapR (.map []) [] := fun _ => rfl
theorem MapR.next {D : DataW Unit} {L : List Fac} {x : Fac} (h : MapR D L) (hD : IsMap D) : MapR (D.put (.int .i64 x.ref) (.lit (.bool true))) (L ++ [x]) := fun r => by
  have hkey : WideAt.IsKeyLit (.int .i64 x.ref) := by trivial
  by_cases e : r = x.ref
  · subst e
    rw [atKey_put_same hD hkey]
    simp [hasRef]
  · rw [atKey_put_other (by simpa using e), h r]
    have : hasRef (L ++ [x]) r = hasRef L r := by
      unfold hasRef
      rw [List.any_append]
      have : (x.ref == r) = false := by simpa using fun h => e h.symm
      simp [this]
    rw [this]
theorem lookup_R {w : World} {b n : Nat} {D : DataW Unit} {L : List Fac} (h : w.ownsMap Tryd.prog 3 (plainElem Tryd.prog 4) b n D) (hm : MapR D L) {r : Int} (hr : I64 r) :
    (Instr.lookup 99 (.map (some b)) (.int .i64 r) false).run Tryd.prog w = .ok (.bool (hasRef L r)) w := by
  obtain ⟨c, h1, h2⟩ := lookup_bool h hr
  rw [hm r] at h2
  simp only [DataW.lit.injEq, Lit.bool.injEq] at h2
  rw [h1, h2]
/-- the state of part: the file, the result, the variable with the lists, the map -/
structure PS (w : World) (f : Fil) (k : Fm) (bf br b5 bM B : Nat) (L1 : List Fac) (L2 : List (Int × Int)) (A1 : Option Addr) (n1 : Nat) (A2 : Option Addr) (n2 cnt : Nat) (D : DataW Unit) (W : World) : Prop where
  gf : Blk W bf 31 (flA f k)
  gr : Blk W br 31 zF
  g5 : Blk W b5 31 #[.int .i64 f.house, .slice A1 L1.length n1, .slice A2 L2.length n2]
  o1 : Own W B 33 6 eF (.slice A1 L1.length n1) L1
  o2 : Own W B 35 2 eS (.slice A2 L2.length n2) L2
  mp : W.ownsMap Tryd.prog 3 (plainElem Tryd.prog 4) bM cnt D
  mr : MapR D L1
  hb : Below w.heap.size w W
  lt : w.heap.size ≤ bf ∧ bf < br ∧ br < b5 ∧ b5 < bM ∧ bM < B ∧ B ≤ W.heap.size
section
variable {w W W' : World} {f : Fil} {k : Fm} {bf br b5 bM B : Nat} {L1 : List Fac} {L2 : List (Int × Int)} {A1 A2 : Option Addr} {n1 n2 cnt : Nat} {D : DataW Unit}
theorem PS.then_ (h : PS w f k bf br b5 bM B L1 L2 A1 n1 A2 n2 cnt D W) (hb : Below W.heap.size W W') : PS w f k bf br b5 bM B L1 L2 A1 n1 A2 n2 cnt D W' :=
  ⟨h.gf.then_ hb, h.gr.then_ hb, h.g5.then_ hb, h.o1.below hb, h.o2.below hb, h.mp.kept (grown_of_below hb none) (by simp), h.mr, below_then h.hb hb, by have := h.lt; have := hb.size; omega⟩
theorem own_row_ne {α : Type} {T : TypeId} {size : Nat} {enc : α → List Value} {v : Value} {xs : List α} (h : Own W B T size enc v xs) {b : Nat} (hb : b < B) : some b ≠ v.ownBlock := fun e => by
  have := (World.ownsRow.lt h b e.symm).1
  omega
/-- one fact more: appended, stored behind the variable -/
theorem PS.app1 (h : PS w f k bf br b5 bM B L1 L2 A1 n1 A2 n2 cnt D W) {x : Fac} {A' : Option Addr} {n' : Nat} {Y : World} (hO : Own W' B 33 6 eF (.slice A' (L1 ++ [x]).length n') (L1 ++ [x])) (hb : Below B W W') (hg : W.grownBy W' (Value.slice A1 L1.length n1).ownBlock)
    (hY : Y = W'.setCell ⟨b5, 1, none⟩ (.slice A' (L1 ++ [x]).length n')) (ho2 : Own W' B 35 2 eS (.slice A2 L2.length n2) L2) :
    Blk Y bf 31 (flA f k) ∧ Blk Y br 31 zF ∧ Blk Y b5 31 #[.int .i64 f.house, .slice A' (L1 ++ [x]).length n', .slice A2 L2.length n2] ∧ Own Y B 33 6 eF (.slice A' (L1 ++ [x]).length n') (L1 ++ [x]) ∧ Own Y B 35 2 eS (.slice A2 L2.length n2) L2 ∧
      Y.ownsMap Tryd.prog 3 (plainElem Tryd.prog 4) bM cnt D ∧ Below w.heap.size w Y ∧ B ≤ Y.heap.size := by
  have hl := h.lt
  have g5 := h.g5.below hb (by omega)
  have u : Upd W' Y b5 := by rw [hY]; exact (Upd.refl _ _).setCell 1 _
  refine ⟨(h.gf.below hb (by omega)).upd u (by omega), (h.gr.below hb (by omega)).upd u (by omega), by rw [hY]; exact g5.set_ 1 _, hO.updT u g5 (by decide), ho2.updT u g5 (by decide), ?_, (h.hb.trans (hb.mono (by omega))).trans (u.b _ (by omega)), by rw [u.s]; have := hb.size; omega⟩
  rw [hY]
  exact (h.mp.kept hg (own_row_ne h.o1 (by omega))).setCell (by show bM ≠ b5; omega) _
/-- .. and its Ref entered in the map -/
theorem PS.next1 {Y Z : World} {x : Fac} {A' : Option Addr} {n' : Nat} (hl : w.heap.size ≤ bf ∧ bf < br ∧ br < b5 ∧ b5 < bM ∧ bM < B) (hm : MapR D L1)
    (h : Blk Y bf 31 (flA f k) ∧ Blk Y br 31 zF ∧ Blk Y b5 31 #[.int .i64 f.house, .slice A' (L1 ++ [x]).length n', .slice A2 L2.length n2] ∧ Own Y B 33 6 eF (.slice A' (L1 ++ [x]).length n') (L1 ++ [x]) ∧ Own Y B 35 2 eS (.slice A2 L2.length n2) L2 ∧
      Y.ownsMap Tryd.prog 3 (plainElem Tryd.prog 4) bM cnt D ∧ Below w.heap.size w Y ∧ B ≤ Y.heap.size)
    (hz : Z.ownsMap Tryd.prog 3 (plainElem Tryd.prog 4) bM (cnt + 1) (D.put (.int .i64 x.ref) (.lit (.bool true)))) (hg : Y.grownBy Z (some bM)) :
    PS w f k bf br b5 bM B (L1 ++ [x]) L2 A' n' A2 n2 (cnt + 1) (D.put (.int .i64 x.ref) (.lit (.bool true))) Z := by
  obtain ⟨gf, gr, g5, o1, o2, mp, hb, hB⟩ := h
  have ne : ∀ {b : Nat}, b < bM → some b ≠ some bM := fun h e => by cases e; omega
  refine ⟨gf.grown hg (ne (by omega)), gr.grown hg (ne (by omega)), g5.grown hg (ne (by omega)), World.ownsRow.kept o1 hg ?_, World.ownsRow.kept o2 hg ?_, hz, hm.next mp.isMap, hb.grown hg hb.size (fun k e => by cases e; omega), by have := hg.size; omega⟩
  · exact .inr fun e => own_row_ne o1 (show bM < B by omega) e.symm
  · exact .inr fun e => own_row_ne o2 (show bM < B by omega) e.symm
/-- one order more -/
theorem PS.app2 (h : PS w f k bf br b5 bM B L1 L2 A1 n1 A2 n2 cnt D W) {x : Int × Int} {A' : Option Addr} {n' : Nat} {Y : World} (hO : Own W' B 35 2 eS (.slice A' (L2 ++ [x]).length n') (L2 ++ [x])) (hb : Below B W W') (hg : W.grownBy W' (Value.slice A2 L2.length n2).ownBlock)
    (hY : Y = W'.setCell ⟨b5, 2, none⟩ (.slice A' (L2 ++ [x]).length n')) (ho1 : Own W' B 33 6 eF (.slice A1 L1.length n1) L1) :
    PS w f k bf br b5 bM B L1 (L2 ++ [x]) A1 n1 A' n' cnt D Y := by
  have hl := h.lt
  have g5 := h.g5.below hb (by omega)
  have u : Upd W' Y b5 := by rw [hY]; exact (Upd.refl _ _).setCell 2 _
  refine ⟨(h.gf.below hb (by omega)).upd u (by omega), (h.gr.below hb (by omega)).upd u (by omega), by rw [hY]; exact g5.set_ 2 _, ho1.updT u g5 (by decide), hO.updT u g5 (by decide), ?_, h.mr, (h.hb.trans (hb.mono (by omega))).trans (u.b _ (by omega)), by rw [u.s]; have := hb.size; omega⟩
  rw [hY]
  exact (h.mp.kept hg (own_row_ne h.o2 (by omega))).setCell (by show bM ≠ b5; omega) _
/-- a list of another type is not touched by an append -/
theorem Own.grownT {α β : Type} {T T' : TypeId} {size size' : Nat} {enc : α → List Value} {enc' : β → List Value} {v v' : Value} {xs : List α} {ys : List β} (h : Own W B T size enc v xs) (h' : Own W B T' size' enc' v' ys) (ht : T ≠ T') (hg : W.grownBy W' v'.ownBlock) : Own W' B T size enc v xs := by
  refine World.ownsRow.kept h hg ?_
  rcases h.2 with ⟨e1, _⟩ | ⟨g, cap, cur, e1, _, hh, _⟩
  · exact .inl (by rw [e1]; rfl)
  · refine .inr fun e => ?_
    rw [e1] at e
    rcases h'.2 with ⟨e2, _⟩ | ⟨g', cap', cur', e2, _, hh', _⟩
    · rw [e2] at e; cases e
    · rw [e2] at e
      obtain rfl : g = g' := Option.some.inj e
      have h2 := hh.symm.trans hh'
      injection h2 with h2
      injection h2 with _ h3 _
      exact ht h3
theorem PS.start (w : World) (f : Fil) (k : Fm) : PS w f k w.heap.size (w.heap.size + 1) (w.heap.size + 2) (w.heap.size + 3) (w.heap.size + 4) [] [] none 0 none 0 0 (.map [])
    ((((w.alloc (.cells (flA f k) 31)).alloc (.cells zF 31)).alloc (.cells #[.int .i64 f.house, .slice none 0 0, .slice none 0 0] 31)).alloc (.map #[] 0)) := by
  refine ⟨(((Blk.new _ _ _).alloc _).alloc _).alloc _, ((blk_at (by simp)).alloc _).alloc _, (blk_at (by simp)).alloc _, Own.nil _ _ _ _ _, Own.nil _ _ _ _ _, ?_, MapR.start, by (repeat (first | with_reducible assumption | with_reducible exact Below.refl _ _ | with_reducible refine below_drewN ?_ _ | with_reducible refine Below.drew ?_ | with_reducible refine below_alloc ?_ _ | with_reducible refine Below.setCell ?_ (by first | omega | (simp; done) | (simp; omega)) _ | with_reducible refine below_then ?_ (by with_reducible assumption) | (refine below_then (a := World.drew _) ?_ (by with_reducible assumption)))), by simp⟩
  have := World.ownsMap_made (H := Unit) (((w.alloc (.cells (flA f k) 31)).alloc (.cells zF 31)).alloc (.cells #[.int .i64 f.house, .slice none 0 0, .slice none 0 0] 31)) Tryd.prog 3 (plainElem Tryd.prog 4)
  simpa using this
end
theorem flt_yes {α : Type} {p : α → Bool} {l : List α} {i : Nat} {x : α} (hx : l[i]? = some x) (h : p x = true) : (l.take (i + 1)).filter p = (l.take i).filter p ++ [x] := by
  rw [List.take_add_one, hx, List.filter_append]
  simp [h]
theorem flt_no {α : Type} {p : α → Bool} {l : List α} {i : Nat} {x : α} (hx : l[i]? = some x) (h : p x = false) : (l.take (i + 1)).filter p = (l.take i).filter p := by
  rw [List.take_add_one, hx, List.filter_append]
  simp [h]
theorem flt_len {α : Type} {p : α → Bool} {l : List α} {i n : Nat} (h : l.length ≤ n) : ((l.take i).filter p).length ≤ n :=
  Nat.le_trans (List.length_filter_le _ _) (Nat.le_trans (by rw [List.length_take]; omega) h)
theorem flt_lt {α : Type} {p : α → Bool} {l : List α} {i n : Nat} (h : l.length ≤ n) (hi : i < l.length) : ((l.take i).filter p).length < n :=
  Nat.lt_of_le_of_lt (List.length_filter_le _ _) (by rw [List.length_take]; omega)
end Go.Proofs.YtemkghgcdpmlbaaDoor
