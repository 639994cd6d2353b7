/- Contracts of functions and plain laws, joined: Qt, Rz, Fb1, Fd1, Fd2. -/
import Derived.StillTail
import Derived.Lib.QuietBelow
import Derived.Test.YtemkghgcdpmlbaaDoorMb3
import Derived.Deep.CutRange
import Derived.Test.YtemkghgcdpmlbaaDoorMb1
import Derived.Test.YtemkghgcdpmlbaaDoorMb2
import Derived.Laws.Concat
import Derived.Lib.ItoaLen
/- A region that draws its order: reads and quiet calls (whose callees leave all that was there as it was) in whatever order, and behind all of them a tail whose operations come one behind the other, but for plain moves. One walk of the order of the text serves. -/
namespace Go.Proofs.YtemkghgcdpmlbaaDoor
open Go.RowKit Go.Sort

/-- what is asked at a panic looks at the deferred calls alone -/
def PanOk (Q : Exit → Act → World → Prop) : Prop := ∀ c (a a' : Act) w, a'.defers = a.defers → Q (.panic c) a w → Q (.panic c) a' w
theorem panOk_body {P : Program} {fn : Func} {R : Ending → World → Prop} : PanOk (bodyPost P fn R) := fun _ _ _ _ hd h => ⟨hd.trans h.1, h.2⟩
theorem panOk_then {K : Act → World → Prop} {Q : Exit → Act → World → Prop} (h : PanOk Q) : PanOk (Exit.then K Q) := fun c a a' w hd hq => h c a a' w hd hq
theorem panOk_block {id : Nat} {Q : Exit → Act → World → Prop} (h : PanOk Q) : PanOk (Exit.inBlock id Q) := fun c a a' w hd hq => h c a a' w hd hq

section
variable {P : Program} {ops : Array Oper} {md : Region.Mode} {C : World → Prop} {n : Nat}

/-- t waits for i, by itself or through others -/
def anc (md : Region.Mode) (ops : Array Oper) : Nat → Nat → Nat → Bool
  | 0, t, i => Region.waitsFor md ops t i
  | f + 1, t, i => Region.waitsFor md ops t i || (List.range ops.size).any fun j => Region.waitsFor md ops t j && anc md ops f j i

/-- what is listed is closed under what it waits for -/
def Cl (md : Region.Mode) (ops : Array Oper) (listed : Array Bool) : Prop :=
  ∀ j oj, ops[j]? = some oj → listed.getD j false = true → ∀ e ∈ oj.after, Region.binds md e = true → listed.getD e.on false = true

theorem Cl.set {i : Nat} {listed : Array Bool} (h : Cl md ops listed) (hi : i ∈ Region.ready md ops listed) : Cl md ops (listed.setIfInBounds i true) := by
  obtain ⟨_, oi, hoi, hall⟩ := mem_ready.1 hi
  intro j oj hj hl e he hb
  by_cases hij : i = j
  · subst hij
    obtain rfl : oj = oi := Option.some.inj (hj.symm.trans hoi)
    exact getD_set_true (hall e he hb)
  · rw [getD_set_ne false hij] at hl
    exact getD_set_true (h j oj hj hl e he hb)

theorem anc_listed {listed : Array Bool} (h : Cl md ops listed) : ∀ (f t i : Nat) (ot : Oper), ops[t]? = some ot → (∀ e ∈ ot.after, Region.binds md e = true → listed.getD e.on false = true) → anc md ops f t i = true → listed.getD i false = true
  | 0, t, i, ot, hot, hall, ha => by
    obtain ⟨o', ho', e, he, hb, hon⟩ := Region.waitsFor_spec ha
    obtain rfl : o' = ot := Option.some.inj (ho'.symm.trans hot)
    rw [← hon]; exact hall e he hb
  | f + 1, t, i, ot, hot, hall, ha => by
    simp only [anc, Bool.or_eq_true] at ha
    rcases ha with ha | ha
    · exact anc_listed h 0 t i ot hot hall ha
    · obtain ⟨j, hj, hj2⟩ := List.any_eq_true.1 ha
      simp only [Bool.and_eq_true] at hj2
      obtain ⟨o', ho', e, he, hb, hon⟩ := Region.waitsFor_spec hj2.1
      obtain rfl : o' = ot := Option.some.inj (ho'.symm.trans hot)
      have hl := hall e he hb
      rw [hon] at hl
      have hjs : j < ops.size := List.mem_range.1 hj
      exact anc_listed h f j i _ (Array.getElem?_eq_getElem hjs) (h j _ (Array.getElem?_eq_getElem hjs) hl) hj2.2

/-- each operation that is not of the head waits for each of the head -/
def dirB (md : Region.Mode) (ops : Array Oper) (hs : List Nat) : Bool :=
  (List.range ops.size).all fun t => hs.contains t || hs.all fun i => anc md ops ops.size t i

theorem dirB_not {hs : List Nat} {t i : Nat} {listed : Array Bool} (h : dirB md ops hs = true) (hcl : Cl md ops listed) (ht : hs.contains t = false) (hi : i ∈ hs) (hu : listed.getD i true = false) : t ∉ Region.ready md ops listed := by
  intro hr
  obtain ⟨_, ot, hot, hall⟩ := mem_ready.1 hr
  have h1 := List.all_eq_true.1 h t (List.mem_range.2 (Array.getElem?_eq_some_iff.1 hot).1)
  rw [ht, Bool.false_or] at h1
  have h2 := List.all_eq_true.1 h1 i hi
  have h3 := anc_listed hcl ops.size t i ot hot hall h2
  rw [getD_both hu] at h3
  cases h3

/-- a plain move -/
def pureAt (ops : Array Oper) (k : Nat) : Bool :=
  match ops[k]? with
  | some o => o.guard.isNone && match o.op with | .move _ => true | .extract _ _ => true | _ => false
  | none => false
/-- a plain move, guarded or not -/
def pureG (ops : Array Oper) (k : Nat) : Bool :=
  match ops[k]? with
  | some o => match o.op with | .move _ => true | .extract _ _ => true | _ => false
  | none => false

theorem exec_pure {o : Oper} {ρ : Operand → Value} (h : (match o.op with | .move _ => true | .extract _ _ => true | _ => false) = true) :
    (∃ v, execOp ρ o = .pure (.value v)) ∨ (∃ x, execOp ρ o = .halt (.stuck x)) := by
  unfold execOp
  split at h
  · rename_i x ho
    rw [ho]; exact .inl ⟨_, rfl⟩
  · rename_i x ix ho
    rw [ho]
    simp only [Instr.extract]
    split
    · rename_i vs _
      cases hv : vs[ix]? with
      | some v => exact .inl ⟨v, rfl⟩
      | none => exact .inr ⟨_, rfl⟩
    · exact .inr ⟨_, rfl⟩
  · cases h

/-- the operations of these numbers -/
def opsAt (ops : Array Oper) : List Nat → List Oper
  | [] => []
  | k :: ks => (ops[k]?).toList ++ opsAt ops ks

/-- the tail, in the order ks: each operation is the only one that may come up, or a plain move apart from the others -/
def tlB (md : Region.Mode) (ops : Array Oper) : List Nat → Array Bool → Bool
  | [], listed => (Region.ready md ops listed).isEmpty
  | k :: ks, listed => (ops[k]?).isSome && (decide (Region.ready md ops listed = [k]) || (pureG ops k && (Region.ready md ops listed).contains k && Region.free md ops listed k)) && tlB md ops ks (listed.setIfInBounds k true)

theorem opsAt_cons {k : Nat} {ks : List Nat} {o : Oper} (h : ops[k]? = some o) : opsAt ops (k :: ks) = o :: opsAt ops ks := by simp [opsAt, h]

theorem wpAny_of_tl {Q : Exit → Act → World → Prop} (hs : Region.noSelect ops = true) (hQ : PanOk Q) : ∀ (ks : List Nat) (listed : Array Bool) (a : Act) (w : World),
    tlB md ops ks listed = true → wpList P ops Q (opsAt ops ks) a w → wpAny P md ops Q ks.length listed a w
  | [], listed, a, w, hB, h => ⟨by simpa [tlB] using hB, h⟩
  | k :: ks, listed, a, w, hB, h => by
    simp only [tlB, Bool.and_eq_true, Bool.or_eq_true, decide_eq_true_eq] at hB
    obtain ⟨⟨hsm, hB1⟩, hB2⟩ := hB
    obtain ⟨o, h0⟩ := Option.isSome_iff_exists.1 hsm
    rw [opsAt_cons h0] at h
    have plain : Region.ready md ops listed = [k] → wpAny P md ops Q (ks.length + 1) listed a w := fun hr => by
      refine ⟨fun h1 => (by rw [hr] at h1; cases h1), fun i hi => ?_⟩
      rw [hr] at hi
      obtain rfl : i = k := by simpa using hi
      have hw : wpOp P ops Q i (wpList P ops Q (opsAt ops ks)) a w := by unfold wpOp; simp only [h0]; exact h
      exact wpOp_mono (fun a' w' h' => wpAny_of_tl hs hQ ks _ a' w' hB2 h') hw
    rcases hB1 with hr | ⟨⟨hp, hr⟩, hf⟩
    · exact plain hr
    · unfold pureG at hp
      simp only [h0] at hp
      unfold wpList at h
      by_cases hw : Region.wanted o (yielded ops a.tmps) = true
      case neg =>
        rw [if_neg hw] at h
        have hy : Yields P ops o undef a := .inr ⟨by simpa using hw, rfl⟩
        exact wpAny_first h0 (Region.noSelect_spec hs) (fun c a' w' hq => hQ c _ _ w' (by cases o.dst <;> rfl) hq) ks.length listed a w (Region.free_spec h0 hf) (by simpa using hr) hy (wpAny_of_tl hs hQ ks _ _ w hB2 h)
      rw [if_pos hw] at h
      rcases exec_pure (ρ := a.eval) hp with ⟨v, hv⟩ | ⟨x, hx⟩
      · have hy : Yields P ops o v a := .inl ⟨hw, fun w' => by rw [hv]; rfl⟩
        have h3 : wpList P ops Q (opsAt ops ks) (a.put o.dst v) w := by
          rcases h with h | h
          · unfold Oper.wp at h; rw [hv] at h; exact h
          · obtain ⟨⟨hm, _⟩, _⟩ := h
            rw [hv] at hm
            simp [Sem.runT] at hm
        exact wpAny_first h0 (Region.noSelect_spec hs) (fun c a' w' hq => hQ c _ _ w' (by cases o.dst <;> rfl) hq) ks.length listed a w (Region.free_spec h0 hf) (by simpa using hr) hy (wpAny_of_tl hs hQ ks _ _ w hB2 h3)
      · exfalso
        rcases h with h | h
        · unfold Oper.wp at h; rw [hx] at h; exact h
        · obtain ⟨⟨hm, _⟩, _⟩ := h
          rw [hx] at hm
          simp [Sem.runT] at hm

/-- nothing of the head may still come up -/
def overB (md : Region.Mode) (ops : Array Oper) (hs : List Nat) (listed : Array Bool) : Bool := (Region.ready md ops listed).all fun j => !hs.contains j

/-- the head in whatever order, then L, the tail being ready in its order -/
def hdQ (P : Program) (md : Region.Mode) (ops : Array Oper) (C : World → Prop) (hs ts : List Nat) (L : Act → Prop) : Nat → Array Bool → Act → Prop
  | 0, listed, a => (overB md ops hs listed = true ∧ tlB md ops ts listed = true) ∧ L a
  | f + 1, listed, a => Region.ready md ops listed ≠ [] ∧ ∀ i ∈ Region.ready md ops listed, hs.contains i = true ∧ qOp P ops C i (hdQ P md ops C hs ts L f (listed.setIfInBounds i true)) a

theorem wpAny_of_hdQ {hs ts : List Nat} {L : Act → Prop} {g : Nat} {Q' : Exit → Act → World → Prop} (hL : ∀ listed a w, C w → tlB md ops ts listed = true → L a → wpAny P md ops Q' g listed a w) :
    ∀ (f : Nat) (listed : Array Bool) (a : Act) (w : World), C w → hdQ P md ops C hs ts L f listed a → wpAny P md ops Q' (f + g) listed a w
  | 0, listed, a, w, hw, h => by rw [Nat.zero_add]; exact hL _ _ _ hw h.1.2 h.2
  | f + 1, listed, a, w, hw, h => by
    rw [show f + 1 + g = (f + g) + 1 by omega]
    exact ⟨fun h0 => absurd h0 h.1, fun i hi => wpOp_of_qOp hw (fun a' w' hw' h' => wpAny_of_hdQ hL f _ a' w' hw' h') (h.2 i hi).2⟩

theorem hdQ_first {hs ts : List Nat} {L : Act → Prop} {i : Nat} {oi : Oper} {v : Value} (hi : ops[i]? = some oi) (hsel : ∀ (j : Nat) (o : Oper) cs b, ops[j]? = some o → o.op ≠ .select cs b) (hd : dirB md ops hs = true) (hin : i ∈ hs) :
    ∀ (f : Nat) (listed : Array Bool) (a : Act), Cl md ops listed →
      (∀ j oj, ops[j]? = some oj → j ≠ i → listed.getD j true = false → (∀ e ∈ oj.after, Region.binds md e = true → e.on ≠ i) → oi.apart ops oj = true) →
      i ∈ Region.ready md ops listed → YieldsIn P ops C oi v a → hdQ P md ops C hs ts L f (listed.setIfInBounds i true) (a.put oi.dst v) → hdQ P md ops C hs ts L (f + 1) listed a := by
  intro f
  induction f with
  | zero =>
    intro listed a hcl _ hr hy H
    have hun := (mem_ready.1 hr).1
    refine ⟨fun h => (by rw [h] at hr; cases hr), fun j hj => ?_⟩
    have hjn : hs.contains j = true := by
      cases hc : hs.contains j with
      | true => rfl
      | false => exact absurd hj (dirB_not hd hcl hc hin hun)
    refine ⟨hjn, ?_⟩
    by_cases hji : j = i
    · subst hji; exact hy.qOp hi H
    · have h5 := List.all_eq_true.1 H.1.1 j (ready_mono hj hji)
      rw [hjn] at h5
      cases h5
  | succ f ih =>
    intro listed a hcl hfree hr hy H
    have hun := (mem_ready.1 hr).1
    refine ⟨fun h => (by rw [h] at hr; cases hr), fun j hj => ?_⟩
    have hjn : hs.contains j = true := by
      cases hc : hs.contains j with
      | true => rfl
      | false => exact absurd hj (dirB_not hd hcl hc hin hun)
    refine ⟨hjn, ?_⟩
    by_cases hji : j = i
    · subst hji; exact hy.qOp hi H
    · have h1 := (H.2 j (ready_mono hj hji)).2
      obtain ⟨hjun, oj, hoj, hall⟩ := mem_ready.1 hj
      have hnot : ∀ e ∈ oj.after, Region.binds md e = true → e.on ≠ i := fun e he hb heq => by
        have h3 := hall e he hb
        rw [heq, getD_both hun] at h3
        cases h3
      have h2 := qOp_put hoj (hfree j oj hoj hji hjun hnot) (fun cs b => hsel i oi cs b hi) (fun cs b => hsel j oj cs b hoj) hy h1
      refine qOp_mono (fun a' h3 => ih (listed.setIfInBounds j true) a' (hcl.set hj) (fun k ok hk hki hku hno => hfree k ok hk hki ?_ hno) (ready_mono hr (Ne.symm hji)) h3.1 ?_) h2
      · by_cases hjk : j = k
        · subst hjk; exact hjun
        · rwa [getD_set_ne true hjk] at hku
      · rw [Array.setIfInBounds_comm _ _ hji]
        exact h3.2

/-- the head comes up in the order ks, each apart from what does not wait for it -/
def headB (md : Region.Mode) (ops : Array Oper) (hs ts : List Nat) : List Nat → Array Bool → Bool
  | [], listed => overB md ops hs listed && tlB md ops ts listed
  | k :: ks, listed => (ops[k]?).isSome && hs.contains k && (Region.ready md ops listed).contains k && Region.free md ops listed k && headB md ops hs ts ks (listed.setIfInBounds k true)

theorem hdQ_lex {hs ts : List Nat} {L : Act → Prop} (hsel : Region.noSelect ops = true) (hd : dirB md ops hs = true) : ∀ (ks : List Nat) (listed : Array Bool) (a : Act), Cl md ops listed →
    headB md ops hs ts ks listed = true → wpQuiet P ops C L (opsAt ops ks) a → hdQ P md ops C hs ts L ks.length listed a
  | [], listed, a, _, hB, h => ⟨by simpa [headB] using hB, h⟩
  | k :: ks, listed, a, hcl, hB, h => by
    simp only [headB, Bool.and_eq_true] at hB
    obtain ⟨⟨⟨⟨hsm, hk⟩, hr⟩, hf⟩, hB'⟩ := hB
    obtain ⟨o, h0⟩ := Option.isSome_iff_exists.1 hsm
    rw [opsAt_cons h0] at h
    have hr' : k ∈ Region.ready md ops listed := by simpa using hr
    have hst : qOp P ops C k (wpQuiet P ops C L (opsAt ops ks)) a := by unfold qOp; simp only [h0]; exact h
    obtain ⟨v, hy, hK⟩ := yieldsIn_of_qOp h0 hst
    exact hdQ_first h0 (Region.noSelect_spec hsel) hd (by simpa using hk) ks.length listed a hcl (Region.free_spec h0 hf) hr' hy (hdQ_lex hsel hd ks _ _ (hcl.set hr') hB' hK)

/-- the Bool that is asked of the region: hs: the head's operations, in an order in which they may come up; ts: the tail's -/
def tailB (ops : Array Oper) (hs ts : List Nat) : Bool :=
  Region.noSelect ops && decide (hs.length + ts.length = ops.size) && dirB .any ops hs && headB .any ops hs ts hs (Array.replicate ops.size false)

theorem wp_region_qt {id : Nat} {Q : Exit → Act → World → Prop} {a : Act} {w : World} {l : List Oper} (hs ts : List Nat) (hm : P.follows .mixedOrders = true) (hB : tailB l.toArray hs ts = true) (hQ : PanOk Q)
    (h : wpQuiet P l.toArray (fun w' => ∃ p : Regrown, w' = grow (redrawn w p.d) p.os) (fun a' => ∀ w', (∃ p : Regrown, w' = grow (redrawn w p.d) p.os) → wpList P l.toArray Q (opsAt l.toArray ts) a' w') (opsAt l.toArray hs) a) :
    (Code.region id l.toArray true).wp P Q a w := by
  simp only [tailB, Bool.and_eq_true, decide_eq_true_eq] at hB
  obtain ⟨⟨⟨hsel, hn⟩, hd⟩, hlex⟩ := hB
  have H := hdQ_lex (md := .any) hsel hd hs _ a (fun j oj _ hl => by rw [getD_replicate_false] at hl; cases hl) hlex h
  refine wp_region_any hm ?_
  have := wpAny_of_hdQ (Q' := Q) (g := ts.length) (fun listed a' w' hC hs hL => wpAny_of_tl (md := .any) (Q := Q) hsel hQ ts listed a' w' hs (hL w' hC)) _ _ _ _
    (show ∃ p : Regrown, { w with drawn := w.drawn + 1 } = grow (redrawn w p.d) p.os from ⟨⟨w.drawn + 1, #[]⟩, by rw [grow_empty]; rfl⟩) H
  rwa [hn] at this
end

/-- a callee's contract that ends in Below, met in a world of the class -/
theorem qt_call {P : Program} {f : FuncId} {args : Array Value} {w : World} {v : Value} (h : ∀ W, Below w.heap.size w W → Calls P f args W fun e w' => e = .returned v ∧ Below W.heap.size W w') (d : Nat) (os : Array Obj) :
    Calls P f args (grow (redrawn w d) os) fun e w'' => e = .returned v ∧ ∃ p : Regrown, w'' = grow (redrawn w p.d) p.os := Calls.regrown_of (h _ (below_regrown w d os))
/-- the world behind the head, as a letter -/
theorem qt_world {w w' : World} (h : ∃ p : Regrown, w' = grow (redrawn w p.d) p.os) : Below w.heap.size w w' := by
  obtain ⟨p, rfl⟩ := h; exact below_regrown w p.d p.os
end Go.Proofs.YtemkghgcdpmlbaaDoor
/- Two ratios compared whole; a world named; a block made. (Small things of the ratio seat, where there are no laws on ratios.) -/
namespace Go.Proofs.YtemkghgcdpmlbaaDoor
open Go.RowKit

theorem name_wp {P : Program} {c : Code} {Q : Exit → Act → World → Prop} {a : Act} {w : World} (h : ∀ w', w' = w → c.wp P Q a w') : c.wp P Q a w := h w rfl
theorem blk_at {w : World} {n : Nat} {T : TypeId} {cs : Array Value} (h : n = w.heap.size) : Blk (w.alloc (.cells cs T)) n T cs := h ▸ Blk.new w T cs
theorem eqv2 (a b c d : Int) (w : World) : (Op.equalIn 10000 60 (.agg #[.int .i64 a, .int .i64 b]) (.agg #[.int .i64 c, .int .i64 d])).run Tryd.prog w = .ok (decide (a = c ∧ b = d)) w := by
  have e : (Tryd.prog.fieldsOf 60).toList = [{ name := "Num", type := 3, offset := 0, embedded := false, tag := "", pkgPath := "", byteOffset := 0 }, { name := "Den", type := 3, offset := 1, embedded := false, tag := "", pkgPath := "", byteOffset := 8 }] := by kernel_rfl
  have p1 : (part 3 #[.int .i64 a, .int .i64 b] 0).run Tryd.prog w = .ok (.int .i64 a) w := by kernel_rfl
  have p2 : (part 3 #[.int .i64 a, .int .i64 b] 1).run Tryd.prog w = .ok (.int .i64 b) w := by kernel_rfl
  have p3 : (part 3 #[.int .i64 c, .int .i64 d] 0).run Tryd.prog w = .ok (.int .i64 c) w := by kernel_rfl
  have p4 : (part 3 #[.int .i64 c, .int .i64 d] 1).run Tryd.prog w = .ok (.int .i64 d) w := by kernel_rfl
  have u := Tryd.underlying3
  show (Op.equalIn (9998 + 1 + 1) _ _ _).run _ _ = _
  rw [run_equalIn_agg w (9998 + 1) 60 _ _ (by kernel_rfl) (by kernel_rfl), e]
  simp only [Op.eqFields, Sem.run_bind, p1, p2, p3, p4, Result.andThen_ok, run_equalIn_int w 9998 3 .i64 .i64 _ _ u, ne_eq, Sem.run_ite, Sem.run_pure]
  by_cases h1 : a = c <;> by_cases h2 : b = d <;> simp [h1, h2]
/-- an element's address, where the list lies behind a variable -/
theorem idx_at {t : TypeId} {size : Nat} {A : Option Addr} {b0 o0 len cap k : Nat} (eA : A = some ⟨b0, o0, none⟩) (hk : k < len) (ht : Tryd.prog.underlying t = some (.slice (Tryd.prog.elem t))) (hs : ∀ W : World, (sizeOf (Tryd.prog.elem t)).run Tryd.prog W = .ok size W) (W : World) :
    (Instr.indexAt t (.slice A len cap) (.int .i64 (k : Nat))).run Tryd.prog W = .ok (.pointer (some ⟨b0, o0 + k * size, none⟩)) W := by
  rw [eA, run_indexAt_slice W t _ len cap .i64 k ht, if_pos ⟨by omega, by omega⟩, hs]
  simp [Addr.add]
end Go.Proofs.YtemkghgcdpmlbaaDoor
/- Files of evidence in memory; comparisons of facts and orders. -/
namespace Go.Proofs.YtemkghgcdpmlbaaDoor
open Go.RowKit Go.Sort

abbrev fA (x : Fac) : Array Value := #[.int .i64 x.ref, .int .i64 x.act, .int .i64 x.low, .int .i64 x.high, .int .i64 x.filed, .bool x.sec]
abbrev bA (b : Int × Int) : Array Value := #[.int .i64 b.1, .int .i64 b.2]
def eF (x : Fac) : List Value := [.int .i64 x.ref, .int .i64 x.act, .int .i64 x.low, .int .i64 x.high, .int .i64 x.filed, .bool x.sec]
theorem eF_len (x : Fac) : (eF x).length = 6 := rfl
theorem one_fac (y : Fac) : ∀ u ∈ eF y, u.oneCell' = true := by
  intro u hu
  simp only [eF, List.mem_cons, List.not_mem_nil, or_false] at hu
  rcases hu with rfl | rfl | rfl | rfl | rfl | rfl <;> rfl
theorem one_bef (y : Int × Int) : ∀ u ∈ eS y, u.oneCell' = true := by
  intro u hu
  simp only [eS, List.mem_cons, List.not_mem_nil, or_false] at hu
  rcases hu with rfl | rfl <;> rfl
/-- where the lists of a file lie -/
structure Fm where
  f : Option Addr
  fc : Nat
  o : Option Addr
  oc : Nat
abbrev flA (f : Fil) (m : Fm) : Array Value := #[.int .i64 f.house, .slice m.f f.facts.length m.fc, .slice m.o f.ords.length m.oc]
structure Filt (w : World) (f : Fil) (m : Fm) : Prop where
  sf : Seg w w.heap.size 6 eF m.f f.facts
  so : Seg w w.heap.size 2 eS m.o f.ords
  nf : f.facts.length ≤ 1000000
  no : f.ords.length ≤ 1000000
  cf : f.facts.length ≤ m.fc
  co : f.ords.length ≤ m.oc
  zf : m.f = none → f.facts = [] ∧ m.fc = 0
  zo : m.o = none → f.ords = [] ∧ m.oc = 0
  mf : m.fc ≤ 9223372036854775807
  mo : m.oc ≤ 9223372036854775807
theorem Filt.then_ {w w' : World} {f : Fil} {m : Fm} (h : Filt w f m) (hb : Below w.heap.size w w') : Filt w' f m :=
  ⟨(h.sf.below hb).more hb.size, (h.so.below hb).more hb.size, h.nf, h.no, h.cf, h.co, h.zf, h.zo, h.mf, h.mo⟩
/-- how two numbers compare -/
def cmpI (a b : Int) : Int := if a < b then -1 else if b < a then 1 else 0
def cmpO (x y : Int × Int) : Int := if cmpI x.1 y.1 = 0 then cmpI x.2 y.2 else cmpI x.1 y.1
theorem cmpI_lt {a b : Int} : decide (cmpI a b < 0) = decide (a < b) := by
  rw [Bool.eq_iff_iff]; simp only [decide_eq_true_eq]; unfold cmpI; split <;> (try split) <;> omega
theorem cmpI_eq {a b : Int} : cmpI a b = 0 ↔ a = b := by unfold cmpI; split <;> (try split) <;> omega
theorem cmpO_lt {x y : Int × Int} : cmpO x y < 0 ↔ ltO x y = true := by
  rw [ltO_iff]; unfold cmpO cmpI
  repeat' split
  all_goals omega
theorem cmpO_eq {x y : Int × Int} : cmpO x y = 0 ↔ x = y := by
  rw [Prod.ext_iff]; unfold cmpO cmpI
  repeat' split
  all_goals omega
theorem cmpO_bd (x y : Int × Int) : -1 ≤ cmpO x y ∧ cmpO x y ≤ 1 := by
  unfold cmpO cmpI
  repeat' split
  all_goals omega
theorem cmpI_bd (x y : Int) : -1 ≤ cmpI x y ∧ cmpI x y ≤ 1 := by
  unfold cmpI
  repeat' split
  all_goals omega

theorem isNaN_any (a : Int) (w : World) : Calls Tryd.prog 56 #[.int .i64 a] w fun e w' => e = .returned (.bool false) ∧ w = w' := by
  go_enter Tryd.func56, Tryd.ntmps56
  go_wp2
  go_ret
  exact ⟨rfl, rfl⟩
theorem cmp_any (a b : Int) (w : World) : Calls Tryd.prog 41 #[.int .i64 a, .int .i64 b] w fun e w' => e = .returned (.int .i64 (cmpI a b)) ∧ w = w' := by
  have HN := Lib.hid (fun (x : Int) W => isNaN_any x W)
  by_cases h1 : a < b
  · have e : cmpI a b = -1 := by unfold cmpI; rw [if_pos h1]
    rw [e]
    clear e
    go_enter Tryd.func41, Tryd.ntmps41
    go_wp2_with (go_at_call 56; (with_reducible refine (HN.out _ _).mono ?_); rintro e w' ⟨rfl, rfl⟩)
    go_ret
    exact ⟨rfl, rfl⟩
  · by_cases h2 : b < a
    · have e : cmpI a b = 1 := by unfold cmpI; rw [if_neg h1, if_pos h2]
      rw [e]
      clear e
      go_enter Tryd.func41, Tryd.ntmps41
      go_wp2_with (go_at_call 56; (with_reducible refine (HN.out _ _).mono ?_); rintro e w' ⟨rfl, rfl⟩)
      go_ret
      exact ⟨rfl, rfl⟩
    · have e : cmpI a b = 0 := by unfold cmpI; rw [if_neg h1, if_neg h2]
      rw [e]
      clear e
      go_enter Tryd.func41, Tryd.ntmps41
      go_wp2_with (go_at_call 56; (with_reducible refine (HN.out _ _).mono ?_); rintro e w' ⟨rfl, rfl⟩)
      go_ret
      exact ⟨rfl, rfl⟩
/-- the closure of ofRef -/
theorem ref1_any (x : Fac) (r : Int) (g : Nat) (w : World) (hg : Blk w g 3 #[.int .i64 r]) :
    Calls Tryd.prog 40 #[.agg (fA x), .pointer (some ⟨g, 0, none⟩)] w fun e w' => e = .returned (.int .i64 (cmpI x.ref r)) ∧ Below w.heap.size w w' := by
  have HN := Lib.hid (fun (a b : Int) W => cmp_any a b W)
  have c0 : w.cell? ⟨g, 0, none⟩ = some (.int .i64 r) := hg.cell 0
  have lg := hg.lt
  clear hg
  go_enter Tryd.func40, Tryd.ntmps40
  go_wp2_with (go_at_call 41; (with_reducible refine (HN.out _ _ _).mono ?_); rintro e w' ⟨rfl, rfl⟩)
  go_ret
  exact ⟨rfl, wa1 _ _⟩
end Go.Proofs.YtemkghgcdpmlbaaDoor
/- The standard library's functions that the texts of facts need, at every input: Itoa, Atoi, Cut; what the listed variables must hold (as in Rb7 at ratio's seat). -/
namespace Go.Proofs.YtemkghgcdpmlbaaDoor
open Go.RowKit

/-- what the library's variables hold -/
structure Lw (w : World) : Prop where
  tab : Lib.TabIs Tryd.prog w "internal/strconv.uint64pow10" .u64 Lib.pow10Tab
  sy : ∃ ev, w.cell? ⟨0, 0, none⟩ = some ev ∧ (ev = .nilIface ∨ ∃ te pe, ev = .iface te pe)
  rg : ∃ ev, w.cell? ⟨1, 0, none⟩ = some ev ∧ (ev = .nilIface ∨ ∃ te pe, ev = .iface te pe)
  ml : ∃ m, w.cell? ⟨2, 0, none⟩ = some (.int .i64 m)
theorem tab_below {P : Program} {w w' : World} {name : String} {k : IntKind} {zs : List Int} (h : Lib.TabIs P w name k zs) (hb : Below w.heap.size w w') : Lib.TabIs P w' name k zs := by
  unfold Lib.TabIs World.var? at *
  cases hg : P.globalNamed name with
  | none => simp [hg] at h
  | some g =>
    simp only [hg, Option.bind_some] at h ⊢
    have hlt : g < w.heap.size := by
      rcases Nat.lt_or_ge g w.heap.size with hl | hl
      · exact hl
      · rw [Array.getElem?_eq_none hl] at h; simp at h
    rw [hb.block g hlt]
    exact h
theorem Lw.below {w w' : World} (h : Lw w) (hb : Below w.heap.size w w') : Lw w' := by
  obtain ⟨e1, h1, h2⟩ := h.sy
  obtain ⟨e2, h3, h4⟩ := h.rg
  obtain ⟨m, h5⟩ := h.ml
  exact ⟨tab_below h.tab hb, ⟨e1, (hb.cell (block_lt_of_cell h1)).trans h1, h2⟩, ⟨e2, (hb.cell (block_lt_of_cell h3)).trans h3, h4⟩, ⟨m, (hb.cell (block_lt_of_cell h5)).trans h5⟩⟩
theorem itoa_any (n : Int) (w : World) (hL : Lw w) (h0 : -9223372036854775808 ≤ n) (h1 : n ≤ 9223372036854775807) :
    Calls Tryd.prog 38 #[.int .i64 n] w fun e w' => e = .returned (.string ⟨(Lib.itoa n).toArray⟩) ∧ Below w.heap.size w w' :=
  (Tryd.strconv_Itoa n h0 h1 w hL.tab).mono fun _ _ ⟨a, k, os, b⟩ => ⟨a, by subst b; exact below_regrown w (w.drawn + k) os⟩
theorem atoi_ok (s : ByteArray) (v : Int) (w : World) (hs : s.size ≤ 281474976710656) (h : Lib.atoiAll s.data.toList = .ok v) :
    Calls Tryd.prog 37 #[.string s] w fun e w' => e = .returned (.tuple #[.int .i64 v, .nilIface]) ∧ Below w.heap.size w w' :=
  (Tryd.strconv_Atoi_ok s (by omega) v h w).mono fun _ _ ⟨a, b⟩ => ⟨a, by
    rcases b with rfl | ⟨t, rfl⟩
    · exact Below.refl _ _
    · exact Lib.bytesWorld_below _ _ _⟩
theorem atoi_no (s : ByteArray) (w : World) (hL : Lw w) (hs : s.size ≤ 281474976710656) (h : ∀ v, Lib.atoiAll s.data.toList ≠ .ok v) :
    Calls Tryd.prog 37 #[.string s] w fun e w' => ∃ v t p, e = .returned (.tuple #[.int .i64 v, .iface t p]) ∧ Below w.heap.size w w' := by
  by_cases hc : Lib.atoiAll s.data.toList = .range
  · obtain ⟨ev, h1, h2⟩ := hL.rg
    exact (Tryd.strconv_Atoi_range s hs hc ev w h1 h2).mono fun _ _ ⟨N, a, _, _, b⟩ => ⟨_, _, _, a, b⟩
  · obtain ⟨ev, h1, h2⟩ := hL.sy
    exact (Tryd.strconv_Atoi_bad s hs h hc ev w h1 h2).mono fun _ _ ⟨N, a, _, _, b⟩ => ⟨_, _, _, a, b⟩
theorem cut_any (s : ByteArray) (w : World) (hL : Lw w) (hs : s.size ≤ 1000000) :
    Calls Tryd.prog 50 #[.string s, .string ⟨#[32]⟩] w fun e w' => e = .returned (.tuple #[.string ⟨(Lib.cut s.data.toList [32]).1.toArray⟩, .string ⟨(Lib.cut s.data.toList [32]).2.1.toArray⟩, .bool (Lib.cut s.data.toList [32]).2.2]) ∧ Below w.heap.size w w' := by
  obtain ⟨m, hm⟩ := hL.ml
  exact (Tryd.strings_Cut s ⟨#[32]⟩ m w (by omega) hm).mono fun _ _ ⟨a, n, b⟩ => ⟨a, by subst b; exact below_drewN (Below.refl _ _) _⟩
/-- a text as bytes -/
def tB (l : List UInt8) : ByteArray := ⟨l.toArray⟩
theorem tB_app (a b : List UInt8) : tB a ++ tB b = tB (a ++ b) := by
  apply ByteArray.ext
  simp [tB]
theorem tB_size (l : List UInt8) : (tB l).size = l.length := by simp [tB, ByteArray.size]
theorem tB_list (l : List UInt8) : (tB l).data.toList = l := rfl
theorem tB_inj {a b : List UInt8} (h : tB a = tB b) : a = b := by
  have := congrArg (fun s => s.data.toList) h
  exact this
theorem itoa_len21 {n : Int} (h : J64 n) : (Lib.itoa n).length ≤ 21 := Lib.itoa_length_le n h.1 h.2
end Go.Proofs.YtemkghgcdpmlbaaDoor
/- The walk of file.Body. -/
namespace Go.Proofs.YtemkghgcdpmlbaaDoor
open Go.RowKit

/-- the first k numbers' text -/
def bodyT (x : Fac) (k : Nat) : List UInt8 := fword ++ (x.nums.take k).flatMap fun n => 32 :: Lib.itoa n
theorem bodyT_all (x : Fac) : bodyT x 6 = x.text := rfl
theorem bodyT_next {x : Fac} {k : Nat} {n : Int} (h : x.nums[k]? = some n) : bodyT x (k + 1) = bodyT x k ++ (32 :: Lib.itoa n) := by
  unfold bodyT
  rw [List.take_add_one, h, List.flatMap_append]
  simp
theorem bodyT_len {x : Fac} (h : x.I64) : ∀ k, k ≤ 6 → (bodyT x k).length ≤ 4 + 22 * k
  | 0, _ => by simp [bodyT, fword]
  | k + 1, hk => by
    obtain ⟨n, hn⟩ : ∃ n, x.nums[k]? = some n := ⟨_, List.getElem?_eq_getElem (show k < x.nums.length by simp [Fac.nums]; omega)⟩
    have := bodyT_len h k (by omega)
    have h2 := itoa_len21 (h.nums n (List.mem_of_getElem? hn))
    rw [bodyT_next hn, List.length_append, List.length_cons]
    omega
theorem ix6 (a b c d e f : Int) (W : World) :
    (Instr.index 84 (.agg #[.int .i64 a, .int .i64 b, .int .i64 c, .int .i64 d, .int .i64 e, .int .i64 f]) (.int .i64 0)).run Tryd.prog W = .ok (.int .i64 a) W ∧
    (Instr.index 84 (.agg #[.int .i64 a, .int .i64 b, .int .i64 c, .int .i64 d, .int .i64 e, .int .i64 f]) (.int .i64 1)).run Tryd.prog W = .ok (.int .i64 b) W ∧
    (Instr.index 84 (.agg #[.int .i64 a, .int .i64 b, .int .i64 c, .int .i64 d, .int .i64 e, .int .i64 f]) (.int .i64 2)).run Tryd.prog W = .ok (.int .i64 c) W ∧
    (Instr.index 84 (.agg #[.int .i64 a, .int .i64 b, .int .i64 c, .int .i64 d, .int .i64 e, .int .i64 f]) (.int .i64 3)).run Tryd.prog W = .ok (.int .i64 d) W ∧
    (Instr.index 84 (.agg #[.int .i64 a, .int .i64 b, .int .i64 c, .int .i64 d, .int .i64 e, .int .i64 f]) (.int .i64 4)).run Tryd.prog W = .ok (.int .i64 e) W ∧
    (Instr.index 84 (.agg #[.int .i64 a, .int .i64 b, .int .i64 c, .int .i64 d, .int .i64 e, .int .i64 f]) (.int .i64 5)).run Tryd.prog W = .ok (.int .i64 f) W :=
  ⟨by kernel_rfl, by kernel_rfl, by kernel_rfl, by kernel_rfl, by kernel_rfl, by kernel_rfl⟩
set_option maxRecDepth 100000 in
set_option maxHeartbeats 3200000 in
theorem body_true (x : Fac) (w : World) (hs : x.sec = true) (hL : Lw w) (hI : x.I64) :
    Calls Tryd.prog 21 #[.agg (fA x)] w fun e w' => e = .returned (.string (tB x.text)) ∧ Below w.heap.size w w' := by
  have HL := Lib.hid hL
  have HI := Lib.hid hI
  have HN : Hid (x.nums = [x.ref, x.act, x.low, x.high, x.filed, 1]) := by unfold Hid Fac.nums; rw [hs]; rfl
  have HS := Lib.hid hs
  clear hL hI hs
  go_enter Tryd.func21, Tryd.ntmps21
  go_upto_region 2 with (fail)
  refine name_wp ?_
  intro X hX
  have gx : Blk X w.heap.size 33 (fA x) := by rw [hX]; exact blk_at (by simp)
  have HB : Hid (Below w.heap.size w X) := by unfold Hid; rw [hX]; (repeat (first | with_reducible assumption | with_reducible exact Below.refl _ _ | with_reducible refine below_drewN ?_ _ | with_reducible refine Below.drew ?_ | with_reducible refine below_alloc ?_ _ | with_reducible refine Below.setCell ?_ (by first | omega | (simp; done) | (simp; omega)) _ | with_reducible refine below_then ?_ (by with_reducible assumption) | (refine below_then (a := World.drew _) ?_ (by with_reducible assumption))))
  obtain ⟨bx, ebx⟩ : ∃ b, w.heap.size = b := ⟨_, rfl⟩
  rw [ebx] at gx ⊢
  clear hX ebx
  have x0 : X.cell? ⟨bx, 0, none⟩ = some (.int .i64 x.ref) := gx.cell 0
  have x1 : X.cell? ⟨bx, 1, none⟩ = some (.int .i64 x.act) := gx.cell 1
  have x2 : X.cell? ⟨bx, 2, none⟩ = some (.int .i64 x.low) := gx.cell 2
  have x3 : X.cell? ⟨bx, 3, none⟩ = some (.int .i64 x.high) := gx.cell 3
  have x4 : X.cell? ⟨bx, 4, none⟩ = some (.int .i64 x.filed) := gx.cell 4
  have x5 : X.cell? ⟨bx, 5, none⟩ = some (.bool true) := (gx.cell 5).trans (by rw [← HS.out]; rfl)
  clear gx HS
  have hIx : Hid (∀ k n, x.nums[k]? = some n → ∀ W, (Instr.index 84 (.agg #[.int .i64 x.ref, .int .i64 x.act, .int .i64 x.low, .int .i64 x.high, .int .i64 x.filed, .int .i64 1]) (.int .i64 (k : Nat))).run Tryd.prog W = .ok (.int .i64 n) W) := by
    unfold Hid
    intro k n hk W
    rw [HN.out] at hk
    have hk6 : k < 6 := (List.getElem?_eq_some_iff.1 hk).1
    rcases (show k = 0 ∨ k = 1 ∨ k = 2 ∨ k = 3 ∨ k = 4 ∨ k = 5 by omega) with rfl | rfl | rfl | rfl | rfl | rfl
    all_goals
      simp only [List.getElem?_cons_zero, List.getElem?_cons_succ, Option.some.injEq] at hk
    · rw [← hk]; exact (ix6 x.ref x.act x.low x.high x.filed 1 W).1
    · rw [← hk]; exact (ix6 x.ref x.act x.low x.high x.filed 1 W).2.1
    · rw [← hk]; exact (ix6 x.ref x.act x.low x.high x.filed 1 W).2.2.1
    · rw [← hk]; exact (ix6 x.ref x.act x.low x.high x.filed 1 W).2.2.2.1
    · rw [← hk]; exact (ix6 x.ref x.act x.low x.high x.filed 1 W).2.2.2.2.1
    · rw [← hk]; exact (ix6 x.ref x.act x.low x.high x.filed 1 W).2.2.2.2.2
  go_upto_region 6 with (fail)
  clear x0 x1 x2 x3 x4 x5
  go_loopw [4, 21] (fun t y WR => ∃ i : Nat, i ≤ 6 ∧ y = .int .i64 i ∧ t = .string (tB (bodyT x i)) ∧ Hid (Below w.heap.size w WR)) (fun _ y _ => 6 - (intOf y).toNat)
  case atStart => exact ⟨0, by omega, rfl, rfl, HB.out⟩
  case round =>
    obtain ⟨i, hi, rfl, rfl, hB⟩ := hrel
    by_cases hlt : i < 6
    · obtain ⟨n, hn⟩ : ∃ n, x.nums[i]? = some n := ⟨_, List.getElem?_eq_getElem (show i < x.nums.length by rw [HN.out]; exact hlt)⟩
      have hix := hIx.out i n hn
      have hJ := HI.out.nums n (List.mem_of_getElem? hn)
      have HIT : Hid (∀ W, Below w.heap.size w W → Calls Tryd.prog 38 #[.int .i64 n] W fun e w' => e = .returned (.string (tB (Lib.itoa n))) ∧ Below W.heap.size W w') := fun W hb => itoa_any n W (HL.out.below hb) hJ.1 hJ.2
      have hl1 := itoa_len21 hJ
      have hl2 := bodyT_len HI.out i (by omega)
      have HNX := Lib.hid (bodyT_next hn)
      obtain ⟨T1, eT1⟩ : ∃ T, bodyT x i = T := ⟨_, rfl⟩
      obtain ⟨T2, eT2⟩ : ∃ T, Lib.itoa n = T := ⟨_, rfl⟩
      rw [eT1] at hl2 HNX ⊢
      rw [eT2] at hl1 HNX HIT
      have S1 : ∀ w', (Op.stringOp .add ⟨#[32]⟩ (tB T2)).run Tryd.prog w' = .ok (.string (tB [32] ++ tB T2)) w' := fun w' => run_string_add_sum w' _ _ (by rw [tB_size]; simp [ByteArray.size]; omega)
      have S2 : ∀ w', (Op.stringOp .add (tB T1) (tB [32] ++ tB T2)).run Tryd.prog w' = .ok (.string (tB T1 ++ (tB [32] ++ tB T2))) w' := fun w' => run_string_add_sum w' _ _ (by rw [ByteArray.size_append, tB_size, tB_size, tB_size]; simp; omega)
      have HT : Hid (tB T1 ++ (tB [32] ++ tB T2) = tB (bodyT x (i + 1))) := by unfold Hid; rw [HNX.out, tB_app, tB_app]; rfl
      have tl : decide (i < 6) = true := decide_eq_true (by omega)
      clear hn hJ eT1 eT2 hl1 hl2
      go_wp2_with (go_at_call 38; (with_reducible refine (HIT.out _ hB.out).mono ?_); rintro e w1 ⟨rfl, hb1⟩)
      go_roundw
      case rel => exact ⟨i + 1, by omega, by simp, by rw [HT.out], below_then hB.out hb1⟩
      case measure => simp [intOf]; omega
    · have tl : decide (i < 6) = false := decide_eq_false (by omega)
      have hT : Hid (bodyT x i = x.text) := by unfold Hid; rw [show i = 6 by omega]; rfl
      rw [hT.out]
      go_wp2
      go_ret
      exact ⟨rfl, hB.out⟩
set_option maxRecDepth 100000 in
set_option maxHeartbeats 3200000 in
theorem body_false (x : Fac) (w : World) (hs : x.sec = false) (hL : Lw w) (hI : x.I64) :
    Calls Tryd.prog 21 #[.agg (fA x)] w fun e w' => e = .returned (.string (tB x.text)) ∧ Below w.heap.size w w' := by
  have HL := Lib.hid hL
  have HI := Lib.hid hI
  have HN : Hid (x.nums = [x.ref, x.act, x.low, x.high, x.filed, 0]) := by unfold Hid Fac.nums; rw [hs]; rfl
  have HS := Lib.hid hs
  clear hL hI hs
  go_enter Tryd.func21, Tryd.ntmps21
  go_upto_region 2 with (fail)
  refine name_wp ?_
  intro X hX
  have gx : Blk X w.heap.size 33 (fA x) := by rw [hX]; exact blk_at (by simp)
  have HB : Hid (Below w.heap.size w X) := by unfold Hid; rw [hX]; (repeat (first | with_reducible assumption | with_reducible exact Below.refl _ _ | with_reducible refine below_drewN ?_ _ | with_reducible refine Below.drew ?_ | with_reducible refine below_alloc ?_ _ | with_reducible refine Below.setCell ?_ (by first | omega | (simp; done) | (simp; omega)) _ | with_reducible refine below_then ?_ (by with_reducible assumption) | (refine below_then (a := World.drew _) ?_ (by with_reducible assumption))))
  obtain ⟨bx, ebx⟩ : ∃ b, w.heap.size = b := ⟨_, rfl⟩
  rw [ebx] at gx ⊢
  clear hX ebx
  have x0 : X.cell? ⟨bx, 0, none⟩ = some (.int .i64 x.ref) := gx.cell 0
  have x1 : X.cell? ⟨bx, 1, none⟩ = some (.int .i64 x.act) := gx.cell 1
  have x2 : X.cell? ⟨bx, 2, none⟩ = some (.int .i64 x.low) := gx.cell 2
  have x3 : X.cell? ⟨bx, 3, none⟩ = some (.int .i64 x.high) := gx.cell 3
  have x4 : X.cell? ⟨bx, 4, none⟩ = some (.int .i64 x.filed) := gx.cell 4
  have x5 : X.cell? ⟨bx, 5, none⟩ = some (.bool false) := (gx.cell 5).trans (by rw [← HS.out]; rfl)
  clear gx HS
  have hIx : Hid (∀ k n, x.nums[k]? = some n → ∀ W, (Instr.index 84 (.agg #[.int .i64 x.ref, .int .i64 x.act, .int .i64 x.low, .int .i64 x.high, .int .i64 x.filed, .int .i64 0]) (.int .i64 (k : Nat))).run Tryd.prog W = .ok (.int .i64 n) W) := by
    unfold Hid
    intro k n hk W
    rw [HN.out] at hk
    have hk6 : k < 6 := (List.getElem?_eq_some_iff.1 hk).1
    rcases (show k = 0 ∨ k = 1 ∨ k = 2 ∨ k = 3 ∨ k = 4 ∨ k = 5 by omega) with rfl | rfl | rfl | rfl | rfl | rfl
    all_goals
      simp only [List.getElem?_cons_zero, List.getElem?_cons_succ, Option.some.injEq] at hk
    · rw [← hk]; exact (ix6 x.ref x.act x.low x.high x.filed 0 W).1
    · rw [← hk]; exact (ix6 x.ref x.act x.low x.high x.filed 0 W).2.1
    · rw [← hk]; exact (ix6 x.ref x.act x.low x.high x.filed 0 W).2.2.1
    · rw [← hk]; exact (ix6 x.ref x.act x.low x.high x.filed 0 W).2.2.2.1
    · rw [← hk]; exact (ix6 x.ref x.act x.low x.high x.filed 0 W).2.2.2.2.1
    · rw [← hk]; exact (ix6 x.ref x.act x.low x.high x.filed 0 W).2.2.2.2.2
  go_upto_region 6 with (fail)
  clear x0 x1 x2 x3 x4 x5
  go_loopw [4, 21] (fun t y WR => ∃ i : Nat, i ≤ 6 ∧ y = .int .i64 i ∧ t = .string (tB (bodyT x i)) ∧ Hid (Below w.heap.size w WR)) (fun _ y _ => 6 - (intOf y).toNat)
  case atStart => exact ⟨0, by omega, rfl, rfl, HB.out⟩
  case round =>
    obtain ⟨i, hi, rfl, rfl, hB⟩ := hrel
    by_cases hlt : i < 6
    · obtain ⟨n, hn⟩ : ∃ n, x.nums[i]? = some n := ⟨_, List.getElem?_eq_getElem (show i < x.nums.length by rw [HN.out]; exact hlt)⟩
      have hix := hIx.out i n hn
      have hJ := HI.out.nums n (List.mem_of_getElem? hn)
      have HIT : Hid (∀ W, Below w.heap.size w W → Calls Tryd.prog 38 #[.int .i64 n] W fun e w' => e = .returned (.string (tB (Lib.itoa n))) ∧ Below W.heap.size W w') := fun W hb => itoa_any n W (HL.out.below hb) hJ.1 hJ.2
      have hl1 := itoa_len21 hJ
      have hl2 := bodyT_len HI.out i (by omega)
      have HNX := Lib.hid (bodyT_next hn)
      obtain ⟨T1, eT1⟩ : ∃ T, bodyT x i = T := ⟨_, rfl⟩
      obtain ⟨T2, eT2⟩ : ∃ T, Lib.itoa n = T := ⟨_, rfl⟩
      rw [eT1] at hl2 HNX ⊢
      rw [eT2] at hl1 HNX HIT
      have S1 : ∀ w', (Op.stringOp .add ⟨#[32]⟩ (tB T2)).run Tryd.prog w' = .ok (.string (tB [32] ++ tB T2)) w' := fun w' => run_string_add_sum w' _ _ (by rw [tB_size]; simp [ByteArray.size]; omega)
      have S2 : ∀ w', (Op.stringOp .add (tB T1) (tB [32] ++ tB T2)).run Tryd.prog w' = .ok (.string (tB T1 ++ (tB [32] ++ tB T2))) w' := fun w' => run_string_add_sum w' _ _ (by rw [ByteArray.size_append, tB_size, tB_size, tB_size]; simp; omega)
      have HT : Hid (tB T1 ++ (tB [32] ++ tB T2) = tB (bodyT x (i + 1))) := by unfold Hid; rw [HNX.out, tB_app, tB_app]; rfl
      have tl : decide (i < 6) = true := decide_eq_true (by omega)
      clear hn hJ eT1 eT2 hl1 hl2
      go_wp2_with (go_at_call 38; (with_reducible refine (HIT.out _ hB.out).mono ?_); rintro e w1 ⟨rfl, hb1⟩)
      go_roundw
      case rel => exact ⟨i + 1, by omega, by simp, by rw [HT.out], below_then hB.out hb1⟩
      case measure => simp [intOf]; omega
    · have tl : decide (i < 6) = false := decide_eq_false (by omega)
      have hT : Hid (bodyT x i = x.text) := by unfold Hid; rw [show i = 6 by omega]; rfl
      rw [hT.out]
      go_wp2
      go_ret
      exact ⟨rfl, hB.out⟩
theorem body_any (x : Fac) (w : World) (hL : Lw w) (hI : x.I64) :
    Calls Tryd.prog 21 #[.agg (fA x)] w fun e w' => e = .returned (.string (tB x.text)) ∧ Below w.heap.size w w' := by
  cases hs : x.sec with
  | true => exact body_true x w hs hL hI
  | false => exact body_false x w hs hL hI
end Go.Proofs.YtemkghgcdpmlbaaDoor
