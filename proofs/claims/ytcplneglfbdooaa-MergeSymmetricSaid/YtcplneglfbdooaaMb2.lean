/- Contracts of functions and plain laws, joined: Qt, Rz. -/
import Derived.StillTail
import Derived.Lib.QuietBelow
import Derived.Test.YtcplneglfbdooaaMb1
import Derived.Deep.CutRange
/- A region that draws its order: reads and quiet calls (whose callees leave all that was there as it was) in whatever order, and behind all of them a tail whose operations come one behind the other, but for plain moves. One walk of the order of the text serves. -/
namespace Go.Proofs.Ytcplneglfbdooaa
open Go.RowKit Go.Sort

/-- what is asked at a panic looks at the deferred calls alone -/
def PanOk (Q : Exit → Act → World → Prop) : Prop := ∀ c (a a' : Act) w, a'.defers = a.defers → Q (.panic c) a w → Q (.panic c) a' w
theorem panOk_body {P : Program} {fn : Func} {R : Ending → World → Prop} : PanOk (bodyPost P fn R) := fun _ _ _ _ hd h => ⟨hd.trans h.1, h.2⟩
theorem panOk_then {K : Act → World → Prop} {Q : Exit → Act → World → Prop} (h : PanOk Q) : PanOk (Exit.then K Q) := fun c a a' w hd hq => h c a a' w hd hq
theorem panOk_block {id : Nat} {Q : Exit → Act → World → Prop} (h : PanOk Q) : PanOk (Exit.inBlock id Q) := fun c a a' w hd hq => h c a a' w hd hq

section
variable {P : Program} {ops : Array Oper} {md : Region.Mode} {C : World → Prop} {n : Nat}

/-- t waits for i, by itself or through others -/
def anc (md : Region.Mode) (ops : Array Oper) : Nat → Nat → Nat → Bool
  | 0, t, i => Region.waitsFor md ops t i
  | f + 1, t, i => Region.waitsFor md ops t i || (List.range ops.size).any fun j => Region.waitsFor md ops t j && anc md ops f j i

/-- what is listed is closed under what it waits for -/
def Cl (md : Region.Mode) (ops : Array Oper) (listed : Array Bool) : Prop :=
  ∀ j oj, ops[j]? = some oj → listed.getD j false = true → ∀ e ∈ oj.after, Region.binds md e = true → listed.getD e.on false = true

theorem Cl.set {i : Nat} {listed : Array Bool} (h : Cl md ops listed) (hi : i ∈ Region.ready md ops listed) : Cl md ops (listed.setIfInBounds i true) := by
  obtain ⟨_, oi, hoi, hall⟩ := mem_ready.1 hi
  intro j oj hj hl e he hb
  by_cases hij : i = j
  · subst hij
    obtain rfl : oj = oi := Option.some.inj (hj.symm.trans hoi)
    exact getD_set_true (hall e he hb)
  · rw [getD_set_ne false hij] at hl
    exact getD_set_true (h j oj hj hl e he hb)

theorem anc_listed {listed : Array Bool} (h : Cl md ops listed) : ∀ (f t i : Nat) (ot : Oper), ops[t]? = some ot → (∀ e ∈ ot.after, Region.binds md e = true → listed.getD e.on false = true) → anc md ops f t i = true → listed.getD i false = true
  | 0, t, i, ot, hot, hall, ha => by
    obtain ⟨o', ho', e, he, hb, hon⟩ := Region.waitsFor_spec ha
    obtain rfl : o' = ot := Option.some.inj (ho'.symm.trans hot)
    rw [← hon]; exact hall e he hb
  | f + 1, t, i, ot, hot, hall, ha => by
    simp only [anc, Bool.or_eq_true] at ha
    rcases ha with ha | ha
    · exact anc_listed h 0 t i ot hot hall ha
    · obtain ⟨j, hj, hj2⟩ := List.any_eq_true.1 ha
      simp only [Bool.and_eq_true] at hj2
      obtain ⟨o', ho', e, he, hb, hon⟩ := Region.waitsFor_spec hj2.1
      obtain rfl : o' = ot := Option.some.inj (ho'.symm.trans hot)
      have hl := hall e he hb
      rw [hon] at hl
      have hjs : j < ops.size := List.mem_range.1 hj
      exact anc_listed h f j i _ (Array.getElem?_eq_getElem hjs) (h j _ (Array.getElem?_eq_getElem hjs) hl) hj2.2

/-- each operation that is not of the head waits for each of the head -/
def dirB (md : Region.Mode) (ops : Array Oper) (hs : List Nat) : Bool :=
  (List.range ops.size).all fun t => hs.contains t || hs.all fun i => anc md ops ops.size t i

theorem dirB_not {hs : List Nat} {t i : Nat} {listed : Array Bool} (h : dirB md ops hs = true) (hcl : Cl md ops listed) (ht : hs.contains t = false) (hi : i ∈ hs) (hu : listed.getD i true = false) : t ∉ Region.ready md ops listed := by
  intro hr
  obtain ⟨_, ot, hot, hall⟩ := mem_ready.1 hr
  have h1 := List.all_eq_true.1 h t (List.mem_range.2 (Array.getElem?_eq_some_iff.1 hot).1)
  rw [ht, Bool.false_or] at h1
  have h2 := List.all_eq_true.1 h1 i hi
  have h3 := anc_listed hcl ops.size t i ot hot hall h2
  rw [getD_both hu] at h3
  cases h3

/-- a plain move -/
def pureAt (ops : Array Oper) (k : Nat) : Bool :=
  match ops[k]? with
  | some o => o.guard.isNone && match o.op with | .move _ => true | .extract _ _ => true | _ => false
  | none => false
/-- a plain move, guarded or not -/
def pureG (ops : Array Oper) (k : Nat) : Bool :=
  match ops[k]? with
  | some o => match o.op with | .move _ => true | .extract _ _ => true | _ => false
  | none => false

theorem exec_pure {o : Oper} {ρ : Operand → Value} (h : (match o.op with | .move _ => true | .extract _ _ => true | _ => false) = true) :
    (∃ v, execOp ρ o = .pure (.value v)) ∨ (∃ x, execOp ρ o = .halt (.stuck x)) := by
  unfold execOp
  split at h
  · rename_i x ho
    rw [ho]; exact .inl ⟨_, rfl⟩
  · rename_i x ix ho
    rw [ho]
    simp only [Instr.extract]
    split
    · rename_i vs _
      cases hv : vs[ix]? with
      | some v => exact .inl ⟨v, rfl⟩
      | none => exact .inr ⟨_, rfl⟩
    · exact .inr ⟨_, rfl⟩
  · cases h

/-- the operations of these numbers -/
def opsAt (ops : Array Oper) : List Nat → List Oper
  | [] => []
  | k :: ks => (ops[k]?).toList ++ opsAt ops ks

/-- the tail, in the order ks: each operation is the only one that may come up, or a plain move apart from the others -/
def tlB (md : Region.Mode) (ops : Array Oper) : List Nat → Array Bool → Bool
  | [], listed => (Region.ready md ops listed).isEmpty
  | k :: ks, listed => (ops[k]?).isSome && (decide (Region.ready md ops listed = [k]) || (pureG ops k && (Region.ready md ops listed).contains k && Region.free md ops listed k)) && tlB md ops ks (listed.setIfInBounds k true)

theorem opsAt_cons {k : Nat} {ks : List Nat} {o : Oper} (h : ops[k]? = some o) : opsAt ops (k :: ks) = o :: opsAt ops ks := by simp [opsAt, h]

theorem wpAny_of_tl {Q : Exit → Act → World → Prop} (hs : Region.noSelect ops = true) (hQ : PanOk Q) : ∀ (ks : List Nat) (listed : Array Bool) (a : Act) (w : World),
    tlB md ops ks listed = true → wpList P ops Q (opsAt ops ks) a w → wpAny P md ops Q ks.length listed a w
  | [], listed, a, w, hB, h => ⟨by simpa [tlB] using hB, h⟩
  | k :: ks, listed, a, w, hB, h => by
    simp only [tlB, Bool.and_eq_true, Bool.or_eq_true, decide_eq_true_eq] at hB
    obtain ⟨⟨hsm, hB1⟩, hB2⟩ := hB
    obtain ⟨o, h0⟩ := Option.isSome_iff_exists.1 hsm
    rw [opsAt_cons h0] at h
    have plain : Region.ready md ops listed = [k] → wpAny P md ops Q (ks.length + 1) listed a w := fun hr => by
      refine ⟨fun h1 => (by rw [hr] at h1; cases h1), fun i hi => ?_⟩
      rw [hr] at hi
      obtain rfl : i = k := by simpa using hi
      have hw : wpOp P ops Q i (wpList P ops Q (opsAt ops ks)) a w := by unfold wpOp; simp only [h0]; exact h
      exact wpOp_mono (fun a' w' h' => wpAny_of_tl hs hQ ks _ a' w' hB2 h') hw
    rcases hB1 with hr | ⟨⟨hp, hr⟩, hf⟩
    · exact plain hr
    · unfold pureG at hp
      simp only [h0] at hp
      unfold wpList at h
      by_cases hw : Region.wanted o (yielded ops a.tmps) = true
      case neg =>
        rw [if_neg hw] at h
        have hy : Yields P ops o undef a := .inr ⟨by simpa using hw, rfl⟩
        exact wpAny_first h0 (Region.noSelect_spec hs) (fun c a' w' hq => hQ c _ _ w' (by cases o.dst <;> rfl) hq) ks.length listed a w (Region.free_spec h0 hf) (by simpa using hr) hy (wpAny_of_tl hs hQ ks _ _ w hB2 h)
      rw [if_pos hw] at h
      rcases exec_pure (ρ := a.eval) hp with ⟨v, hv⟩ | ⟨x, hx⟩
      · have hy : Yields P ops o v a := .inl ⟨hw, fun w' => by rw [hv]; rfl⟩
        have h3 : wpList P ops Q (opsAt ops ks) (a.put o.dst v) w := by
          rcases h with h | h
          · unfold Oper.wp at h; rw [hv] at h; exact h
          · obtain ⟨⟨hm, _⟩, _⟩ := h
            rw [hv] at hm
            simp [Sem.runT] at hm
        exact wpAny_first h0 (Region.noSelect_spec hs) (fun c a' w' hq => hQ c _ _ w' (by cases o.dst <;> rfl) hq) ks.length listed a w (Region.free_spec h0 hf) (by simpa using hr) hy (wpAny_of_tl hs hQ ks _ _ w hB2 h3)
      · exfalso
        rcases h with h | h
        · unfold Oper.wp at h; rw [hx] at h; exact h
        · obtain ⟨⟨hm, _⟩, _⟩ := h
          rw [hx] at hm
          simp [Sem.runT] at hm

/-- nothing of the head may still come up -/
def overB (md : Region.Mode) (ops : Array Oper) (hs : List Nat) (listed : Array Bool) : Bool := (Region.ready md ops listed).all fun j => !hs.contains j

/-- the head in whatever order, then L, the tail being ready in its order -/
def hdQ (P : Program) (md : Region.Mode) (ops : Array Oper) (C : World → Prop) (hs ts : List Nat) (L : Act → Prop) : Nat → Array Bool → Act → Prop
  | 0, listed, a => (overB md ops hs listed = true ∧ tlB md ops ts listed = true) ∧ L a
  | f + 1, listed, a => Region.ready md ops listed ≠ [] ∧ ∀ i ∈ Region.ready md ops listed, hs.contains i = true ∧ qOp P ops C i (hdQ P md ops C hs ts L f (listed.setIfInBounds i true)) a

theorem wpAny_of_hdQ {hs ts : List Nat} {L : Act → Prop} {g : Nat} {Q' : Exit → Act → World → Prop} (hL : ∀ listed a w, C w → tlB md ops ts listed = true → L a → wpAny P md ops Q' g listed a w) :
    ∀ (f : Nat) (listed : Array Bool) (a : Act) (w : World), C w → hdQ P md ops C hs ts L f listed a → wpAny P md ops Q' (f + g) listed a w
  | 0, listed, a, w, hw, h => by rw [Nat.zero_add]; exact hL _ _ _ hw h.1.2 h.2
  | f + 1, listed, a, w, hw, h => by
    rw [show f + 1 + g = (f + g) + 1 by omega]
    exact ⟨fun h0 => absurd h0 h.1, fun i hi => wpOp_of_qOp hw (fun a' w' hw' h' => wpAny_of_hdQ hL f _ a' w' hw' h') (h.2 i hi).2⟩

theorem hdQ_first {hs ts : List Nat} {L : Act → Prop} {i : Nat} {oi : Oper} {v : Value} (hi : ops[i]? = some oi) (hsel : ∀ (j : Nat) (o : Oper) cs b, ops[j]? = some o → o.op ≠ .select cs b) (hd : dirB md ops hs = true) (hin : i ∈ hs) :
    ∀ (f : Nat) (listed : Array Bool) (a : Act), Cl md ops listed →
      (∀ j oj, ops[j]? = some oj → j ≠ i → listed.getD j true = false → (∀ e ∈ oj.after, Region.binds md e = true → e.on ≠ i) → oi.apart ops oj = true) →
      i ∈ Region.ready md ops listed → YieldsIn P ops C oi v a → hdQ P md ops C hs ts L f (listed.setIfInBounds i true) (a.put oi.dst v) → hdQ P md ops C hs ts L (f + 1) listed a := by
  intro f
  induction f with
  | zero =>
    intro listed a hcl _ hr hy H
    have hun := (mem_ready.1 hr).1
    refine ⟨fun h => (by rw [h] at hr; cases hr), fun j hj => ?_⟩
    have hjn : hs.contains j = true := by
      cases hc : hs.contains j with
      | true => rfl
      | false => exact absurd hj (dirB_not hd hcl hc hin hun)
    refine ⟨hjn, ?_⟩
    by_cases hji : j = i
    · subst hji; exact hy.qOp hi H
    · have h5 := List.all_eq_true.1 H.1.1 j (ready_mono hj hji)
      rw [hjn] at h5
      cases h5
  | succ f ih =>
    intro listed a hcl hfree hr hy H
    have hun := (mem_ready.1 hr).1
    refine ⟨fun h => (by rw [h] at hr; cases hr), fun j hj => ?_⟩
    have hjn : hs.contains j = true := by
      cases hc : hs.contains j with
      | true => rfl
      | false => exact absurd hj (dirB_not hd hcl hc hin hun)
    refine ⟨hjn, ?_⟩
    by_cases hji : j = i
    · subst hji; exact hy.qOp hi H
    · have h1 := (H.2 j (ready_mono hj hji)).2
      obtain ⟨hjun, oj, hoj, hall⟩ := mem_ready.1 hj
      have hnot : ∀ e ∈ oj.after, Region.binds md e = true → e.on ≠ i := fun e he hb heq => by
        have h3 := hall e he hb
        rw [heq, getD_both hun] at h3
        cases h3
      have h2 := qOp_put hoj (hfree j oj hoj hji hjun hnot) (fun cs b => hsel i oi cs b hi) (fun cs b => hsel j oj cs b hoj) hy h1
      refine qOp_mono (fun a' h3 => ih (listed.setIfInBounds j true) a' (hcl.set hj) (fun k ok hk hki hku hno => hfree k ok hk hki ?_ hno) (ready_mono hr (Ne.symm hji)) h3.1 ?_) h2
      · by_cases hjk : j = k
        · subst hjk; exact hjun
        · rwa [getD_set_ne true hjk] at hku
      · rw [Array.setIfInBounds_comm _ _ hji]
        exact h3.2

/-- the head comes up in the order ks, each apart from what does not wait for it -/
def headB (md : Region.Mode) (ops : Array Oper) (hs ts : List Nat) : List Nat → Array Bool → Bool
  | [], listed => overB md ops hs listed && tlB md ops ts listed
  | k :: ks, listed => (ops[k]?).isSome && hs.contains k && (Region.ready md ops listed).contains k && Region.free md ops listed k && headB md ops hs ts ks (listed.setIfInBounds k true)

theorem hdQ_lex {hs ts : List Nat} {L : Act → Prop} (hsel : Region.noSelect ops = true) (hd : dirB md ops hs = true) : ∀ (ks : List Nat) (listed : Array Bool) (a : Act), Cl md ops listed →
    headB md ops hs ts ks listed = true → wpQuiet P ops C L (opsAt ops ks) a → hdQ P md ops C hs ts L ks.length listed a
  | [], listed, a, _, hB, h => ⟨by simpa [headB] using hB, h⟩
  | k :: ks, listed, a, hcl, hB, h => by
    simp only [headB, Bool.and_eq_true] at hB
    obtain ⟨⟨⟨⟨hsm, hk⟩, hr⟩, hf⟩, hB'⟩ := hB
    obtain ⟨o, h0⟩ := Option.isSome_iff_exists.1 hsm
    rw [opsAt_cons h0] at h
    have hr' : k ∈ Region.ready md ops listed := by simpa using hr
    have hst : qOp P ops C k (wpQuiet P ops C L (opsAt ops ks)) a := by unfold qOp; simp only [h0]; exact h
    obtain ⟨v, hy, hK⟩ := yieldsIn_of_qOp h0 hst
    exact hdQ_first h0 (Region.noSelect_spec hsel) hd (by simpa using hk) ks.length listed a hcl (Region.free_spec h0 hf) hr' hy (hdQ_lex hsel hd ks _ _ (hcl.set hr') hB' hK)

/-- the Bool that is asked of the region: hs: the head's operations, in an order in which they may come up; ts: the tail's -/
def tailB (ops : Array Oper) (hs ts : List Nat) : Bool :=
  Region.noSelect ops && decide (hs.length + ts.length = ops.size) && dirB .any ops hs && headB .any ops hs ts hs (Array.replicate ops.size false)

theorem wp_region_qt {id : Nat} {Q : Exit → Act → World → Prop} {a : Act} {w : World} {l : List Oper} (hs ts : List Nat) (hm : P.follows .mixedOrders = true) (hB : tailB l.toArray hs ts = true) (hQ : PanOk Q)
    (h : wpQuiet P l.toArray (fun w' => ∃ p : Regrown, w' = grow (redrawn w p.d) p.os) (fun a' => ∀ w', (∃ p : Regrown, w' = grow (redrawn w p.d) p.os) → wpList P l.toArray Q (opsAt l.toArray ts) a' w') (opsAt l.toArray hs) a) :
    (Code.region id l.toArray true).wp P Q a w := by
  simp only [tailB, Bool.and_eq_true, decide_eq_true_eq] at hB
  obtain ⟨⟨⟨hsel, hn⟩, hd⟩, hlex⟩ := hB
  have H := hdQ_lex (md := .any) hsel hd hs _ a (fun j oj _ hl => by rw [getD_replicate_false] at hl; cases hl) hlex h
  refine wp_region_any hm ?_
  have := wpAny_of_hdQ (Q' := Q) (g := ts.length) (fun listed a' w' hC hs hL => wpAny_of_tl (md := .any) (Q := Q) hsel hQ ts listed a' w' hs (hL w' hC)) _ _ _ _
    (show ∃ p : Regrown, { w with drawn := w.drawn + 1 } = grow (redrawn w p.d) p.os from ⟨⟨w.drawn + 1, #[]⟩, by rw [grow_empty]; rfl⟩) H
  rwa [hn] at this
end

/-- a callee's contract that ends in Below, met in a world of the class -/
theorem qt_call {P : Program} {f : FuncId} {args : Array Value} {w : World} {v : Value} (h : ∀ W, Below w.heap.size w W → Calls P f args W fun e w' => e = .returned v ∧ Below W.heap.size W w') (d : Nat) (os : Array Obj) :
    Calls P f args (grow (redrawn w d) os) fun e w'' => e = .returned v ∧ ∃ p : Regrown, w'' = grow (redrawn w p.d) p.os := Calls.regrown_of (h _ (below_regrown w d os))
/-- the world behind the head, as a letter -/
theorem qt_world {w w' : World} (h : ∃ p : Regrown, w' = grow (redrawn w p.d) p.os) : Below w.heap.size w w' := by
  obtain ⟨p, rfl⟩ := h; exact below_regrown w p.d p.os
end Go.Proofs.Ytcplneglfbdooaa
/- Two ratios compared whole; a world named; a block made. (Small things of the ratio seat, where there are no laws on ratios.) -/
namespace Go.Proofs.Ytcplneglfbdooaa
open Go.RowKit

theorem name_wp {P : Program} {c : Code} {Q : Exit → Act → World → Prop} {a : Act} {w : World} (h : ∀ w', w' = w → c.wp P Q a w') : c.wp P Q a w := h w rfl
theorem blk_at {w : World} {n : Nat} {T : TypeId} {cs : Array Value} (h : n = w.heap.size) : Blk (w.alloc (.cells cs T)) n T cs := h ▸ Blk.new w T cs
theorem eqv2 (a b c d : Int) (w : World) : (Op.equalIn 10000 45 (.agg #[.int .i64 a, .int .i64 b]) (.agg #[.int .i64 c, .int .i64 d])).run Try.prog w = .ok (decide (a = c ∧ b = d)) w := by
  have e : (Try.prog.fieldsOf 45).toList = [{ name := "Num", type := 3, offset := 0, embedded := false, tag := "", pkgPath := "", byteOffset := 0 }, { name := "Den", type := 3, offset := 1, embedded := false, tag := "", pkgPath := "", byteOffset := 8 }] := by kernel_rfl
  have p1 : (part 3 #[.int .i64 a, .int .i64 b] 0).run Try.prog w = .ok (.int .i64 a) w := by kernel_rfl
  have p2 : (part 3 #[.int .i64 a, .int .i64 b] 1).run Try.prog w = .ok (.int .i64 b) w := by kernel_rfl
  have p3 : (part 3 #[.int .i64 c, .int .i64 d] 0).run Try.prog w = .ok (.int .i64 c) w := by kernel_rfl
  have p4 : (part 3 #[.int .i64 c, .int .i64 d] 1).run Try.prog w = .ok (.int .i64 d) w := by kernel_rfl
  have u := Try.underlying3
  show (Op.equalIn (9998 + 1 + 1) _ _ _).run _ _ = _
  rw [run_equalIn_agg w (9998 + 1) 45 _ _ (by kernel_rfl) (by kernel_rfl), e]
  simp only [Op.eqFields, Sem.run_bind, p1, p2, p3, p4, Result.andThen_ok, run_equalIn_int w 9998 3 .i64 .i64 _ _ u, ne_eq, Sem.run_ite, Sem.run_pure]
  by_cases h1 : a = c <;> by_cases h2 : b = d <;> simp [h1, h2]
/-- an element's address, where the list lies behind a variable -/
theorem idx_at {t : TypeId} {size : Nat} {A : Option Addr} {b0 o0 len cap k : Nat} (eA : A = some ⟨b0, o0, none⟩) (hk : k < len) (ht : Try.prog.underlying t = some (.slice (Try.prog.elem t))) (hs : ∀ W : World, (sizeOf (Try.prog.elem t)).run Try.prog W = .ok size W) (W : World) :
    (Instr.indexAt t (.slice A len cap) (.int .i64 (k : Nat))).run Try.prog W = .ok (.pointer (some ⟨b0, o0 + k * size, none⟩)) W := by
  rw [eA, run_indexAt_slice W t _ len cap .i64 k ht, if_pos ⟨by omega, by omega⟩, hs]
  simp [Addr.add]
end Go.Proofs.Ytcplneglfbdooaa
