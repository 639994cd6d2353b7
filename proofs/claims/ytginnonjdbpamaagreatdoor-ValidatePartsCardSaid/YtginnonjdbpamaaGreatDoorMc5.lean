/- Contracts of functions and plain laws, joined: Qt, Rz, Kb4. -/
import Derived.StillTail
import Derived.Lib.QuietBelow
import Derived.Test.YtginnonjdbpamaaGreatDoorMc4
import Derived.Deep.CutRange
/- A region that draws its order: xCt and quiet calls (whose callees leave all that was there as it was) in whatever order, and behind all of them a tail whose operations come one behind the other, but for plain moves. One walk of the order of the text serves. -/
import Derived.Test.YtginnonjdbpamaaGreatDoorMc1
set_option maxHeartbeats 6400000
set_option maxRecDepth 100000
namespace Go.Proofs.YtginnonjdbpamaaGreatDoor
open Go.RowKit Go.Sort
def xCm (Q : Exit → Act → World → Prop) : Prop := ∀ c (a a' : Act) w, a'.defers = a.defers → Q (.panic c) a w → Q (.panic c) a' w
theorem xF8 {P : Program} {fn : Func} {R : Ending → World → Prop} : xCm (bodyPost P fn R) := fun _ _ _ _ hd h => ⟨hd.trans h.1, h.2⟩
class PanC (Q : Exit → Act → World → Prop) : Prop where
 o : xCm Q
theorem pO {Q : Exit → Act → World → Prop} [h : PanC Q] : xCm Q := h.o
instance panC_body {P : Program} {fn : Func} {R : Ending → World → Prop} : PanC (bodyPost P fn R) := ⟨xF8⟩
theorem cR {w : World} {a : Addr} {v : Value} (h : w.cell? a = some v) (d : Nat) (os : Array Obj) : (grow (redrawn w d) os).cell? a = some v := Go.cell_regrown h d os
theorem xF7 {K : Act → World → Prop} {Q : Exit → Act → World → Prop} (h : xCm Q) : xCm (Exit.then K Q) := fun c a a' w hd hq => h c a a' w hd hq
instance panC_then {K : Act → World → Prop} {Q : Exit → Act → World → Prop} [h : PanC Q] : PanC (Exit.then K Q) := ⟨xF7 h.o⟩
theorem xFi {id : Nat} {Q : Exit → Act → World → Prop} (h : xCm Q) : xCm (Exit.inBlock id Q) := fun c a a' w hd hq => h c a a' w hd hq
instance panC_block {id : Nat} {Q : Exit → Act → World → Prop} [h : PanC Q] : PanC (Exit.inBlock id Q) := ⟨xFi h.o⟩
section
variable {P : Program} {ops : Array Oper} {md : Region.Mode} {C : World → Prop} {n : Nat}
def anc (md : Region.Mode) (ops : Array Oper) : Nat → Nat → Nat → Bool
 | 0, t, i => Region.waitsFor md ops t i
 | f + 1, t, i => Region.waitsFor md ops t i || (List.range ops.size).any fun j => Region.waitsFor md ops t j && anc md ops f j i
def Cl (md : Region.Mode) (ops : Array Oper) (listed : Array Bool) : Prop :=
 ∀ j oj, ops[j]? = some oj → listed.getD j false = true → ∀ e ∈ oj.after, Region.binds md e = true → listed.getD e.on false = true
theorem Cl.set {i : Nat} {listed : Array Bool} (h : Cl md ops listed) (hi : i ∈ Region.ready md ops listed) : Cl md ops (listed.setIfInBounds i true) := by
 obtain ⟨_, oi, hoi, hall⟩ := mem_ready.1 hi
 intro j oj hj hl e he hb
 by_cases hij : i = j
 ·subst hij
  obtain rfl : oj = oi := Option.some.inj (hj.symm.trans hoi)
  exact getD_set_true (hall e he hb)
 ·rw [getD_set_ne false hij] at hl
  exact getD_set_true (h j oj hj hl e he hb)
theorem xC1 {listed : Array Bool} (h : Cl md ops listed) : ∀ (f t i : Nat) (ot : Oper), ops[t]? = some ot → (∀ e ∈ ot.after, Region.binds md e = true → listed.getD e.on false = true) → anc md ops f t i = true → listed.getD i false = true
 | 0, t, i, ot, hot, hall, ha => by
  obtain ⟨o', ho', e, he, hb, hon⟩ := Region.waitsFor_spec ha
  obtain rfl : o' = ot := Option.some.inj (ho'.symm.trans hot)
  rw [← hon]; exact hall e he hb
 | f + 1, t, i, ot, hot, hall, ha => by
  simp only [anc, Bool.or_eq_true] at ha
  rcases ha with ha | ha
  ·exact xC1 h 0 t i ot hot hall ha
  ·obtain ⟨j, hj, hj2⟩ := List.any_eq_true.1 ha
   simp only [Bool.and_eq_true] at hj2
   obtain ⟨o', ho', e, he, hb, hon⟩ := Region.waitsFor_spec hj2.1
   obtain rfl : o' = ot := Option.some.inj (ho'.symm.trans hot)
   have hl := hall e he hb
   rw [hon] at hl
   have hjs : j < ops.size := List.mem_range.1 hj
   exact xC1 h f j i _ (Array.getElem?_eq_getElem hjs) (h j _ (Array.getElem?_eq_getElem hjs) hl) hj2.2
def dirB (md : Region.Mode) (ops : Array Oper) (hs : List Nat) : Bool :=
 (List.range ops.size).all fun t => hs.contains t || hs.all fun i => anc md ops ops.size t i
theorem xE0 {hs : List Nat} {t i : Nat} {listed : Array Bool} (h : dirB md ops hs = true) (hcl : Cl md ops listed) (ht : hs.contains t = false) (hi : i ∈ hs) (hu : listed.getD i true = false) : t ∉ Region.ready md ops listed := by
 intro hr
 obtain ⟨_, ot, hot, hall⟩ := mem_ready.1 hr
 have h1 := List.all_eq_true.1 h t (List.mem_range.2 (Array.getElem?_eq_some_iff.1 hot).1)
 rw [ht, Bool.false_or] at h1
 have h2 := List.all_eq_true.1 h1 i hi
 have h3 := xC1 hcl ops.size t i ot hot hall h2
 rw [getD_both hu] at h3
 cases h3
def pureAt (ops : Array Oper) (k : Nat) : Bool :=
 match ops[k]? with
 | some o => o.guard.isNone && match o.op with | .move _ => true | .extract _ _ => true | _ => false
 | none => false
def pureG (ops : Array Oper) (k : Nat) : Bool :=
 match ops[k]? with
 | some o => match o.op with | .move _ => true | .extract _ _ => true | _ => false
 | none => false
theorem xFt {o : Oper} {ρ : Operand → Value} (h : (match o.op with | .move _ => true | .extract _ _ => true | _ => false) = true) :
  (∃ v, execOp ρ o = .pure (.value v)) ∨ (∃ x, execOp ρ o = .halt (.stuck x)) := by
 unfold execOp
 split at h
 ·rename_i x ho
  rw [ho]; exact .inl ⟨_, rfl⟩
 ·rename_i x ix ho
  rw [ho]
  simp only [Instr.extract]
  split
  ·rename_i vs _
   cases hv : vs[ix]? with
   | some v => exact .inl ⟨v, rfl⟩
   | none => exact .inr ⟨_, rfl⟩
  ·exact .inr ⟨_, rfl⟩
 ·cases h
def xAm (ops : Array Oper) : List Nat → List Oper
 | [] => []
 | k :: ks => (ops[k]?).toList ++ xAm ops ks
def tlB (md : Region.Mode) (ops : Array Oper) : List Nat → Array Bool → Bool
 | [], listed => (Region.ready md ops listed).isEmpty
 | k :: ks, listed => (ops[k]?).isSome && (decide (Region.ready md ops listed = [k]) || (pureG ops k && (Region.ready md ops listed).contains k && Region.free md ops listed k)) && tlB md ops ks (listed.setIfInBounds k true)
theorem xB9 {k : Nat} {ks : List Nat} {o : Oper} (h : ops[k]? = some o) : xAm ops (k :: ks) = o :: xAm ops ks := by simp [xAm, h]
theorem xBp {Q : Exit → Act → World → Prop} (hs : Region.noSelect ops = true) (hQ : xCm Q) : ∀ (ks : List Nat) (listed : Array Bool) (a : Act) (w : World),
  tlB md ops ks listed = true → wpList P ops Q (xAm ops ks) a w → wpAny P md ops Q ks.length listed a w
 | [], listed, a, w, hB, h => ⟨by simpa [tlB] using hB, h⟩
 | k :: ks, listed, a, w, hB, h => by
  simp only [tlB, Bool.and_eq_true, Bool.or_eq_true, decide_eq_true_eq] at hB
  obtain ⟨⟨hsm, hB1⟩, hB2⟩ := hB
  obtain ⟨o, h0⟩ := Option.isSome_iff_exists.1 hsm
  rw [xB9 h0] at h
  have plain : Region.ready md ops listed = [k] → wpAny P md ops Q (ks.length + 1) listed a w := fun hr => by
   refine ⟨fun h1 => (by rw [hr] at h1; cases h1), fun i hi => ?_⟩
   rw [hr] at hi
   obtain rfl : i = k := by simpa using hi
   have hw : wpOp P ops Q i (wpList P ops Q (xAm ops ks)) a w := by unfold wpOp; simp only [h0]; exact h
   exact wpOp_mono (fun a' w' h' => xBp hs hQ ks _ a' w' hB2 h') hw
  rcases hB1 with hr | ⟨⟨hp, hr⟩, hf⟩
  ·exact plain hr
  ·unfold pureG at hp
   simp only [h0] at hp
   unfold wpList at h
   by_cases hw : Region.wanted o (yielded ops a.tmps) = true
   case neg =>
    rw [if_neg hw] at h
    have hy : Yields P ops o undef a := .inr ⟨by simpa using hw, rfl⟩
    exact wpAny_first h0 (Region.noSelect_spec hs) (fun c a' w' hq => hQ c _ _ w' (by cases o.dst <;> rfl) hq) ks.length listed a w (Region.free_spec h0 hf) (by simpa using hr) hy (xBp hs hQ ks _ _ w hB2 h)
   rw [if_pos hw] at h
   rcases xFt (ρ := a.eval) hp with ⟨v, hv⟩ | ⟨x, hx⟩
   ·have hy : Yields P ops o v a := .inl ⟨hw, fun w' => by rw [hv]; rfl⟩
    have h3 : wpList P ops Q (xAm ops ks) (a.put o.dst v) w := by
     rcases h with h | h
     ·unfold Oper.wp at h; rw [hv] at h; exact h
     ·obtain ⟨⟨hm, _⟩, _⟩ := h
      rw [hv] at hm
      simp [Sem.runT] at hm
    exact wpAny_first h0 (Region.noSelect_spec hs) (fun c a' w' hq => hQ c _ _ w' (by cases o.dst <;> rfl) hq) ks.length listed a w (Region.free_spec h0 hf) (by simpa using hr) hy (xBp hs hQ ks _ _ w hB2 h3)
   ·exfalso
    rcases h with h | h
    ·unfold Oper.wp at h; rw [hx] at h; exact h
    ·obtain ⟨⟨hm, _⟩, _⟩ := h
     rw [hx] at hm
     simp [Sem.runT] at hm
def overB (md : Region.Mode) (ops : Array Oper) (hs : List Nat) (listed : Array Bool) : Bool := (Region.ready md ops listed).all fun j => !hs.contains j
def hdQ (P : Program) (md : Region.Mode) (ops : Array Oper) (C : World → Prop) (hs ts : List Nat) (L : Act → Prop) : Nat → Array Bool → Act → Prop
 | 0, listed, a => (overB md ops hs listed = true ∧ tlB md ops ts listed = true) ∧ L a
 | f + 1, listed, a => Region.ready md ops listed ≠ [] ∧ ∀ i ∈ Region.ready md ops listed, hs.contains i = true ∧ qOp P ops C i (hdQ P md ops C hs ts L f (listed.setIfInBounds i true)) a
theorem xCp {hs ts : List Nat} {L : Act → Prop} {g : Nat} {Q' : Exit → Act → World → Prop} (hL : ∀ listed a w, C w → tlB md ops ts listed = true → L a → wpAny P md ops Q' g listed a w) :
  ∀ (f : Nat) (listed : Array Bool) (a : Act) (w : World), C w → hdQ P md ops C hs ts L f listed a → wpAny P md ops Q' (f + g) listed a w
 | 0, listed, a, w, hw, h => by rw [Nat.zero_add]; exact hL _ _ _ hw h.1.2 h.2
 | f + 1, listed, a, w, hw, h => by
  rw [show f + 1 + g = (f + g) + 1 by omega]
  exact ⟨fun h0 => absurd h0 h.1, fun i hi => wpOp_of_qOp hw (fun a' w' hw' h' => xCp hL f _ a' w' hw' h') (h.2 i hi).2⟩
theorem hdQ_first {hs ts : List Nat} {L : Act → Prop} {i : Nat} {oi : Oper} {v : Value} (hi : ops[i]? = some oi) (hsel : ∀ (j : Nat) (o : Oper) cs b, ops[j]? = some o → o.op ≠ .select cs b) (hd : dirB md ops hs = true) (hin : i ∈ hs) :
  ∀ (f : Nat) (listed : Array Bool) (a : Act), Cl md ops listed →
   (∀ j oj, ops[j]? = some oj → j ≠ i → listed.getD j true = false → (∀ e ∈ oj.after, Region.binds md e = true → e.on ≠ i) → oi.apart ops oj = true) →
   i ∈ Region.ready md ops listed → YieldsIn P ops C oi v a → hdQ P md ops C hs ts L f (listed.setIfInBounds i true) (a.put oi.dst v) → hdQ P md ops C hs ts L (f + 1) listed a := by
 intro f
 induction f with
 | zero =>
  intro listed a hcl _ hr hy H
  have hun := (mem_ready.1 hr).1
  refine ⟨fun h => (by rw [h] at hr; cases hr), fun j hj => ?_⟩
  have hjn : hs.contains j = true := by
   cases hc : hs.contains j with
   | true => rfl
   | false => exact absurd hj (xE0 hd hcl hc hin hun)
  refine ⟨hjn, ?_⟩
  by_cases hji : j = i
  ·subst hji; exact hy.qOp hi H
  ·have h5 := List.all_eq_true.1 H.1.1 j (ready_mono hj hji)
   rw [hjn] at h5
   cases h5
 | succ f ih =>
  intro listed a hcl hfree hr hy H
  have hun := (mem_ready.1 hr).1
  refine ⟨fun h => (by rw [h] at hr; cases hr), fun j hj => ?_⟩
  have hjn : hs.contains j = true := by
   cases hc : hs.contains j with
   | true => rfl
   | false => exact absurd hj (xE0 hd hcl hc hin hun)
  refine ⟨hjn, ?_⟩
  by_cases hji : j = i
  ·subst hji; exact hy.qOp hi H
  ·have h1 := (H.2 j (ready_mono hj hji)).2
   obtain ⟨hjun, oj, hoj, hall⟩ := mem_ready.1 hj
   have hnot : ∀ e ∈ oj.after, Region.binds md e = true → e.on ≠ i := fun e he hb heq => by
    have h3 := hall e he hb
    rw [heq, getD_both hun] at h3
    cases h3
   have h2 := qOp_put hoj (hfree j oj hoj hji hjun hnot) (fun cs b => hsel i oi cs b hi) (fun cs b => hsel j oj cs b hoj) hy h1
   refine qOp_mono (fun a' h3 => ih (listed.setIfInBounds j true) a' (hcl.set hj) (fun k ok hk hki hku hno => hfree k ok hk hki ?_ hno) (ready_mono hr (Ne.symm hji)) h3.1 ?_) h2
   ·by_cases hjk : j = k
    ·subst hjk; exact hjun
    ·rwa [getD_set_ne true hjk] at hku
   ·rw [Array.setIfInBounds_comm _ _ hji]
    exact h3.2
def xG4 (md : Region.Mode) (ops : Array Oper) (hs ts : List Nat) : List Nat → Array Bool → Bool
 | [], listed => overB md ops hs listed && tlB md ops ts listed
 | k :: ks, listed => (ops[k]?).isSome && hs.contains k && (Region.ready md ops listed).contains k && Region.free md ops listed k && xG4 md ops hs ts ks (listed.setIfInBounds k true)
theorem hdQ_lex {hs ts : List Nat} {L : Act → Prop} (hsel : Region.noSelect ops = true) (hd : dirB md ops hs = true) : ∀ (ks : List Nat) (listed : Array Bool) (a : Act), Cl md ops listed →
  xG4 md ops hs ts ks listed = true → wpQuiet P ops C L (xAm ops ks) a → hdQ P md ops C hs ts L ks.length listed a
 | [], listed, a, _, hB, h => ⟨by simpa [xG4] using hB, h⟩
 | k :: ks, listed, a, hcl, hB, h => by
  simp only [xG4, Bool.and_eq_true] at hB
  obtain ⟨⟨⟨⟨hsm, hk⟩, hr⟩, hf⟩, hB'⟩ := hB
  obtain ⟨o, h0⟩ := Option.isSome_iff_exists.1 hsm
  rw [xB9 h0] at h
  have hr' : k ∈ Region.ready md ops listed := by simpa using hr
  have hst : qOp P ops C k (wpQuiet P ops C L (xAm ops ks)) a := by unfold qOp; simp only [h0]; exact h
  obtain ⟨v, hy, hK⟩ := yieldsIn_of_qOp h0 hst
  exact hdQ_first h0 (Region.noSelect_spec hsel) hd (by simpa using hk) ks.length listed a hcl (Region.free_spec h0 hf) hr' hy (hdQ_lex hsel hd ks _ _ (hcl.set hr') hB' hK)
def tailB (ops : Array Oper) (hs ts : List Nat) : Bool :=
 Region.noSelect ops && decide (hs.length + ts.length = ops.size) && dirB .any ops hs && xG4 .any ops hs ts hs (Array.replicate ops.size false)
theorem xAe {id : Nat} {Q : Exit → Act → World → Prop} {a : Act} {w : World} {l : List Oper} (hs ts : List Nat) (hm : P.follows .mixedOrders = true) (hB : tailB l.toArray hs ts = true) (hQ : xCm Q)
  (h : wpQuiet P l.toArray (fun w' => ∃ p : Regrown, w' = grow (redrawn w p.d) p.os) (fun a' => ∀ w', (∃ p : Regrown, w' = grow (redrawn w p.d) p.os) → wpList P l.toArray Q (xAm l.toArray ts) a' w') (xAm l.toArray hs) a) :
  (Code.region id l.toArray true).wp P Q a w := by
 simp only [tailB, Bool.and_eq_true, decide_eq_true_eq] at hB
 obtain ⟨⟨⟨hsel, hn⟩, hd⟩, hlex⟩ := hB
 have H := hdQ_lex (md := .any) hsel hd hs _ a (fun j oj _ hl => by rw [getD_replicate_false] at hl; cases hl) hlex h
 refine wp_region_any hm ?_
 have := xCp (Q' := Q) (g := ts.length) (fun listed a' w' hC hs hL => xBp (md := .any) (Q := Q) hsel hQ ts listed a' w' hs (hL w' hC)) _ _ _ _
  (show ∃ p : Regrown, { w with drawn := w.drawn + 1 } = grow (redrawn w p.d) p.os from ⟨⟨w.drawn + 1, #[]⟩, by rw [grow_empty]; rfl⟩) H
 rwa [hn] at this
end
theorem xAp {P : Program} {f : FuncId} {args : Array Value} {w : World} {v : Value} (h : ∀ W, Below w.heap.size w W → Calls P f args W fun e w' => e = .returned v ∧ Below W.heap.size W w') (d : Nat) (os : Array Obj) :
  Calls P f args (grow (redrawn w d) os) fun e w'' => e = .returned v ∧ ∃ p : Regrown, w'' = grow (redrawn w p.d) p.os := Calls.regrown_of (h _ (below_regrown w d os))
theorem xAh {w w' : World} (h : ∃ p : Regrown, w' = grow (redrawn w p.d) p.os) : Below w.heap.size w w' := by
 obtain ⟨p, rfl⟩ := h; exact below_regrown w p.d p.os
end Go.Proofs.YtginnonjdbpamaaGreatDoor
/- Two ratios compared whole; a world named; a block made. (Small things of the ratio seat, where there are no laws on ratios.) -/
namespace Go.Proofs.YtginnonjdbpamaaGreatDoor
open Go.RowKit
theorem xAf {P : Program} {c : Code} {Q : Exit → Act → World → Prop} {a : Act} {w : World} (h : ∀ w', w' = w → c.wp P Q a w') : c.wp P Q a w := h w rfl
theorem xA5 {w : World} {n : Nat} {T : TypeId} {cs : Array Value} (h : n = w.heap.size) : Blk (w.alloc (.cells cs T)) n T cs := h ▸ Blk.new w T cs
theorem eqv2 (a b c d : Int) (w : World) : (Op.equalIn 10000 50 (.agg #[.int .i64 a, .int .i64 b]) (.agg #[.int .i64 c, .int .i64 d])).run Tryz.prog w = .ok (decide (a = c ∧ b = d)) w := by
 have e : (Tryz.prog.fieldsOf 50).toList = [{ name := "Num", type := 3, offset := 0, embedded := false, tag := "", pkgPath := "", byteOffset := 0 }, { name := "Den", type := 3, offset := 1, embedded := false, tag := "", pkgPath := "", byteOffset := 8 }] := by kernel_rfl
 have p1 : (part 3 #[.int .i64 a, .int .i64 b] 0).run Tryz.prog w = .ok (.int .i64 a) w := by kernel_rfl
 have p2 : (part 3 #[.int .i64 a, .int .i64 b] 1).run Tryz.prog w = .ok (.int .i64 b) w := by kernel_rfl
 have p3 : (part 3 #[.int .i64 c, .int .i64 d] 0).run Tryz.prog w = .ok (.int .i64 c) w := by kernel_rfl
 have p4 : (part 3 #[.int .i64 c, .int .i64 d] 1).run Tryz.prog w = .ok (.int .i64 d) w := by kernel_rfl
 have u := Tryz.underlying3
 show (Op.equalIn (9998 + 1 + 1) _ _ _).run _ _ = _
 rw [run_equalIn_agg w (9998 + 1) 50 _ _ (by kernel_rfl) (by kernel_rfl), e]
 simp only [Op.eqFields, Sem.run_bind, p1, p2, p3, p4, Result.andThen_ok, run_equalIn_int w 9998 3 .i64 .i64 _ _ u, ne_eq, Sem.run_ite, Sem.run_pure]
 by_cases h1 : a = c <;> by_cases h2 : b = d <;> simp [h1, h2]
theorem xAq {t : TypeId} {size : Nat} {A : Option Addr} {b0 o0 len cap k : Nat} (eA : A = some ⟨b0, o0, none⟩) (hk : k < len) (ht : Tryz.prog.underlying t = some (.slice (Tryz.prog.elem t))) (hs : ∀ W : World, (sizeOf (Tryz.prog.elem t)).run Tryz.prog W = .ok size W) (W : World) :
  (Instr.indexAt t (.slice A len cap) (.int .i64 (k : Nat))).run Tryz.prog W = .ok (.pointer (some ⟨b0, o0 + k * size, none⟩)) W := by
 rw [eA, run_indexAt_slice W t _ len cap .i64 k ht, if_pos ⟨by omega, by omega⟩, hs]
 simp [Addr.add]
end Go.Proofs.YtginnonjdbpamaaGreatDoor
/- The walk of contract.validAct. -/
namespace Go.Proofs.YtginnonjdbpamaaGreatDoor
open Go.RowKit
abbrev aA (x : Atc) : Array Value := #[.int .i64 x.kind, .int .i64 x.role, .int .i64 x.give, .int .i64 x.to_, .int .i64 x.unit, .int .i64 x.lot.1, .int .i64 x.lot.2]
theorem act_nat (c : Con) (m : Cm) (x : Atc) (m1 m2 m3 ps : Bool) (w : World)
  (HM1 : Hid (∀ W, Calls Tryz.prog 107 #[.agg (coA c m), .int .i64 x.role] W fun e w' => e = .returned (.bool m1) ∧ Below W.heap.size W w')) (HM2 : Hid (∀ W, Calls Tryz.prog 107 #[.agg (coA c m), .int .i64 x.to_] W fun e w' => e = .returned (.bool m2) ∧ Below W.heap.size W w')) (_HM3 : Hid (∀ W, Calls Tryz.prog 107 #[.agg (coA c m), .int .i64 x.give] W fun e w' => e = .returned (.bool m3) ∧ Below W.heap.size W w'))
  (HN : Hid (∀ W, Calls Tryz.prog 105 #[] W fun e w' => e = .returned (.agg #[.int .i64 0, .int .i64 1]) ∧ Below W.heap.size W w')) (_HP : Hid (∀ W, Calls Tryz.prog 106 #[.agg #[.int .i64 x.lot.1, .int .i64 x.lot.2]] W fun e w' => e = .returned (.bool ps) ∧ Below W.heap.size W w'))
  (h1 : m1 = false) :
  Calls Tryz.prog 102 #[.agg (coA c m), .agg (aA x)] w fun e w' => e = .returned (.bool (x.kind == 1 && x.role == -1 && x.give == 0 && (x.to_ == -1 || m2) && x.unit == -1 && zer x.lot)) ∧ Below w.heap.size w w' := by
 subst h1
 obtain ⟨R, hR⟩ : ∃ R, (x.kind == 1 && x.role == -1 && x.give == 0 && (x.to_ == -1 || m2) && x.unit == -1 && zer x.lot) = R := ⟨_, rfl⟩
 rw [hR]
 have HR := qzL hR
 clear hR
 go_enter Tryz.func102, Tryz.ntmps102
 go_upto_region 1 with (fail)
 refine xAf ?_
 intro X0 hX
 have ga : Blk X0 (w.heap.size) 27 #[.int .i64 c.par, .slice m.h c.hold.length m.hc, .slice m.u c.un.length m.uc, .slice m.a c.ac.length m.ac, .slice m.k c.cl.length m.kc, .int .i64 c.days, .slice m.o c.off.length m.oc] := by rw [hX]; exact ((xA5 (by simp))).alloc _
 have gb : Blk X0 (w.heap.size + 1) 118 #[.int .i64 x.kind, .int .i64 x.role, .int .i64 x.give, .int .i64 x.to_, .int .i64 x.unit, .int .i64 x.lot.1, .int .i64 x.lot.2] := by rw [hX]; exact (xA5 (by simp))
 have HB : Below w.heap.size w X0 := by rw [hX]; (repeat (first | exact Below.refl _ _ | refine xAc ?_ _))
 clear hX
 obtain ⟨bb, eb⟩ : ∃ b, w.heap.size + 1 = b := ⟨_, rfl⟩
 rw [eb] at gb ⊢
 clear eb
 obtain ⟨ba, eb⟩ : ∃ b, w.heap.size = b := ⟨_, rfl⟩
 rw [eb] at ga ⊢
 clear eb
 have hz := Below.refl X0.heap.size X0
 obtain ⟨ca0, ca1, ca2, ca3, ca4, ca5, ca6⟩ := coC (c := c) (m := m) (ga) rfl
 obtain ⟨cb0, cb1, cb2, cb3, cb4, cb5, cb6⟩ := atC (c := x) (gb) rfl
 go_upto_region 2 with ((go_at_call 107; (with_reducible refine (HM1.out _).mono ?_); rintro e w1 ⟨rfl, hbw1⟩; obtain ⟨k1a0, k1a1, k1a2, k1a3, k1a4, k1a5, k1a6⟩ := coC (c := c) (m := m) ((ga.then_ hbw1)) rfl; obtain ⟨k1b0, k1b1, k1b2, k1b3, k1b4, k1b5, k1b6⟩ := atC (c := x) ((gb.then_ hbw1)) rfl))
 clear HM1 _HM3 _HP
 clear ca0 ca1 ca2 ca3 ca4 ca5 ca6 cb0 cb1 cb2 cb3 cb4 cb5 cb6
 try clear k1a0 k1a1 k1b0 k1b1
 refine xAf ?_
 intro X1 hX
 have na : Blk X1 ba 27 #[.int .i64 c.par, .slice m.h c.hold.length m.hc, .slice m.u c.un.length m.uc, .slice m.a c.ac.length m.ac, .slice m.k c.cl.length m.kc, .int .i64 c.days, .slice m.o c.off.length m.oc] := by rw [hX]; (repeat with_reducible first | assumption | exact Blk.new _ _ _ | refine Blk.drew ?_ | refine Blk.alloc ?_ _ | refine Blk.drewN ?_ _ | apply Blk.setT0 | apply Blk.setT1 | refine Blk.far ?_ (by first | (simp; done) | omega | (simp; omega)) _ | refine Blk.then_ ?_ (by assumption))
 have nb : Blk X1 bb 118 #[.int .i64 x.kind, .int .i64 x.role, .int .i64 x.give, .int .i64 x.to_, .int .i64 x.unit, .int .i64 x.lot.1, .int .i64 x.lot.2] := by rw [hX]; (repeat with_reducible first | assumption | exact Blk.new _ _ _ | refine Blk.drew ?_ | refine Blk.alloc ?_ _ | refine Blk.drewN ?_ _ | apply Blk.setT0 | apply Blk.setT1 | refine Blk.far ?_ (by first | (simp; done) | omega | (simp; omega)) _ | refine Blk.then_ ?_ (by assumption))
 have NB : Below w.heap.size w X1 := by rw [hX]; (repeat (first | (with_reducible first | assumption | exact Below.refl _ _ | refine xAk ?_ _ | refine Below.drew ?_ | refine xAc ?_ _ | refine Below.setCell ?_ (by first | omega | (simp; done) | (simp; omega)) _ | refine xAa ?_ (by assumption)) | (refine xAa (a := World.drew _) ?_ (by with_reducible assumption))))
 clear hX ga gb HB
 have ga := na
 clear na
 have gb := nb
 clear nb
 have HB := NB
 clear NB
 have hz := Below.refl X1.heap.size X1
 cases q1 : (x.kind == 1) with
 | false =>
  have hlot := fun W => eqv2 x.lot.1 x.lot.2 0 1 W
  obtain ⟨ca0, ca1, ca2, ca3, ca4, ca5, ca6⟩ := coC (c := c) (m := m) (ga) rfl
  obtain ⟨cb0, cb1, cb2, cb3, cb4, cb5, cb6⟩ := atC (c := x) (gb) rfl
  have rg0 := cR ca0
  have rg1 := cR ca1
  have rg2 := cR ca2
  have rg3 := cR ca3
  have rg4 := cR ca4
  have rg5 := cR ca5
  have rg6 := cR ca6
  have rg7 := cR cb0
  have rg8 := cR cb1
  have rg9 := cR cb2
  have rg10 := cR cb3
  have rg11 := cR cb4
  have rg12 := cR cb5
  have rg13 := cR cb6
  refine xAe [0, 1, 2, 3, 4, 5, 6, 7, 8, 9, 10, 11, 12, 13, 14, 15, 16, 17, 18, 19, 20, 21, 22, 23, 24, 25, 26, 27, 28, 29, 30, 31, 32, 33, 34] [35] (by kernel_rfl) (by kernel_rfl) pO ?_
  simp only [xAm, qzA, qzB, qzC, qzD, qzE, qzF]
  repeat (go_big_quiet_step ((first | (go_at_call 107; with_reducible exact xAp (fun W' _ => HM2.out W') _ _) | (go_at_call 105; exact xAp (fun W' _ => HN.out W') _ _))))
  refine wpQuiet_nil ?_
  intro Z hw2
  have hbZ := xAh hw2
  clear hw2 rg0 rg1 rg2 rg3 rg4 rg5 rg6 rg7 rg8 rg9 rg10 rg11 rg12 rg13
  clear ca0 ca1 ca2 ca3 ca4 ca5 ca6 cb0 cb1 cb2 cb3 cb4 cb5 cb6
  go_wp2
  go_ret
  exact ⟨xAb (by rw [← HR.out]; first | rfl | (simp [*]; done) | (simp [*, zer]; done) | (simp_all [zer]; done) | (rw [Bool.eq_iff_iff]; simp [*, zer]; done) | (rw [Bool.eq_iff_iff]; simp_all [zer]; done)), xAa HB hbZ⟩
 | true =>
  cases q2 : (x.role == -1) with
  | false =>
   have hlot := fun W => eqv2 x.lot.1 x.lot.2 0 1 W
   obtain ⟨ca0, ca1, ca2, ca3, ca4, ca5, ca6⟩ := coC (c := c) (m := m) (ga) rfl
   obtain ⟨cb0, cb1, cb2, cb3, cb4, cb5, cb6⟩ := atC (c := x) (gb) rfl
   have rg0 := cR ca0
   have rg1 := cR ca1
   have rg2 := cR ca2
   have rg3 := cR ca3
   have rg4 := cR ca4
   have rg5 := cR ca5
   have rg6 := cR ca6
   have rg7 := cR cb0
   have rg8 := cR cb1
   have rg9 := cR cb2
   have rg10 := cR cb3
   have rg11 := cR cb4
   have rg12 := cR cb5
   have rg13 := cR cb6
   refine xAe [0, 1, 2, 3, 4, 5, 6, 7, 8, 9, 10, 11, 12, 13, 14, 15, 16, 17, 18, 19, 20, 21, 22, 23, 24, 25, 26, 27, 28, 29, 30, 31, 32, 33, 34] [35] (by kernel_rfl) (by kernel_rfl) pO ?_
   simp only [xAm, qzA, qzB, qzC, qzD, qzE, qzF]
   repeat (go_big_quiet_step ((first | (go_at_call 107; with_reducible exact xAp (fun W' _ => HM2.out W') _ _) | (go_at_call 105; exact xAp (fun W' _ => HN.out W') _ _))))
   refine wpQuiet_nil ?_
   intro Z hw2
   have hbZ := xAh hw2
   clear hw2 rg0 rg1 rg2 rg3 rg4 rg5 rg6 rg7 rg8 rg9 rg10 rg11 rg12 rg13
   clear ca0 ca1 ca2 ca3 ca4 ca5 ca6 cb0 cb1 cb2 cb3 cb4 cb5 cb6
   go_wp2
   go_ret
   exact ⟨xAb (by rw [← HR.out]; first | rfl | (simp [*]; done) | (simp [*, zer]; done) | (simp_all [zer]; done) | (rw [Bool.eq_iff_iff]; simp [*, zer]; done) | (rw [Bool.eq_iff_iff]; simp_all [zer]; done)), xAa HB hbZ⟩
  | true =>
   cases q3 : (x.give == 0) with
   | false =>
    have hlot := fun W => eqv2 x.lot.1 x.lot.2 0 1 W
    obtain ⟨ca0, ca1, ca2, ca3, ca4, ca5, ca6⟩ := coC (c := c) (m := m) (ga) rfl
    obtain ⟨cb0, cb1, cb2, cb3, cb4, cb5, cb6⟩ := atC (c := x) (gb) rfl
    have rg0 := cR ca0
    have rg1 := cR ca1
    have rg2 := cR ca2
    have rg3 := cR ca3
    have rg4 := cR ca4
    have rg5 := cR ca5
    have rg6 := cR ca6
    have rg7 := cR cb0
    have rg8 := cR cb1
    have rg9 := cR cb2
    have rg10 := cR cb3
    have rg11 := cR cb4
    have rg12 := cR cb5
    have rg13 := cR cb6
    refine xAe [0, 1, 2, 3, 4, 5, 6, 7, 8, 9, 10, 11, 12, 13, 14, 15, 16, 17, 18, 19, 20, 21, 22, 23, 24, 25, 26, 27, 28, 29, 30, 31, 32, 33, 34] [35] (by kernel_rfl) (by kernel_rfl) pO ?_
    simp only [xAm, qzA, qzB, qzC, qzD, qzE, qzF]
    repeat (go_big_quiet_step ((first | (go_at_call 107; with_reducible exact xAp (fun W' _ => HM2.out W') _ _) | (go_at_call 105; exact xAp (fun W' _ => HN.out W') _ _))))
    refine wpQuiet_nil ?_
    intro Z hw2
    have hbZ := xAh hw2
    clear hw2 rg0 rg1 rg2 rg3 rg4 rg5 rg6 rg7 rg8 rg9 rg10 rg11 rg12 rg13
    clear ca0 ca1 ca2 ca3 ca4 ca5 ca6 cb0 cb1 cb2 cb3 cb4 cb5 cb6
    go_wp2
    go_ret
    exact ⟨xAb (by rw [← HR.out]; first | rfl | (simp [*]; done) | (simp [*, zer]; done) | (simp_all [zer]; done) | (rw [Bool.eq_iff_iff]; simp [*, zer]; done) | (rw [Bool.eq_iff_iff]; simp_all [zer]; done)), xAa HB hbZ⟩
   | true =>
    cases q4 : (x.to_ == -1) with
    | false =>
     cases q6 : (m2) with
     | false =>
      subst q6
      have hlot := fun W => eqv2 x.lot.1 x.lot.2 0 1 W
      obtain ⟨ca0, ca1, ca2, ca3, ca4, ca5, ca6⟩ := coC (c := c) (m := m) (ga) rfl
      obtain ⟨cb0, cb1, cb2, cb3, cb4, cb5, cb6⟩ := atC (c := x) (gb) rfl
      have rg0 := cR ca0
      have rg1 := cR ca1
      have rg2 := cR ca2
      have rg3 := cR ca3
      have rg4 := cR ca4
      have rg5 := cR ca5
      have rg6 := cR ca6
      have rg7 := cR cb0
      have rg8 := cR cb1
      have rg9 := cR cb2
      have rg10 := cR cb3
      have rg11 := cR cb4
      have rg12 := cR cb5
      have rg13 := cR cb6
      refine xAe [0, 1, 2, 3, 4, 5, 6, 7, 8, 9, 10, 11, 12, 13, 14, 15, 16, 17, 18, 19, 20, 21, 22, 23, 24, 25, 26, 27, 28, 29, 30, 31, 32, 33, 34] [35] (by kernel_rfl) (by kernel_rfl) pO ?_
      simp only [xAm, qzA, qzB, qzC, qzD, qzE, qzF]
      repeat (go_big_quiet_step ((first | (go_at_call 107; with_reducible exact xAp (fun W' _ => HM2.out W') _ _) | (go_at_call 105; exact xAp (fun W' _ => HN.out W') _ _))))
      refine wpQuiet_nil ?_
      intro Z hw2
      have hbZ := xAh hw2
      clear hw2 rg0 rg1 rg2 rg3 rg4 rg5 rg6 rg7 rg8 rg9 rg10 rg11 rg12 rg13
      clear ca0 ca1 ca2 ca3 ca4 ca5 ca6 cb0 cb1 cb2 cb3 cb4 cb5 cb6
      go_wp2
      go_ret
      exact ⟨xAb (by rw [← HR.out]; first | rfl | (simp [*]; done) | (simp [*, zer]; done) | (simp_all [zer]; done) | (rw [Bool.eq_iff_iff]; simp [*, zer]; done) | (rw [Bool.eq_iff_iff]; simp_all [zer]; done)), xAa HB hbZ⟩
     | true =>
      subst q6
      cases q5 : (x.unit == -1) with
      | false =>
       have hlot := fun W => eqv2 x.lot.1 x.lot.2 0 1 W
       obtain ⟨ca0, ca1, ca2, ca3, ca4, ca5, ca6⟩ := coC (c := c) (m := m) (ga) rfl
       obtain ⟨cb0, cb1, cb2, cb3, cb4, cb5, cb6⟩ := atC (c := x) (gb) rfl
       have rg0 := cR ca0
       have rg1 := cR ca1
       have rg2 := cR ca2
       have rg3 := cR ca3
       have rg4 := cR ca4
       have rg5 := cR ca5
       have rg6 := cR ca6
       have rg7 := cR cb0
       have rg8 := cR cb1
       have rg9 := cR cb2
       have rg10 := cR cb3
       have rg11 := cR cb4
       have rg12 := cR cb5
       have rg13 := cR cb6
       refine xAe [0, 1, 2, 3, 4, 5, 6, 7, 8, 9, 10, 11, 12, 13, 14, 15, 16, 17, 18, 19, 20, 21, 22, 23, 24, 25, 26, 27, 28, 29, 30, 31, 32, 33, 34] [35] (by kernel_rfl) (by kernel_rfl) pO ?_
       simp only [xAm, qzA, qzB, qzC, qzD, qzE, qzF]
       repeat (go_big_quiet_step ((first | (go_at_call 107; with_reducible exact xAp (fun W' _ => HM2.out W') _ _) | (go_at_call 105; exact xAp (fun W' _ => HN.out W') _ _))))
       refine wpQuiet_nil ?_
       intro Z hw2
       have hbZ := xAh hw2
       clear hw2 rg0 rg1 rg2 rg3 rg4 rg5 rg6 rg7 rg8 rg9 rg10 rg11 rg12 rg13
       clear ca0 ca1 ca2 ca3 ca4 ca5 ca6 cb0 cb1 cb2 cb3 cb4 cb5 cb6
       go_wp2
       go_ret
       exact ⟨xAb (by rw [← HR.out]; first | rfl | (simp [*]; done) | (simp [*, zer]; done) | (simp_all [zer]; done) | (rw [Bool.eq_iff_iff]; simp [*, zer]; done) | (rw [Bool.eq_iff_iff]; simp_all [zer]; done)), xAa HB hbZ⟩
      | true =>
       have hlot := fun W => eqv2 x.lot.1 x.lot.2 0 1 W
       obtain ⟨ca0, ca1, ca2, ca3, ca4, ca5, ca6⟩ := coC (c := c) (m := m) (ga) rfl
       obtain ⟨cb0, cb1, cb2, cb3, cb4, cb5, cb6⟩ := atC (c := x) (gb) rfl
       have rg0 := cR ca0
       have rg1 := cR ca1
       have rg2 := cR ca2
       have rg3 := cR ca3
       have rg4 := cR ca4
       have rg5 := cR ca5
       have rg6 := cR ca6
       have rg7 := cR cb0
       have rg8 := cR cb1
       have rg9 := cR cb2
       have rg10 := cR cb3
       have rg11 := cR cb4
       have rg12 := cR cb5
       have rg13 := cR cb6
       refine xAe [0, 1, 2, 3, 4, 5, 6, 7, 8, 9, 10, 11, 12, 13, 14, 15, 16, 17, 18, 19, 20, 21, 22, 23, 24, 25, 26, 27, 28, 29, 30, 31, 32, 33, 34] [35] (by kernel_rfl) (by kernel_rfl) pO ?_
       simp only [xAm, qzA, qzB, qzC, qzD, qzE, qzF]
       repeat (go_big_quiet_step ((first | (go_at_call 107; with_reducible exact xAp (fun W' _ => HM2.out W') _ _) | (go_at_call 105; exact xAp (fun W' _ => HN.out W') _ _))))
       refine wpQuiet_nil ?_
       intro Z hw2
       have hbZ := xAh hw2
       clear hw2 rg0 rg1 rg2 rg3 rg4 rg5 rg6 rg7 rg8 rg9 rg10 rg11 rg12 rg13
       clear ca0 ca1 ca2 ca3 ca4 ca5 ca6 cb0 cb1 cb2 cb3 cb4 cb5 cb6
       go_wp2
       go_ret
       exact ⟨xAb (by rw [← HR.out]; first | rfl | (simp [*]; done) | (simp [*, zer]; done) | (simp_all [zer]; done) | (rw [Bool.eq_iff_iff]; simp [*, zer]; done) | (rw [Bool.eq_iff_iff]; simp_all [zer]; done)), xAa HB hbZ⟩
    | true =>
     cases q5 : (x.unit == -1) with
     | false =>
      have hlot := fun W => eqv2 x.lot.1 x.lot.2 0 1 W
      obtain ⟨ca0, ca1, ca2, ca3, ca4, ca5, ca6⟩ := coC (c := c) (m := m) (ga) rfl
      obtain ⟨cb0, cb1, cb2, cb3, cb4, cb5, cb6⟩ := atC (c := x) (gb) rfl
      have rg0 := cR ca0
      have rg1 := cR ca1
      have rg2 := cR ca2
      have rg3 := cR ca3
      have rg4 := cR ca4
      have rg5 := cR ca5
      have rg6 := cR ca6
      have rg7 := cR cb0
      have rg8 := cR cb1
      have rg9 := cR cb2
      have rg10 := cR cb3
      have rg11 := cR cb4
      have rg12 := cR cb5
      have rg13 := cR cb6
      refine xAe [0, 1, 2, 3, 4, 5, 6, 7, 8, 9, 10, 11, 12, 13, 14, 15, 16, 17, 18, 19, 20, 21, 22, 23, 24, 25, 26, 27, 28, 29, 30, 31, 32, 33, 34] [35] (by kernel_rfl) (by kernel_rfl) pO ?_
      simp only [xAm, qzA, qzB, qzC, qzD, qzE, qzF]
      repeat (go_big_quiet_step ((first | (go_at_call 107; with_reducible exact xAp (fun W' _ => HM2.out W') _ _) | (go_at_call 105; exact xAp (fun W' _ => HN.out W') _ _))))
      refine wpQuiet_nil ?_
      intro Z hw2
      have hbZ := xAh hw2
      clear hw2 rg0 rg1 rg2 rg3 rg4 rg5 rg6 rg7 rg8 rg9 rg10 rg11 rg12 rg13
      clear ca0 ca1 ca2 ca3 ca4 ca5 ca6 cb0 cb1 cb2 cb3 cb4 cb5 cb6
      go_wp2
      go_ret
      exact ⟨xAb (by rw [← HR.out]; first | rfl | (simp [*]; done) | (simp [*, zer]; done) | (simp_all [zer]; done) | (rw [Bool.eq_iff_iff]; simp [*, zer]; done) | (rw [Bool.eq_iff_iff]; simp_all [zer]; done)), xAa HB hbZ⟩
     | true =>
      have hlot := fun W => eqv2 x.lot.1 x.lot.2 0 1 W
      obtain ⟨ca0, ca1, ca2, ca3, ca4, ca5, ca6⟩ := coC (c := c) (m := m) (ga) rfl
      obtain ⟨cb0, cb1, cb2, cb3, cb4, cb5, cb6⟩ := atC (c := x) (gb) rfl
      have rg0 := cR ca0
      have rg1 := cR ca1
      have rg2 := cR ca2
      have rg3 := cR ca3
      have rg4 := cR ca4
      have rg5 := cR ca5
      have rg6 := cR ca6
      have rg7 := cR cb0
      have rg8 := cR cb1
      have rg9 := cR cb2
      have rg10 := cR cb3
      have rg11 := cR cb4
      have rg12 := cR cb5
      have rg13 := cR cb6
      refine xAe [0, 1, 2, 3, 4, 5, 6, 7, 8, 9, 10, 11, 12, 13, 14, 15, 16, 17, 18, 19, 20, 21, 22, 23, 24, 25, 26, 27, 28, 29, 30, 31, 32, 33, 34] [35] (by kernel_rfl) (by kernel_rfl) pO ?_
      simp only [xAm, qzA, qzB, qzC, qzD, qzE, qzF]
      repeat (go_big_quiet_step ((first | (go_at_call 107; with_reducible exact xAp (fun W' _ => HM2.out W') _ _) | (go_at_call 105; exact xAp (fun W' _ => HN.out W') _ _))))
      refine wpQuiet_nil ?_
      intro Z hw2
      have hbZ := xAh hw2
      clear hw2 rg0 rg1 rg2 rg3 rg4 rg5 rg6 rg7 rg8 rg9 rg10 rg11 rg12 rg13
      clear ca0 ca1 ca2 ca3 ca4 ca5 ca6 cb0 cb1 cb2 cb3 cb4 cb5 cb6
      go_wp2
      go_ret
      exact ⟨xAb (by rw [← HR.out]; first | rfl | (simp [*]; done) | (simp [*, zer]; done) | (simp_all [zer]; done) | (rw [Bool.eq_iff_iff]; simp [*, zer]; done) | (rw [Bool.eq_iff_iff]; simp_all [zer]; done)), xAa HB hbZ⟩
end Go.Proofs.YtginnonjdbpamaaGreatDoor
