/- Contracts of functions and plain laws, joined: Qa. -/
import Derived.Test.YtginnonjdbpamaaGreatDoorMc5
import Derived.Test.YtginnonjdbpamaaGreatDoorMc4
/- A region that draws its order: xCt and quiet calls in whatever order, among them one variable's making (an alloc that nothing of the head xDv for), and behind all of them a tail in sequence. One walk of the head serves; where the variable lies is left open. -/
import Derived.Test.YtginnonjdbpamaaGreatDoorMc1
namespace Go.Proofs.YtginnonjdbpamaaGreatDoor
open Go.RowKit Go.Sort
def cls {S : Type} (g : S → World) : World → Prop := fun x => ∃ s, x = g s
def Good (w0 : World) (S : Type) (g : S → World) : Prop := (∀ s, Below w0.heap.size w0 (g s)) ∧ (∀ s x, Below (g s).heap.size (g s) x → ∃ s', x = g s') ∧ Nonempty S
section
variable {P : Program} {ops : Array Oper} {md : Region.Mode} {C : World → Prop}
def hdR (P : Program) (md : Region.Mode) (ops : Array Oper) (C : World → Prop) (hs : List Nat) (E : Array Bool → Bool) (L : Act → Prop) : Nat → Array Bool → Act → Prop
 | 0, listed, a => (overB md ops hs listed = true ∧ E listed = true) ∧ L a
 | f + 1, listed, a => Region.ready md ops listed ≠ [] ∧ ∀ i ∈ Region.ready md ops listed, hs.contains i = true ∧ qOp P ops C i (hdR P md ops C hs E L f (listed.setIfInBounds i true)) a
theorem xEk {hs : List Nat} {E : Array Bool → Bool} {L : Act → Prop} {g : Nat} {Q' : Exit → Act → World → Prop} (hL : ∀ listed a w, C w → E listed = true → L a → wpAny P md ops Q' g listed a w) :
  ∀ (f : Nat) (listed : Array Bool) (a : Act) (w : World), C w → hdR P md ops C hs E L f listed a → wpAny P md ops Q' (f + g) listed a w
 | 0, listed, a, w, hw, h => by rw [Nat.zero_add]; exact hL _ _ _ hw h.1.2 h.2
 | f + 1, listed, a, w, hw, h => by
  rw [show f + 1 + g = (f + g) + 1 by omega]
  exact ⟨fun h0 => absurd h0 h.1, fun i hi => wpOp_of_qOp hw (fun a' w' hw' h' => xEk hL f _ a' w' hw' h') (h.2 i hi).2⟩
def dirA (md : Region.Mode) (ops : Array Oper) (hs ps : List Nat) (m : Nat) : Bool :=
 (List.range ops.size).all fun t => t == m || hs.contains t || (hs.all (fun i => anc md ops ops.size t i) && (ps.contains t || anc md ops ops.size t m))
theorem xG6 {hs ps : List Nat} {m t i : Nat} {listed : Array Bool} (h : dirA md ops hs ps m = true) (hcl : Cl md ops listed) (htm : t ≠ m) (ht : hs.contains t = false) (hi : i ∈ hs) (hu : listed.getD i true = false) : t ∉ Region.ready md ops listed := by
 intro hr
 obtain ⟨_, ot, hot, hall⟩ := mem_ready.1 hr
 have h1 := List.all_eq_true.1 h t (List.mem_range.2 (Array.getElem?_eq_some_iff.1 hot).1)
 have htm' : (t == m) = false := by simpa using htm
 rw [htm', ht] at h1
 simp only [Bool.false_or, Bool.and_eq_true, List.all_eq_true] at h1
 have h2 : anc md ops ops.size t i = true := h1.1 i hi
 have h3 := xC1 hcl _ t i ot hot hall h2
 rw [getD_both hu] at h3
 cases h3
theorem xDn {listed : Array Bool} {i j : Nat} (h : listed.getD j true = true) : (listed.setIfInBounds i true).getD j true = true := by
 by_cases hij : i = j
 ·subst hij
  rcases Nat.lt_or_ge i listed.size with h' | h'
  ·simp [h']
  ·simp
 ·rw [getD_set_ne true hij]; exact h
theorem hdA_first {hs ps : List Nat} {E : Array Bool → Bool} {L : Act → Prop} {m i : Nat} {oi : Oper} {v : Value} (hi : ops[i]? = some oi) (hsel : ∀ (j : Nat) (o : Oper) cs b, ops[j]? = some o → o.op ≠ .select cs b) (hd : dirA md ops hs ps m = true) (hin : i ∈ hs) :
  ∀ (f : Nat) (listed : Array Bool) (a : Act), listed.getD m true = true → Cl md ops listed →
   (∀ j oj, ops[j]? = some oj → j ≠ i → listed.getD j true = false → (∀ e ∈ oj.after, Region.binds md e = true → e.on ≠ i) → oi.apart ops oj = true) →
   i ∈ Region.ready md ops listed → YieldsIn P ops C oi v a → hdR P md ops C hs E L f (listed.setIfInBounds i true) (a.put oi.dst v) → hdR P md ops C hs E L (f + 1) listed a := by
 intro f
 induction f with
 | zero =>
  intro listed a hm hcl _ hr hy H
  have hun := (mem_ready.1 hr).1
  refine ⟨fun h => (by rw [h] at hr; cases hr), fun j hj => ?_⟩
  have hjm : j ≠ m := fun e => by
   have h5 := (mem_ready.1 hj).1
   rw [e, hm] at h5; cases h5
  have hjn : hs.contains j = true := by
   cases hc : hs.contains j with
   | true => rfl
   | false => exact absurd hj (xG6 hd hcl hjm hc hin hun)
  refine ⟨hjn, ?_⟩
  by_cases hji : j = i
  ·subst hji; exact hy.qOp hi H
  ·have h5 := List.all_eq_true.1 H.1.1 j (ready_mono hj hji)
   rw [hjn] at h5
   cases h5
 | succ f ih =>
  intro listed a hm hcl hfree hr hy H
  have hun := (mem_ready.1 hr).1
  refine ⟨fun h => (by rw [h] at hr; cases hr), fun j hj => ?_⟩
  have hjm : j ≠ m := fun e => by
   have h5 := (mem_ready.1 hj).1
   rw [e, hm] at h5; cases h5
  have hjn : hs.contains j = true := by
   cases hc : hs.contains j with
   | true => rfl
   | false => exact absurd hj (xG6 hd hcl hjm hc hin hun)
  refine ⟨hjn, ?_⟩
  by_cases hji : j = i
  ·subst hji; exact hy.qOp hi H
  ·have h1 := (H.2 j (ready_mono hj hji)).2
   obtain ⟨hjun, oj, hoj, hall⟩ := mem_ready.1 hj
   have hnot : ∀ e ∈ oj.after, Region.binds md e = true → e.on ≠ i := fun e he hb heq => by
    have h3 := hall e he hb
    rw [heq, getD_both hun] at h3
    cases h3
   have h2 := qOp_put hoj (hfree j oj hoj hji hjun hnot) (fun cs b => hsel i oi cs b hi) (fun cs b => hsel j oj cs b hoj) hy h1
   refine qOp_mono (fun a' h3 => ih (listed.setIfInBounds j true) a' (xDn hm) (hcl.set hj) (fun k ok hk hki hku hno => hfree k ok hk hki ?_ hno) (ready_mono hr (Ne.symm hji)) h3.1 ?_) h2
   ·by_cases hjk : j = k
    ·subst hjk; exact hjun
    ·rwa [getD_set_ne true hjk] at hku
   ·rw [Array.setIfInBounds_comm _ _ hji]
    exact h3.2
def headA (md : Region.Mode) (ops : Array Oper) (hs : List Nat) (E : Array Bool → Bool) : List Nat → Array Bool → Bool
 | [], listed => overB md ops hs listed && E listed
 | k :: ks, listed => (ops[k]?).isSome && hs.contains k && (Region.ready md ops listed).contains k && Region.free md ops listed k && headA md ops hs E ks (listed.setIfInBounds k true)
theorem hdA_lex {hs ps : List Nat} {E : Array Bool → Bool} {L : Act → Prop} {m : Nat} (hsel : Region.noSelect ops = true) (hd : dirA md ops hs ps m = true) : ∀ (ks : List Nat) (listed : Array Bool) (a : Act), listed.getD m true = true → Cl md ops listed →
  headA md ops hs E ks listed = true → wpQuiet P ops C L (xAm ops ks) a → hdR P md ops C hs E L ks.length listed a
 | [], listed, a, _, _, hB, h => ⟨by simpa [headA] using hB, h⟩
 | k :: ks, listed, a, hm, hcl, hB, h => by
  simp only [headA, Bool.and_eq_true] at hB
  obtain ⟨⟨⟨⟨hsm, hk⟩, hr⟩, hf⟩, hB'⟩ := hB
  obtain ⟨o, h0⟩ := Option.isSome_iff_exists.1 hsm
  rw [xB9 h0] at h
  have hr' : k ∈ Region.ready md ops listed := by simpa using hr
  have hst : qOp P ops C k (wpQuiet P ops C L (xAm ops ks)) a := by unfold qOp; simp only [h0]; exact h
  obtain ⟨v, hy, hK⟩ := yieldsIn_of_qOp h0 hst
  exact hdA_first h0 (Region.noSelect_spec hsel) hd (by simpa using hk) ks.length listed a hm hcl (Region.free_spec h0 hf) hr' hy (hdA_lex hsel hd ks _ _ (xDn hm) (hcl.set hr') hB' hK)
theorem hdQ_put {hs : List Nat} {E : Array Bool → Bool} {L : Act → Prop} {dm : Option Tmp} {u : Value} (hsel : ∀ (j : Nat) (o : Oper) cs b, ops[j]? = some o → o.op ≠ .select cs b)
  (hap : ∀ j oj, hs.contains j = true → ops[j]? = some oj → (∀ d, dm = some d → d ∉ oj.looksAt ops) ∧ ∀ d, dm = some d → oj.dst ≠ some d) :
  ∀ (f : Nat) (listed : Array Bool) (a : Act), hdR P md ops C hs E L f listed a → hdR P md ops C hs E (fun a' => ∃ a'', L a'' ∧ a' = a''.put dm u) f listed (a.put dm u)
 | 0, listed, a, h => ⟨h.1, a, h.2, rfl⟩
 | f + 1, listed, a, h => by
  refine ⟨h.1, fun j hj => ⟨(h.2 j hj).1, ?_⟩⟩
  obtain ⟨hc, hq⟩ := h.2 j hj
  obtain ⟨_, oj, hoj, _⟩ := mem_ready.1 hj
  obtain ⟨v, hy, hK⟩ := yieldsIn_of_qOp hoj hq
  obtain ⟨a1, a2⟩ := hap j oj hc hoj
  have hy' : YieldsIn P ops C oj v (a.put dm u) := hy.of_same (execOp_put oj (fun cs b => hsel j oj cs b hoj) a dm u a1) (wanted_put oj a dm u a1)
  refine hy'.qOp hoj ?_
  rw [Act.put_comm a u v a2]
  exact hdQ_put hsel hap f _ _ hK
theorem xH5 {hs : List Nat} {E : Array Bool → Bool} {af : Act} {d : Nat} : ∀ (f : Nat) (listed : Array Bool) (b : Act), (∀ j oj, hs.contains j = true → listed.getD j true = false → ops[j]? = some oj → oj.dst ≠ some d) →
  hdR P md ops C hs E (fun a' => a' = af) f listed b → af.tmps.getD d undef = b.tmps.getD d undef
 | 0, listed, b, _, h => by rw [show b = af from h.2]
 | f + 1, listed, b, hn, h => by
  obtain ⟨j, hj⟩ := List.exists_mem_of_ne_nil _ h.1
  obtain ⟨hc, hq⟩ := h.2 j hj
  obtain ⟨hju, oj, hoj, _⟩ := mem_ready.1 hj
  obtain ⟨v, _, hK⟩ := yieldsIn_of_qOp hoj hq
  have hdj := hn j oj hc hju hoj
  rw [xH5 f _ _ (fun k ok hk hku hok => hn k ok hk (by
   by_cases hjk : j = k
   ·subst hjk; exact hju
   ·rwa [getD_set_ne true hjk] at hku) hok) hK]
  unfold Act.put
  cases hds : oj.dst with
  | none => rfl
  | some e =>
   have : e ≠ d := fun he => hdj (by rw [hds, he])
   simp [Array.getElem?_setIfInBounds_ne this]
def onceB (ops : Array Oper) (hs : List Nat) : Bool := hs.all fun i => hs.all fun j => i == j || match ops[i]?, ops[j]? with
 | some oi, some oj => oi.dst.isNone || oi.dst != oj.dst
 | _, _ => true
theorem onceB_spec {hs : List Nat} (h : onceB ops hs = true) {i j : Nat} {oi oj : Oper} {d : Nat} (hi : i ∈ hs) (hj : j ∈ hs) (hij : i ≠ j) (hoi : ops[i]? = some oi) (hoj : ops[j]? = some oj) (hd : oi.dst = some d) : oj.dst ≠ some d := by
 have h1 := List.all_eq_true.1 (List.all_eq_true.1 h i hi) j hj
 simp only [hoi, hoj, hd, Option.isNone_some, Bool.false_or, Bool.or_eq_true, beq_iff_eq, hij, false_or, bne_iff_ne, ne_eq] at h1
 exact fun e => h1 e.symm
def psB (md : Region.Mode) (ops : Array Oper) (m : Nat) (ts : List Nat) : List Nat → Array Bool → Bool
 | [], listed => decide (Region.ready md ops listed = [m]) && tlB md ops ts (listed.setIfInBounds m true)
 | k :: ks, listed => (ops[k]?).isSome && pureAt ops k && (Region.ready md ops listed).contains k && Region.free md ops listed k && psB md ops m ts ks (listed.setIfInBounds k true)
theorem xE6 {ts : List Nat} {m dm : Nat} {T : TypeId} {zs : Array Value} {oa : Oper} {w0 : World} {Q : Exit → Act → World → Prop} (hsel : Region.noSelect ops = true) (hQ : xCm Q)
  (hoa : ops[m]? = some oa) (hdst : oa.dst = some dm) (hg : oa.guard = none) (hrun : ∀ (a : Act) (W : World), (execOp a.eval oa).run P W = .ok (.value (.pointer (some ⟨W.heap.size, 0, none⟩))) (W.alloc (.cells zs T))) :
  ∀ (ps : List Nat) (listed : Array Bool) (a : Act) (w : World), (∀ j oj, j ∈ ps → ops[j]? = some oj → (∀ d, oa.dst = some d → d ∉ oj.looksAt ops) ∧ ∀ d, oa.dst = some d → oj.dst ≠ some d) →
   Below w0.heap.size w0 w → psB md ops m ts ps listed = true →
   (∀ (la : Nat) (W : World), w0.heap.size ≤ la → Below w0.heap.size w0 W → Blk W la T zs → wpList P ops Q (xAm ops (ps ++ ts)) (a.put oa.dst (.pointer (some ⟨la, 0, none⟩))) W) →
   wpAny P md ops Q (ps.length + 1 + ts.length) listed a w
 | [], listed, a, w, _, hw, hB, hK => by
  simp only [psB, Bool.and_eq_true, decide_eq_true_eq] at hB
  obtain ⟨hr, hB⟩ := hB
  rw [show ([] : List Nat).length + 1 + ts.length = ts.length + 1 by simp; omega]
  refine ⟨fun h => (by rw [hr] at h; cases h), fun i hi => ?_⟩
  rw [hr] at hi
  obtain rfl : i = m := by simpa using hi
  unfold wpOp
  simp only [hoa, Region.wanted, hg, if_true]
  refine .inl ?_
  unfold Oper.wp
  rw [hrun]
  exact xBp hsel hQ ts _ _ _ hB (hK _ _ hw.size (xAc hw _) (Blk.new w T zs))
 | k :: ks, listed, a, w, hap, hw, hB, hK => by
  simp only [psB, Bool.and_eq_true] at hB
  obtain ⟨⟨⟨⟨hsm, hp⟩, hr⟩, hf⟩, hB'⟩ := hB
  obtain ⟨o, h0⟩ := Option.isSome_iff_exists.1 hsm
  obtain ⟨a1, a2⟩ := hap k o (by simp) h0
  unfold pureAt at hp
  simp only [h0, Bool.and_eq_true] at hp
  obtain ⟨hgk, hp⟩ := hp
  have hgk' : o.guard = none := by simpa using hgk
  have hs := Region.noSelect_spec hsel
  have hwd : ∀ a : Act, Region.wanted o (yielded ops a.tmps) = true := fun a => by simp [Region.wanted, hgk']
  have hex : ∀ u, execOp (a.put oa.dst u).eval o = execOp a.eval o := fun u => execOp_put o (fun cs b => hs k o cs b h0) a oa.dst u a1
  rcases xFt (ρ := a.eval) hp with ⟨v, hv⟩ | ⟨x, hx⟩
  ·have hy : Yields P ops o v a := .inl ⟨hwd a, fun w' => by rw [hv]; rfl⟩
   have h3 : ∀ (la : Nat) (W : World), w0.heap.size ≤ la → Below w0.heap.size w0 W → Blk W la T zs → wpList P ops Q (xAm ops (ks ++ ts)) ((a.put o.dst v).put oa.dst (.pointer (some ⟨la, 0, none⟩))) W := by
    intro la W h1 h2 h4
    have h := hK la W h1 h2 h4
    rw [qzE, xB9 h0] at h
    unfold wpList at h
    rw [if_pos (hwd _)] at h
    rcases h with h | h
    ·unfold Oper.wp at h; rw [hex, hv] at h
     rw [← Act.put_comm a (.pointer (some ⟨la, 0, none⟩)) v a2]; exact h
    ·obtain ⟨⟨hm, _⟩, _⟩ := h
     rw [hex, hv] at hm
     simp [Sem.runT] at hm
   rw [show (k :: ks).length + 1 + ts.length = (ks.length + 1 + ts.length) + 1 by simp; omega]
   exact wpAny_first h0 hs (fun c a' w' hq => hQ c _ _ w' (by cases o.dst <;> rfl) hq) (ks.length + 1 + ts.length) listed a w (Region.free_spec h0 hf) (by simpa using hr) hy
    (xE6 hsel hQ hoa hdst hg hrun ks _ _ w (fun j oj hj => hap j oj (by simp [hj])) hw hB' h3)
  ·exfalso
   have h := hK _ _ hw.size (xAc hw _) (Blk.new w T zs)
   rw [qzE, xB9 h0] at h
   unfold wpList at h
   rw [if_pos (hwd _)] at h
   rcases h with h | h
   ·unfold Oper.wp at h; rw [hex, hx] at h; exact h
   ·obtain ⟨⟨hm, _⟩, _⟩ := h
    rw [hex, hx] at hm
    simp [Sem.runT] at hm
def endB (md : Region.Mode) (ops : Array Oper) (ps ts : List Nat) (m : Nat) (listed : Array Bool) : Bool := tlB md ops (ps ++ ts) listed && psB md ops m ts ps (listed.setIfInBounds m false)
theorem set_back {listed : Array Bool} {m : Nat} (h : listed.getD m true = false) : (listed.setIfInBounds m true).setIfInBounds m false = listed := by
 apply Array.ext_getElem?
 intro i
 by_cases hi : m = i
 ·subst hi
  rcases Nat.lt_or_ge m listed.size with hlt | hge
  ·simp [hlt] at h ⊢; exact h
  ·simp [Array.getElem?_eq_none hge] at h
 ·simp [Array.getElem?_setIfInBounds_ne hi]
theorem xIo {hs ps ts : List Nat} {m dm : Nat} {T : TypeId} {zs : Array Value} {oa : Oper} {w0 : World} {af : Act} {Q : Exit → Act → World → Prop} (hsel : Region.noSelect ops = true) (hQ : xCm Q) (hd : dirA md ops hs ps m = true) (hone : onceB ops hs = true)
  (hoa : ops[m]? = some oa) (hdst : oa.dst = some dm) (hg : oa.guard = none) (hafter : oa.after = #[]) (hrun : ∀ (a : Act) (W : World), (execOp a.eval oa).run P W = .ok (.value (.pointer (some ⟨W.heap.size, 0, none⟩))) (W.alloc (.cells zs T)))
  (hap : ∀ j oj, (hs ++ ps).contains j = true → ops[j]? = some oj → (∀ d, oa.dst = some d → d ∉ oj.looksAt ops) ∧ ∀ d, oa.dst = some d → oj.dst ≠ some d)
  (hK : ∀ (la : Nat) (W : World), w0.heap.size ≤ la → Below w0.heap.size w0 W → Blk W la T zs → wpList P ops Q (xAm ops (ps ++ ts)) (af.put oa.dst (.pointer (some ⟨la, 0, none⟩))) W) :
  ∀ (f : Nat) (listed : Array Bool) (a : Act) (w : World), listed.getD m true = false → Cl md ops listed → Below w0.heap.size w0 w →
   (∀ (S : Type) (g : S → World), Good w0 S g → hdR P md ops (cls g) hs (endB md ops ps ts m) (fun a' => a' = af) f (listed.setIfInBounds m true) a) → wpAny P md ops Q (f + (ps.length + 1 + ts.length)) listed a w := by
 have hS := Region.noSelect_spec hsel
 intro f
 induction f with
 | zero =>
  intro listed a w hm hcl hw H
  have hG : Good w0 {x : World // Below w0.heap.size w0 x} (fun x => x.1) := ⟨fun s => s.2, fun s x hx => ⟨⟨x, xAa s.2 hx⟩, rfl⟩, ⟨⟨w, hw⟩⟩⟩
  have h1 := H _ _ hG
  have h2 := h1.1.2
  simp only [endB, Bool.and_eq_true, set_back hm] at h2
  rw [Nat.zero_add]
  have h3 : a = af := h1.2
  subst h3
  exact xE6 hsel hQ hoa hdst hg hrun ps listed a w (fun j oj hj hoj => hap j oj (by simp [hj]) hoj) hw h2.2 hK
 | succ f ih =>
  intro listed a w hm hcl hw H
  rw [show f + 1 + (ps.length + 1 + ts.length) = (f + (ps.length + 1 + ts.length)) + 1 by omega]
  have hmr : m ∈ Region.ready md ops listed := mem_ready.2 ⟨hm, oa, hoa, by rw [hafter]; simp⟩
  have hG0 : Good w0 {x : World // Below w0.heap.size w0 x} (fun x => x.1) := ⟨fun s => s.2, fun s x hx => ⟨⟨x, xAa s.2 hx⟩, rfl⟩, ⟨⟨w, hw⟩⟩⟩
  refine ⟨fun h => (by rw [h] at hmr; cases hmr), fun i hi => ?_⟩
  by_cases him : i = m
  ·subst him
   unfold wpOp
   simp only [hoa, Region.wanted, hg, if_true]
   refine .inl ?_
   unfold Oper.wp
   rw [hrun]
   have hG : Good w0 {x : World // Below w0.heap.size w0 x ∧ Below (w.alloc (.cells zs T)).heap.size (w.alloc (.cells zs T)) x} (fun x => x.1) := ⟨fun s => s.2.1, fun s x hx => ⟨⟨x, xAa s.2.1 hx, xAa s.2.2 hx⟩, rfl⟩, ⟨⟨w.alloc (.cells zs T), xAc hw _, Below.refl _ _⟩⟩⟩
   have h1 := hdQ_put (u := .pointer (some ⟨w.heap.size, 0, none⟩)) hS (fun j oj hj => hap j oj (by simp at hj ⊢; exact .inl hj)) (f + 1) _ _ (H _ _ hG)
   have h2 := xEk (g := (ps ++ ts).length) (Q' := Q) (fun listed a' W hC ht hL => xBp hsel hQ (ps ++ ts) listed a' W (by simp only [endB, Bool.and_eq_true] at ht; exact ht.1) (by
    obtain ⟨s, rfl⟩ := hC
    obtain ⟨a'', rfl, rfl⟩ := hL
    exact hK _ _ hw.size s.2.1 ((Blk.new w T zs).then_ s.2.2))) (f + 1) _ _ _ ⟨⟨w.alloc (.cells zs T), xAc hw _, Below.refl _ _⟩, rfl⟩ h1
   rw [show f + (ps.length + 1 + ts.length) = f + 1 + (ps ++ ts).length by simp; omega]
   exact h2
  ·have hin : hs.contains i = true := by
    cases hc : hs.contains i with
    | true => rfl
    | false =>
     obtain ⟨j, hj⟩ := List.exists_mem_of_ne_nil _ (H _ _ hG0).1
     have hjh := ((H _ _ hG0).2 j hj).1
     have hju := (mem_ready.1 hj).1
     have hjm : m ≠ j := fun e => by
      subst e
      rcases Nat.lt_or_ge m listed.size with hlt | hge
      ·simp [hlt] at hju
      ·simp [Array.getElem?_eq_none hge] at hm
     exact absurd hi (xG6 hd hcl him hc (by simpa using hjh) (by rwa [getD_set_ne true hjm] at hju))
   obtain ⟨hiu, oi, hoi, _⟩ := mem_ready.1 hi
   have key : ∀ (S : Type) (g : S → World), Good w0 S g → ∃ v, YieldsIn P ops (cls g) oi v a ∧ a.put oi.dst v = a.put oi.dst ((oi.dst.map fun d => af.tmps.getD d undef).getD undef) ∧ hdR P md ops (cls g) hs (endB md ops ps ts m) (fun a' => a' = af) f ((listed.setIfInBounds m true).setIfInBounds i true) (a.put oi.dst v) := by
    intro S g hG
    have hq := ((H S g hG).2 i (ready_mono hi him)).2
    obtain ⟨v, hy, hK'⟩ := yieldsIn_of_qOp hoi hq
    refine ⟨v, hy, ?_, hK'⟩
    cases hds : oi.dst with
    | none => rfl
    | some d =>
     have hk := xH5 (d := d) f _ _ (fun j oj hj hju hoj => ?_) hK'
     ·rw [hds] at hk
      simp only [Option.map_some, Option.getD_some, hk, Act.put]
      congr 1
      rcases Nat.lt_or_ge d a.tmps.size with hlt | hge
      ·congr 1; simp [hlt]
      ·rw [Array.setIfInBounds_eq_of_size_le hge, Array.setIfInBounds_eq_of_size_le hge]
     ·by_cases hij : i = j
      ·subst hij
       exfalso
       rcases Nat.lt_or_ge i (listed.setIfInBounds m true).size with hlt | hge
       ·have : ((listed.setIfInBounds m true).setIfInBounds i true).getD i true = true := by simp at hlt ⊢; try simp [hlt]
        rw [this] at hju; cases hju
       ·rw [Array.setIfInBounds_eq_of_size_le hge] at hju
        simp [Array.getElem?_eq_none hge] at hju
      ·exact onceB_spec hone (by simpa using hin) (by simpa using hj) hij hoi hoj hds
   obtain ⟨v, hy, hv, _⟩ := key _ _ hG0
   refine wpOp_of_qOp (C := cls (fun x : {x : World // Below w0.heap.size w0 x} => x.1)) ⟨⟨w, hw⟩, rfl⟩ (fun a' w' hC' hK' => ?_) (hy.qOp hoi (K := fun a' => a' = a.put oi.dst v) rfl)
   obtain ⟨s, rfl⟩ := hC'
   subst hK'
   refine ih (listed.setIfInBounds i true) _ _ (by rw [getD_set_ne true him]; exact hm) (hcl.set hi) s.2 (fun S g hG' => ?_)
   obtain ⟨v', hy', hv', hK''⟩ := key S g hG'
   rw [hv, ← hv', Array.setIfInBounds_comm _ _ him]
   exact hK''
def tailA (ops : Array Oper) (hs ps ts : List Nat) (m dm : Nat) : Bool :=
 Region.noSelect ops && decide (hs.length + (ps.length + 1 + ts.length) = ops.size) && dirA .any ops hs ps m && onceB ops hs && headA .any ops hs (endB .any ops ps ts m) hs ((Array.replicate ops.size false).setIfInBounds m true)
  && (match ops[m]? with | some oa => decide (oa.dst = some dm) && oa.guard.isNone && oa.after.isEmpty && (hs ++ ps).all (fun j => match ops[j]? with | some oj => oa.apart ops oj | none => true) | none => false)
end
theorem xCo {P : Program} {id : Nat} {Q : Exit → Act → World → Prop} {a : Act} {w : World} {l : List Oper} {T : TypeId} {zs : Array Value} (hs ps ts : List Nat) (m dm : Nat) (hm : P.follows .mixedOrders = true) (hB : tailA l.toArray hs ps ts m dm = true) (hQ : xCm Q)
  (hrun : ∀ (a : Act) (W : World), (execOp a.eval ((l[m]?).getD default)).run P W = .ok (.value (.pointer (some ⟨W.heap.size, 0, none⟩))) (W.alloc (.cells zs T)))
  (h : ∃ af : Act, (∀ (S : Type) (g : S → World), Good w S g → wpQuiet P l.toArray (cls g) (fun a' => a' = af) (xAm l.toArray hs) a) ∧
   ∀ (la : Nat) (W : World), w.heap.size ≤ la → Below w.heap.size w W → Blk W la T zs → wpList P l.toArray Q (xAm l.toArray (ps ++ ts)) (af.put (some dm) (.pointer (some ⟨la, 0, none⟩))) W) :
  (Code.region id l.toArray true).wp P Q a w := by
 obtain ⟨af, hH, hK⟩ := h
 simp only [tailA, Bool.and_eq_true, decide_eq_true_eq] at hB
 obtain ⟨⟨⟨⟨⟨hsel, hn⟩, hd⟩, hone⟩, hlex⟩, hmm⟩ := hB
 cases hoa : l.toArray[m]? with
 | none => rw [hoa] at hmm; cases hmm
 | some oa =>
  rw [hoa] at hmm
  simp only [Bool.and_eq_true, decide_eq_true_eq] at hmm
  obtain ⟨⟨⟨hdst, hg⟩, hafter⟩, hap⟩ := hmm
  have hg' : oa.guard = none := by simpa using hg
  have ha' : oa.after = #[] := by simpa using hafter
  have hl : l[m]? = some oa := by simpa using hoa
  rw [hl] at hrun
  have hml : m < l.toArray.size := (Array.getElem?_eq_some_iff.1 hoa).1
  refine wp_region_any hm ?_
  have h1 := xIo (md := .any) (w0 := w) (Q := Q) hsel hQ hd hone hoa hdst hg' ha' hrun
   (fun j oj hj hoj => by
    have h2 := List.all_eq_true.1 hap j (by simpa using hj)
    rw [hoj] at h2
    have h3 := Oper.apart_spec h2
    exact ⟨h3.1, h3.2.1⟩) (by rw [hdst]; exact hK) hs.length (Array.replicate l.toArray.size false) a { w with drawn := w.drawn + 1 }
   (by simp at hml ⊢; try simp [hml]) (fun j oj _ hl => by rw [getD_replicate_false] at hl; cases hl) ⟨rfl, rfl, rfl, Nat.le_refl _, fun _ _ => rfl⟩
   (fun S g hG => hdA_lex hsel hd hs _ a (by
    simp at hml ⊢; try simp [hml]) (fun j oj hoj hl e he hb => by
     by_cases hjm : m = j
     ·subst hjm
      rw [hoa] at hoj; cases hoj
      rw [ha'] at he; simp at he
     ·rw [getD_set_ne false hjm, getD_replicate_false] at hl; cases hl) hlex (hH S g hG))
  rwa [hn] at h1
theorem xA3 {w : World} {S : Type} {g : S → World} (hG : Good w S g) {a : Addr} {v : Value} (h : w.cell? a = some v) (s : S) : (g s).cell? a = some v := by
 rw [(hG.1 s).cell (block_lt_of_cell h)]; exact h
theorem xFh {P : Program} {f : FuncId} {args : Array Value} {w : World} {v : Value} {S : Type} {g : S → World} (hG : Good w S g) (h : ∀ W, Below w.heap.size w W → Calls P f args W fun e w' => e = .returned v ∧ Below W.heap.size W w') (s : S) :
  Calls P f args (g s) fun e w'' => e = .returned v ∧ ∃ s', w'' = g s' := (h _ (hG.1 s)).mono fun _ _ ⟨he, hb⟩ => ⟨he, hG.2.1 s _ hb⟩
end Go.Proofs.YtginnonjdbpamaaGreatDoor
