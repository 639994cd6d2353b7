/- Symbols with one other clause or act type, or other names: which faults they have (the plain laws of TypingClauses, TypingSpans, TypingActs, TypingNames). -/
import Derived.Test.YtcfjehohemdanaaDoorTa4
import Derived.Test.YtcfjehohemdanaaDoorTd2
namespace Go.Proofs.YtcfjehohemdanaaDoor

def Sy.setC (s : Sy) (i : Nat) (c : Cs) : Sy := { s with cl := s.cl.set i c }
def Sy.setA (s : Sy) (i : Nat) (a : As) : Sy := { s with ac := s.ac.set i a }
theorem set_get {α : Type} {l : List α} {i j : Nat} {x y : α} (h : (l.set i x)[j]? = some y) : (j = i ∧ y = x ∧ i < l.length) ∨ (j ≠ i ∧ l[j]? = some y) := by
  rw [List.getElem?_set] at h
  split at h
  · rename_i e
    split at h
    · cases h; exact .inl ⟨e.symm, rfl, by omega⟩
    · cases h
  · rename_i e
    exact .inr ⟨fun h => e h.symm, h⟩
theorem setC_sz (s : Sy) (i : Nat) (c : Cs) : (s.setC i c).sz = s.sz := by simp [Sy.sz, Sy.setC]
theorem setC_eCl (s : Sy) (i j : Nat) (c d : Cs) : eCl (s.setC i c) j d = eCl s j d := rfl
theorem setC_small (s : Sy) (i : Nat) (c : Cs) : smallT (s.setC i c) = smallT s := by
  unfold smallT; rw [show (s.setC i c).cl.length = s.cl.length from List.length_set ..]; rfl
theorem all_set {α : Type} {l : List α} {p : α → Bool} (h : l.all p = true) (i : Nat) {x : α} (hx : p x = true) : (l.set i x).all p = true := by
  rw [List.all_eq_true] at h ⊢
  intro y hy
  rcases List.mem_or_eq_of_mem_set hy with hy | rfl
  · exact h y hy
  · exact hx
theorem setC_wf {s : Sy} (h : wfS s = true) (i : Nat) {c : Cs} (hc : fmC s.sz c.c = true) (hs : fmS c = true) : wfS (s.setC i c) = true := by
  simp only [wfS, Bool.and_eq_true] at h ⊢
  rw [setC_sz, setC_small]
  exact ⟨h.1, all_set h.2 i (by rw [hc, hs]; rfl)⟩
/-- the faults if one clause is another one -/
theorem setC_chk {s : Sy} (h : chk s = []) {i : Nat} {c : Cs} (hi : i < s.cl.length) (hc : fmC s.sz c.c = true) (hs : fmS c = true) : chk (s.setC i c) = flt (eCl s i c) c.pos := by
  obtain ⟨h1, h2, h3, h4, h5⟩ := chk_nil.1 h
  rw [chk_wf (setC_wf h1 i hc hs)]
  have g0 : eBeg (s.setC i c) = 0 := h2
  have g1 : gx (eUn (s.setC i c)) (fun _ => -1) 0 (s.setC i c).un = [] := gx_nil.2 fun j a ha => by rw [Nat.zero_add]; exact h3 j a ha
  have g2 : gx (fun _ (a : As) => eAc a.a) (·.pos) 0 (s.setC i c).ac = [] := gx_nil.2 fun j a ha => h4 j a ha
  have g3 : gx (eCl (s.setC i c)) (·.pos) 0 (s.setC i c).cl = flt (eCl s i c) c.pos := by
    have := gx_one (e := eCl (s.setC i c)) (p := (·.pos)) (l := (s.setC i c).cl) (k := 0) (i := i) (a := c) (by simp [Sy.setC, hi]) fun j b hj hb => by
      rcases set_get hb with ⟨rfl, _⟩ | ⟨_, hb⟩
      · exact absurd rfl hj
      · rw [Nat.zero_add]; exact h5 j b hb
    rw [this, Nat.zero_add]; rfl
  rw [g0, g1, g2, g3]; rfl
theorem setC_bad {s : Sy} {i : Nat} {c : Cs} (hi : i < s.cl.length) (hs : fmS c = false) : chk (s.setC i c) = [(1, -1)] := by
  refine chk_no ?_
  rw [Bool.eq_false_iff]
  intro h
  simp only [wfS, Bool.and_eq_true, List.all_eq_true] at h
  have := (h.2 c (List.mem_iff_getElem?.2 ⟨i, by simp [Sy.setC, hi]⟩)).2
  rw [hs] at this; cases this
/-- the watch that takes a clause's place -/
def wtc (c : Cs) : Cs := { c with wi := ⟨1, false, ⟨#[]⟩⟩, gr := ⟨0, false, ⟨#[]⟩⟩, c := ⟨4, -1, 0, 1, [], 0, 0, false, false, -1, -1, (0, 1), -1, -1, false⟩ }
theorem emp0 : emp ⟨#[]⟩ = true := by simp [emp, ByteArray.toList_eq]
theorem wtc_fm (c : Cs) (z : Sz) (h : 0 < z.ac) : fmC z (wtc c).c = true ∧ fmS (wtc c) = true := by
  simp [wtc, fmC, fm1, fm2, fm3, fm4, fm5, fm6, fm7, inn, isIx, fre, zero?, bnd, fmS, noS, emp0, h]
theorem wtc_e (s : Sy) (i : Nat) (c : Cs) : eCl s i (wtc c) = 0 := by
  simp [eCl, wtc, fst1, badNu, badKi, notMo, inn]
theorem flt_wout (e p q : Int) (h : p ≠ q) : (flt e p).filter (fun x => x.2 != q) = flt e p := by
  unfold flt; split <;> simp [h]
theorem gx_wout {α : Type} {e : Nat → α → Int} {p : α → Int} {l : List α} {k : Nat} {q : Int} (h : ∀ (i : Nat) a, l[i]? = some a → p a ≠ q) : (gx e p k l).filter (fun x => x.2 != q) = gx e p k l := by
  rw [List.filter_eq_self]
  intro x hx
  obtain ⟨i, a, h1, rfl, _⟩ := gx_mem hx
  simpa using h i a h1
/-- TypingClauses -/
theorem clauses_law {s : Sy} {i : Nat} {c : Cs} (hw : wfS s.plc = true) (hn : 0 < s.ac.length) (hc : s.plc.cl[i]? = some c) : chk (s.plc.setC i (wtc c)) = wout (chk s.plc) (2000 + i) := by
  have hsm : s.ac.length ≤ 60 := by
    have := hw
    simp only [wfS, smallT, Bool.and_eq_true, decide_eq_true_eq, Sy.plc, plA_len] at this
    omega
  obtain ⟨f1, f2⟩ := wtc_fm c s.plc.sz (by simpa [Sy.sz, Sy.plc, plA] using hn)
  rw [chk_wf (setC_wf hw i f1 f2), chk_wf hw]
  unfold wout
  simp only [List.filter_append]
  rw [flt_wout _ _ _ (by omega), gx_wout (fun _ _ _ => by omega), gx_wout (fun j a ha => by have := plA_pos ha; omega)]
  have h3 := gx_filter (e := eCl s.plc) (p := (·.pos)) (l := s.plc.cl) (k := 0) (i := i) (c := 2000) (fun j a ha => (plC_pos ha).1) (a' := wtc c) (wtc_e _ _ _)
  rw [h3]
  rfl
/-- TypingSpans -/
def wiC (c : Cs) (d : Int) : Cs := { c with wi := { c.wi with d := d } }
def grC (c : Cs) (d : Int) (b : Bool) : Cs := { c with gr := ⟨d, b, ⟨#[]⟩⟩ }
theorem plc_clean {s : Sy} (h : chk s = []) {i : Nat} {c : Cs} (hc : s.plc.cl[i]? = some c) : chk s.plc = [] ∧ i < s.plc.cl.length ∧ fmC s.plc.sz c.c = true ∧ fmS c = true ∧ eCl s.plc i c = 0 ∧ c.pos = 2000 + i := by
  have h0 := pl_nil h
  obtain ⟨h1, _, _, _, h5⟩ := chk_nil.1 h0
  simp only [wfS, Bool.and_eq_true, List.all_eq_true] at h1
  have := h1.2 c (List.mem_of_getElem? hc)
  exact ⟨h0, (List.getElem?_eq_some_iff.1 hc).1, this.1, this.2, h5 i c hc, (plC_pos hc).1⟩
theorem eCl_zero {s : Sy} {i : Nat} {c : Cs} (h : eCl s i c = 0) : badNu c = false ∧ decide (8 < c.c.start.length) = false ∧ (c.c.start.any fun x => x.1 == i) = false ∧ badKi s c = false ∧ notMo s c = false := by
  have := fst1_zero h (by simp)
  exact ⟨this (2, badNu c) (by simp), this (3, decide (8 < c.c.start.length)) (by simp), this (12, c.c.start.any fun x => x.1 == i) (by simp), this (10, badKi s c) (by simp), this (11, notMo s c) (by simp)⟩
theorem spans_within {s : Sy} (h : chk s = []) {i : Nat} {c : Cs} (hc : s.plc.cl[i]? = some c) (d : Int) : chk (s.plc.setC i (wiC c d)) = if inn d 1 400 then ([] : List (Int × Int)) else [(2, 2000 + (i : Int))] := by
  obtain ⟨h0, hi, f1, f2, h5, hp⟩ := plc_clean h hc
  rw [setC_chk h0 hi (c := wiC c d) f1 f2]
  obtain ⟨k1, k2, k3, k4, k5⟩ := eCl_zero h5
  have e1 : badNu (wiC c d) = !inn d 1 400 := by
    simp only [badNu, Bool.or_eq_false_iff, wiC] at k1 ⊢
    rw [k1.1.1.2, k1.1.2, k1.2]; simp
  have e2 : eCl s.plc i (wiC c d) = fst1 [(2, badNu (wiC c d)), (3, decide (8 < c.c.start.length)), (12, c.c.start.any fun x => x.1 == i), (10, badKi s.plc c), (11, notMo s.plc c)] := rfl
  rw [e2, k2, k3, k4, k5, e1, show (wiC c d).pos = 2000 + i from hp]
  cases inn d 1 400 <;> rfl
theorem spans_grace_no {s : Sy} (h : chk s = []) {i : Nat} {c : Cs} (hc : s.plc.cl[i]? = some c) (hk : c.c.kind ≠ 1) (d : Int) (b : Bool) : chk (s.plc.setC i (grC c d b)) = if d == 0 && !b then [] else [(1, -1)] := by
  obtain ⟨h0, hi, f1, f2, h5, hp⟩ := plc_clean h hc
  have hk' : (c.c.kind == 1) = false := by simpa using hk
  have e0 : fmS (grC c d b) = (d == 0 && !b) := by
    simp only [fmS, hk', Bool.false_or, Bool.and_eq_true] at f2
    simp only [fmS, grC, hk', Bool.false_or, noS, emp0, f2.1.1, Bool.true_and, Bool.and_true]
  cases hz : (d == 0 && !b) with
  | false => rw [setC_bad hi (by rw [e0, hz])]; rfl
  | true =>
    rw [setC_chk h0 hi (c := grC c d b) f1 (by rw [e0, hz])]
    simp only [Bool.and_eq_true, beq_iff_eq, Bool.not_eq_true'] at hz
    obtain ⟨rfl, rfl⟩ := hz
    obtain ⟨k1, k2, k3, k4, k5⟩ := eCl_zero h5
    have e1 : badNu (grC c 0 false) = false := by
      simp only [badNu, Bool.or_eq_false_iff, grC] at k1 ⊢
      rw [k1.1.1.1, k1.1.2, k1.2]; simp [inn]
    have e3 : badKi s.plc (grC c 0 false) = false := by
      simp only [badKi, Bool.or_eq_false_iff, grC] at k4 ⊢
      rw [k4.1.2, k4.2]; simp
    have e2 : eCl s.plc i (grC c 0 false) = fst1 [(2, badNu (grC c 0 false)), (3, decide (8 < c.c.start.length)), (12, c.c.start.any fun x => x.1 == i), (10, badKi s.plc (grC c 0 false)), (11, notMo s.plc c)] := rfl
    rw [e2, k2, k3, k5, e1, e3]; rfl
theorem spans_grace {s : Sy} (h : chk s = []) {i : Nat} {c : Cs} (hc : s.plc.cl[i]? = some c) (hk : c.c.kind = 1) (d : Int) (b : Bool) :
    chk (s.plc.setC i (grC c d b)) = if d == 0 then ([] : List (Int × Int)) else if !inn d 1 400 then [(2, 2000 + (i : Int))] else if b != c.wi.b then [(10, 2000 + (i : Int))] else [] := by
  obtain ⟨h0, hi, f1, f2, h5, hp⟩ := plc_clean h hc
  have e0 : fmS (grC c d b) = true := by
    simp only [fmS, Bool.and_eq_true] at f2
    simp only [fmS, grC, hk, emp0, f2.1.1]; rfl
  rw [setC_chk h0 hi (c := grC c d b) f1 e0]
  obtain ⟨k1, k2, k3, k4, k5⟩ := eCl_zero h5
  have e1 : badNu (grC c d b) = !inn d 0 400 := by
    simp only [badNu, Bool.or_eq_false_iff, grC] at k1 ⊢
    rw [k1.1.1.1, k1.1.2, k1.2]; simp
  have e3 : badKi s.plc (grC c d b) = (d != 0 && b != c.wi.b) := by
    simp only [badKi, Bool.or_eq_false_iff, grC] at k4 ⊢
    rw [k4.1.2, k4.2]; simp
  have e2 : eCl s.plc i (grC c d b) = fst1 [(2, badNu (grC c d b)), (3, decide (8 < c.c.start.length)), (12, c.c.start.any fun x => x.1 == i), (10, badKi s.plc (grC c d b)), (11, notMo s.plc c)] := rfl
  rw [e2, k2, k3, k5, e1, e3, show (grC c d b).pos = 2000 + i from hp]
  have hi2 : inn d 0 400 = (d == 0 || inn d 1 400) := by
    rw [Bool.eq_iff_iff]; simp [inn]; omega
  rw [hi2]
  by_cases hd : d = 0
  · subst hd; rfl
  · rw [show (d == 0) = false by simpa using hd, show (d != 0) = true by simpa using hd]
    cases inn d 1 400 <;> cases (b != c.wi.b) <;> rfl
/-- TypingActs -/
theorem eAc_zero {a : Ac} (h : eAc a = 0) : (a.unit != -1 && !(psv a.lot)) = false ∧ (a.role == -1 && (a.kind != 1 || a.unit != -1)) = false := by
  have := fst1_zero h (by simp)
  exact ⟨this (2, a.unit != -1 && !(psv a.lot)) (by simp), this (10, a.role == -1 && (a.kind != 1 || a.unit != -1)) (by simp)⟩
def mvA (a : As) : As := { a with a := { a.a with unit := 0, lot := (1, 1) } }
theorem setA_byN {s : Sy} {i : Nat} {a : As} (ha : s.ac[i]? = some a) (j : Int) : byN (s.setA i (mvA a)) j = byN s j := by
  simp only [byN, Sy.setA]
  by_cases e : i = j.toNat
  · subst e
    rw [List.getElem?_set_self (List.getElem?_eq_some_iff.1 ha).1, ha]
    rfl
  · rw [List.getElem?_set_ne e]
theorem acts_law {s : Sy} (h : chk s = []) {i : Nat} {a : As} (ha : s.plc.ac[i]? = some a) (hr : a.a.role = -1) (hu : 0 < s.un.length) : chk (s.plc.setA i (mvA a)) = [((10 : Int), 1000 + (i : Int))] := by
  have h0 := pl_nil h
  obtain ⟨h1, h2, h3, h4, h5⟩ := chk_nil.1 h0
  have hw := h1
  simp only [wfS, Bool.and_eq_true, List.all_eq_true] at h1
  have hf := h1.1.2 a (List.mem_of_getElem? ha)
  have he := eAc_zero (h4 i a ha)
  have hi := (List.getElem?_eq_some_iff.1 ha).1
  rw [hr] at he
  have hk : a.a.kind = 1 := by have := he.2; simp at this; exact this.1
  have hf' : fmA s.plc.sz (mvA a).a = true := by
    simp only [fmA, hr, hk] at hf
    simp only [fmA, mvA, hr, hk]
    simp at hf ⊢
    refine ⟨⟨hf.1.1, hf.1.2⟩, ?_⟩
    simp [isIx, Sy.sz, Sy.plc, hu]
  have hz : (s.plc.setA i (mvA a)).sz = s.plc.sz := by simp [Sy.sz, Sy.setA]
  have hw' : wfS (s.plc.setA i (mvA a)) = true := by
    have h := hw
    simp only [wfS, Bool.and_eq_true] at h ⊢
    rw [hz]
    have hs : smallT (s.plc.setA i (mvA a)) = smallT s.plc := by unfold smallT; rw [show (s.plc.setA i (mvA a)).ac.length = s.plc.ac.length from List.length_set ..]; rfl
    rw [hs]
    exact ⟨⟨h.1.1, all_set h.1.2 i hf'⟩, h.2⟩
  rw [chk_wf hw']
  have g0 : eBeg (s.plc.setA i (mvA a)) = 0 := h2
  have g1 : gx (eUn (s.plc.setA i (mvA a))) (fun _ => -1) 0 (s.plc.setA i (mvA a)).un = [] := gx_nil.2 fun j x hx => by rw [Nat.zero_add]; exact h3 j x hx
  have g3 : gx (eCl (s.plc.setA i (mvA a))) (·.pos) 0 (s.plc.setA i (mvA a)).cl = [] := gx_nil.2 fun j x hx => by
    rw [Nat.zero_add]
    have e : eCl (s.plc.setA i (mvA a)) j x = eCl s.plc j x := by
      simp only [eCl, badKi, setA_byN ha]; rfl
    rw [e]; exact h5 j x hx
  have g2 : gx (fun _ (x : As) => eAc x.a) (·.pos) 0 (s.plc.setA i (mvA a)).ac = flt (eAc (mvA a).a) (mvA a).pos := by
    have := gx_one (e := fun _ (x : As) => eAc x.a) (p := (·.pos)) (l := (s.plc.setA i (mvA a)).ac) (k := 0) (i := i) (a := mvA a) (by simp [Sy.setA, hi]) fun j b hj hb => by
      rcases set_get hb with ⟨rfl, _⟩ | ⟨_, hb⟩
      · exact absurd rfl hj
      · exact h4 j b hb
    exact this
  rw [g0, g1, g2, g3]
  have e1 : eAc (mvA a).a = 10 := by
    have : psv (1, 1) = true := by decide
    simp [eAc, mvA, hr, hk, fst1, this]
  rw [e1, show (mvA a).pos = a.pos from rfl, (plA_pos ha).1]
  rfl
theorem acts_facts {s : Sy} (h : chk s = []) : (∀ a ∈ s.ac, a.a.role = -1 → a.a.kind = 1 ∧ a.a.unit = -1) ∧
    (∀ c ∈ s.cl, (∃ a, s.ac[c.c.act.toNat]? = some a ∧ 0 ≤ c.c.act ∧ c.c.act < s.ac.length ∧ (c.c.kind ≠ 4 → a.a.role ≠ -1)) ∧ (c.c.pause ≠ -1 → c.c.pause ≠ c.c.resume ∧ (0 ≤ c.c.pause ∧ c.c.pause < s.ac.length ∧ 0 ≤ c.c.resume ∧ c.c.resume < s.ac.length) ∧ ∃ a b, s.ac[c.c.pause.toNat]? = some a ∧ s.ac[c.c.resume.toNat]? = some b ∧ a.a.role = -1 ∧ b.a.role = -1)) := by
  obtain ⟨h1, h2, h3, h4, h5⟩ := chk_nil.1 h
  have hA : ∀ a ∈ s.ac, a.a.role = -1 → a.a.kind = 1 ∧ a.a.unit = -1 := by
    intro a ha hr
    obtain ⟨i, hi⟩ := List.mem_iff_getElem?.1 ha
    have := (eAc_zero (h4 i a hi)).2
    rw [hr] at this
    simpa using this
  refine ⟨hA, fun c hc => ?_⟩
  obtain ⟨i, hi⟩ := List.mem_iff_getElem?.1 hc
  obtain ⟨k1, k2, k3, k4, k5⟩ := eCl_zero (h5 i c hi)
  simp only [wfS, Bool.and_eq_true, List.all_eq_true] at h1
  have hf := (h1.2 c hc).1
  simp only [fmC, Bool.and_eq_true] at hf
  have hm : ∀ {j : Int}, isIx j s.sz.ac = true → ∃ a, s.ac[j.toNat]? = some a ∧ 0 ≤ j ∧ j < s.ac.length := by
    intro j hj
    simp only [isIx, Bool.and_eq_true] at hj
    have h1 : 0 ≤ j := of_decide_eq_true hj.1
    have h2 : j < (s.ac.length : Int) := of_decide_eq_true hj.2
    exact ⟨_, List.getElem?_eq_getElem (by omega), h1, h2⟩
  simp only [badKi, Bool.or_eq_false_iff] at k4
  constructor
  · obtain ⟨a, ha, hb⟩ := hm (by have := hf.1; simp only [fm1, Bool.and_eq_true] at this; exact this.2)
    refine ⟨a, ha, hb.1, hb.2, fun hk hr => ?_⟩
    have h6 := k4.1.2
    rw [show (c.c.kind != 4) = true by simpa using hk, Bool.true_and] at h6
    simp only [byN, ha] at h6
    rw [(hA a (List.mem_of_getElem? ha) hr).1, hr] at h6
    simp at h6
  · intro hp
    have h6 := k4.2
    rw [show (c.c.pause != -1) = true by simpa using hp, Bool.true_and] at h6
    simp only [Bool.or_eq_false_iff, Bool.not_eq_false', beq_eq_false_iff_ne] at h6
    have h7 := hf.2.2.2.1
    simp only [fm4, show (c.c.pause == -1) = false by simpa using hp, Bool.false_and, Bool.false_or, Bool.and_eq_true] at h7
    obtain ⟨a, ha, ha2⟩ := hm h7.1
    obtain ⟨b, hb, hb2⟩ := hm h7.2
    refine ⟨h6.2, ⟨ha2.1, ha2.2, hb2.1, hb2.2⟩, a, b, ha, hb, ?_, ?_⟩
    · have := h6.1.1; simp only [byN, ha] at this; simp at this; exact this.2
    · have := h6.1.2; simp only [byN, hb] at this; simp at this; exact this.2
/-- TypingNames -/
def Sy.nam (s : Sy) (t : ByteArray) : Sy := { s with nm := t, par := s.par.map fun _ => t, ro := s.ro.map fun r => { r with nm := t }, ac := s.ac.map fun a => { a with nm := t }, cl := s.cl.map fun c => { c with nm := t } }
theorem nam_byN (s : Sy) (t : ByteArray) (i : Int) : byN (s.nam t) i = byN s i := by
  simp only [byN, Sy.nam, List.getElem?_map]
  cases s.ac[i.toNat]? <;> rfl
theorem names_law (s : Sy) (t : ByteArray) : chk (s.nam t) = chk s := by
  have hz : (s.nam t).sz = s.sz := by simp [Sy.sz, Sy.nam]
  have hw : wfS (s.nam t) = wfS s := by
    simp only [wfS, hz]
    have hs : smallT (s.nam t) = smallT s := by unfold smallT; rw [show (s.nam t).par.length = s.par.length from List.length_map .., show (s.nam t).ro.length = s.ro.length from List.length_map .., show (s.nam t).ac.length = s.ac.length from List.length_map .., show (s.nam t).cl.length = s.cl.length from List.length_map ..]; rfl
    rw [hs]
    simp only [Sy.nam, List.all_map, List.length_map]
    rfl
  cases h : wfS s with
  | false => rw [chk_no h, chk_no (hw.trans h)]
  | true =>
    rw [chk_wf h, chk_wf (hw.trans h)]
    have e1 : eBeg (s.nam t) = eBeg s := by
      simp only [eBeg]
      rw [show badBg (s.nam t) = badBg s from rfl]
      simp [Sy.nam]
    have e2 : gx (eUn (s.nam t)) (fun _ => -1) 0 (s.nam t).un = gx (eUn s) (fun _ => -1) 0 s.un := rfl
    have e3 : gx (fun _ (a : As) => eAc a.a) (·.pos) 0 (s.nam t).ac = gx (fun _ (a : As) => eAc a.a) (·.pos) 0 s.ac :=
      gx_congr (by simp [Sy.nam]) fun i a b ha hb => by
        simp only [Sy.nam, List.getElem?_map, hb, Option.map_some, Option.some.injEq] at ha
        rw [← ha]
    have e4 : gx (eCl (s.nam t)) (·.pos) 0 (s.nam t).cl = gx (eCl s) (·.pos) 0 s.cl :=
      gx_congr (by simp [Sy.nam]) fun i a b ha hb => by
        simp only [Sy.nam, List.getElem?_map, hb, Option.map_some, Option.some.injEq] at ha
        rw [← ha]
        simp only [eCl, badKi, nam_byN]
        rfl
    rw [e1, e2, e3, e4]
end Go.Proofs.YtcfjehohemdanaaDoor
