/- Contracts of functions and plain laws, joined: Fa2, Mem, R01, Kb1. -/
import Derived.Test.YtemkghgcdpmlbaaDoorMb2
import Derived.WalkKit
import Derived.Below
import Derived.Laws.OwnMore
import Derived.Deep.Draws
import Derived.Test.YtemkghgcdpmlbaaDoorProg
import Derived.IntWalk
import Derived.BigQuiet
import Derived.Deep.QuietTactic
import Derived.Deep.RegionHeld3
import Derived.RegionTactic
import Derived.Outline
import Derived.Lib.Hide
/- The laws of files of evidence, in plain lists: what filing gives is valid and holds just one thing more; the order of filing does not count; parts of a valid file are valid. No program in sight. -/
namespace Go.Proofs.YtemkghgcdpmlbaaDoor

theorem hasRef_iff {l : List Fac} {r : Int} : hasRef l r = true ↔ ∃ x ∈ l, x.ref = r := by simp [hasRef]
theorem hasOrd_iff {l : List (Int × Int)} {b : Int × Int} : hasOrd l b = true ↔ b ∈ l := by simp [hasOrd]
theorem ordOk_iff {l : List Fac} {b : Int × Int} : ordOk l b = true ↔ hasRef l b.1 = true ∧ hasRef l b.2 = true ∧ b.1 ≠ b.2 := by simp [ordOk, and_assoc]
/-- a valid file -/
structure Fil.Good (c : Con) (f : Fil) : Prop where
  ck : c.ok = true
  h0 : 0 ≤ f.house
  h1 : f.house < c.par
  nf : f.facts.length ≤ 4000
  no : f.ords.length ≤ 4000
  fs : ∀ x ∈ f.facts, c.facOk x = true
  pf : f.facts.Pairwise (fun x y => ltF x y = true)
  os : ∀ b ∈ f.ords, ordOk f.facts b = true
  po : f.ords.Pairwise (fun x y => ltO x y = true)
theorem Fil.ok_iff {c : Con} {f : Fil} : f.ok c = true ↔ f.Good c := by
  unfold Fil.ok
  simp only [Bool.and_eq_true, decide_eq_true_eq, List.all_eq_true, incBy_pw ltF_trans, incBy_pw ltO_trans]
  constructor
  · rintro ⟨⟨⟨⟨⟨⟨⟨⟨a, b⟩, d⟩, e⟩, g⟩, h⟩, i⟩, j⟩, k⟩
    exact ⟨a, b, d, e, g, h, i, j, k⟩
  · rintro ⟨a, b, d, e, g, h, i, j, k⟩
    exact ⟨⟨⟨⟨⟨⟨⟨⟨a, b⟩, d⟩, e⟩, g⟩, h⟩, i⟩, j⟩, k⟩

theorem mem_insA {α : Type} {l : List α} {k : Nat} {x y : α} : y ∈ insA l k x ↔ y = x ∨ y ∈ l := by
  unfold insA
  have h := List.take_append_drop k l
  constructor
  · intro hy
    rcases List.mem_append.1 hy with hy | hy
    · rcases List.mem_append.1 hy with hy | hy
      · exact .inr (List.mem_of_mem_take hy)
      · exact .inl (by simpa using hy)
    · exact .inr (List.mem_of_mem_drop hy)
  · rintro (rfl | hy)
    · simp
    · rw [← h] at hy
      rcases List.mem_append.1 hy with hy | hy
      · simp [hy]
      · simp [hy]
theorem insA_len {α : Type} {l : List α} {k : Nat} {x : α} : (insA l k x).length = l.length + 1 := by
  have h := congrArg List.length (List.take_append_drop k l)
  unfold insA
  simp only [List.length_append, List.length_cons, List.length_nil] at h ⊢
  omega
theorem tw_take {α : Type} (p : α → Bool) : ∀ (l : List α), l.take (l.takeWhile p).length = l.takeWhile p ∧ l.drop (l.takeWhile p).length = l.dropWhile p
  | [] => by simp
  | a :: l => by
    by_cases h : p a = true
    · obtain ⟨h1, h2⟩ := tw_take p l
      simp [h, h1, h2]
    · simp [h]
theorem tw_all {α : Type} {p : α → Bool} : ∀ {l : List α}, ∀ x ∈ l.takeWhile p, p x = true
  | [], x, h => by simp at h
  | a :: l, x, h => by
    by_cases ha : p a = true
    · rw [List.takeWhile_cons, if_pos ha] at h
      rcases List.mem_cons.1 h with rfl | h
      · exact ha
      · exact tw_all x h
    · rw [List.takeWhile_cons, if_neg ha] at h; cases h
/-- in an increasing list, behind the place of x nothing comes before x -/
theorem dw_all {α : Type} {lt : α → α → Bool} {p : α → Bool} (hp : ∀ x y, lt x y = true → p y = true → p x = true) : ∀ {l : List α}, l.Pairwise (fun x y => lt x y = true) → ∀ x ∈ l.dropWhile p, p x = false
  | [], _, x, h => by simp at h
  | a :: l, hw, x, h => by
    rw [List.pairwise_cons] at hw
    by_cases ha : p a = true
    · rw [List.dropWhile_cons, if_pos ha] at h
      exact dw_all hp hw.2 x h
    · rw [List.dropWhile_cons, if_neg ha] at h
      cases hx : p x with
      | false => rfl
      | true =>
        rcases List.mem_cons.1 h with rfl | h
        · exact absurd hx ha
        · exact absurd (hp _ _ (hw.1 x h) hx) ha
/-- insertion at the place of x keeps a list increasing, if x is not there -/
theorem ins_pw {α : Type} {lt : α → α → Bool} {l : List α} {x : α} (ht : ∀ x y z, lt x y = true → lt y z = true → lt x z = true) (hw : l.Pairwise (fun x y => lt x y = true)) (hn : ∀ y ∈ l, lt y x = false → lt x y = true) :
    (insA l (l.takeWhile fun y => lt y x).length x).Pairwise (fun x y => lt x y = true) := by
  obtain ⟨e1, e2⟩ := tw_take (fun y => lt y x) l
  unfold insA
  rw [e1, e2]
  have hl : l.takeWhile (fun y => lt y x) ++ l.dropWhile (fun y => lt y x) = l := List.takeWhile_append_dropWhile
  have hw2 := hw
  rw [← hl, List.pairwise_append] at hw2
  obtain ⟨p1, p2, p3⟩ := hw2
  have hm : ∀ y ∈ l.dropWhile (fun y => lt y x), lt x y = true := fun y hy => hn y (by rw [← hl]; exact List.mem_append_right _ hy) (dw_all (fun a b h1 h2 => ht _ _ _ h1 h2) hw y hy)
  rw [List.append_assoc, List.pairwise_append]
  refine ⟨p1, ?_, fun a ha b hb => ?_⟩
  · rw [List.singleton_append, List.pairwise_cons]
    exact ⟨hm, p2⟩
  · rw [List.singleton_append] at hb
    rcases List.mem_cons.1 hb with rfl | hb
    · exact tw_all a ha
    · exact p3 a ha b hb
theorem lbF_eq (l : List Fac) (x : Fac) : lbF l x.ref = (l.takeWhile fun y => ltF y x).length := rfl
theorem ltF_no {l : List Fac} {x : Fac} (h : hasRef l x.ref = false) : ∀ y ∈ l, ltF y x = false → ltF x y = true := fun y hy h1 => by
  have : y.ref ≠ x.ref := fun e => by rw [hasRef_iff.2 ⟨y, hy, e⟩] at h; cases h
  unfold ltF at h1 ⊢
  simp at h1 ⊢
  omega
theorem ltO_no {l : List (Int × Int)} {b : Int × Int} (h : hasOrd l b = false) : ∀ y ∈ l, ltO y b = false → ltO b y = true := fun y hy h1 => by
  cases h2 : ltO b y with
  | true => rfl
  | false =>
    have := ltO_tri h1 h2
    subst this
    rw [hasOrd_iff.2 hy] at h; cases h
theorem hasRef_more {l m : List Fac} (h : ∀ x ∈ l, x ∈ m) {r : Int} (hr : hasRef l r = true) : hasRef m r = true := by
  rw [hasRef_iff] at *
  obtain ⟨x, hx, e⟩ := hr
  exact ⟨x, h x hx, e⟩

theorem put_iff {c : Con} {f : Fil} {x : Fac} : f.putE c x = 0 ↔ f.Good c ∧ c.facOk x = true ∧ hasRef f.facts x.ref = false ∧ f.facts.length < 4000 := by
  unfold Fil.putE
  rw [← Fil.ok_iff]
  cases f.ok c <;> cases c.facOk x <;> cases hasRef f.facts x.ref <;> simp <;> (try split) <;> simp <;> omega
theorem put_good {c : Con} {f : Fil} {x : Fac} (h : f.putE c x = 0) : (f.put x).Good c := by
  obtain ⟨g, hx, hn, hl⟩ := put_iff.1 h
  refine ⟨g.ck, g.h0, g.h1, by show (insA _ _ _).length ≤ _; rw [insA_len]; omega, g.no, fun y hy => ?_, ?_, fun b hb => ?_, g.po⟩
  · rcases mem_insA.1 hy with rfl | hy
    · exact hx
    · exact g.fs y hy
  · show (insA f.facts (lbF f.facts x.ref) x).Pairwise _
    rw [lbF_eq]
    exact ins_pw ltF_trans g.pf (ltF_no hn)
  · have hm : ∀ y ∈ f.facts, y ∈ (f.put x).facts := fun y hy => mem_insA.2 (.inr hy)
    have := ordOk_iff.1 (g.os b hb)
    exact ordOk_iff.2 ⟨hasRef_more hm this.1, hasRef_more hm this.2.1, this.2.2⟩
theorem put_again {c : Con} {f : Fil} {x : Fac} (h : f.putE c x = 0) : (f.put x).putE c x = 9 := by
  obtain ⟨g, hx, hn, hl⟩ := put_iff.1 h
  have h1 := Fil.ok_iff.2 (put_good h)
  have h2 : hasRef (f.put x).facts x.ref = true := hasRef_iff.2 ⟨x, mem_insA.2 (.inl rfl), rfl⟩
  unfold Fil.putE
  rw [h1, hx, h2]; rfl
theorem ord_iff {c : Con} {f : Fil} {b : Int × Int} : f.ordE c b = 0 ↔ f.Good c ∧ ordOk f.facts b = true ∧ hasOrd f.ords b = false ∧ f.ords.length < 4000 := by
  unfold Fil.ordE ordOk
  rw [← Fil.ok_iff]
  cases f.ok c <;> cases (b.1 == b.2) <;> cases hasRef f.facts b.1 <;> cases hasRef f.facts b.2 <;> cases hasOrd f.ords b <;> simp <;> (try split) <;> simp <;> omega
theorem ord_good {c : Con} {f : Fil} {b : Int × Int} (h : f.ordE c b = 0) : (f.ord b).Good c := by
  obtain ⟨g, hb, hn, hl⟩ := ord_iff.1 h
  refine ⟨g.ck, g.h0, g.h1, g.nf, by show (insA _ _ _).length ≤ _; rw [insA_len]; omega, g.fs, g.pf, fun y hy => ?_, ?_⟩
  · rcases mem_insA.1 hy with rfl | hy
    · exact hb
    · exact g.os y hy
  · exact ins_pw ltO_trans g.po (ltO_no hn)
theorem ord_again {c : Con} {f : Fil} {b : Int × Int} (h : f.ordE c b = 0) : (f.ord b).ordE c b = 9 := by
  obtain ⟨g, hb, hn, hl⟩ := ord_iff.1 h
  have h1 := Fil.ok_iff.2 (ord_good h)
  have h2 : hasOrd (f.ord b).ords b = true := hasOrd_iff.2 (mem_insA.2 (.inl rfl))
  have h3 := ordOk_iff.1 hb
  have h4 : (b.1 == b.2) = false := by simp [h3.2.2]
  have h5 : hasRef (f.ord b).facts b.1 = true := h3.1
  have h6 : hasRef (f.ord b).facts b.2 = true := h3.2.1
  unfold Fil.ordE
  rw [h1, h2, h4, h5, h6]; rfl
theorem has_iff {f g : Fil} : f.has g = true ↔ (∀ x ∈ g.facts, x ∈ f.facts) ∧ (∀ b ∈ g.ords, b ∈ f.ords) ∧ f.house = g.house := by simp [Fil.has, and_assoc]
/-- FileGrows -/
theorem grows_put {c : Con} {f : Fil} {x : Fac} (h : f.putE c x = 0) : (f.put x).ok c = true ∧ (f.put x).has f = true ∧ x ∈ (f.put x).facts ∧ (f.put x).facts.length = f.facts.length + 1 ∧ (f.put x).ords.length = f.ords.length ∧ (f.put x).putE c x = 9 :=
  ⟨Fil.ok_iff.2 (put_good h), has_iff.2 ⟨fun _ hy => mem_insA.2 (.inr hy), fun _ hy => hy, rfl⟩, mem_insA.2 (.inl rfl), insA_len, rfl, put_again h⟩
theorem grows_ord {c : Con} {f : Fil} {b : Int × Int} (h : f.ordE c b = 0) : (f.ord b).ok c = true ∧ (f.ord b).has f = true ∧ b ∈ (f.ord b).ords ∧ (f.ord b).facts.length = f.facts.length ∧ (f.ord b).ords.length = f.ords.length + 1 ∧ (f.ord b).ordE c b = 9 :=
  ⟨Fil.ok_iff.2 (ord_good h), has_iff.2 ⟨fun _ hy => hy, fun _ hy => mem_insA.2 (.inr hy), rfl⟩, mem_insA.2 (.inl rfl), rfl, insA_len, ord_again h⟩
theorem bad_file {c : Con} {f : Fil} (h : f.ok c = false) (x : Fac) (b : Int × Int) : f.putE c x = 1 ∧ f.ordE c b = 1 := by unfold Fil.putE Fil.ordE; rw [h]; exact ⟨rfl, rfl⟩

/-- one fact after the other -/
def Fil.puts (c : Con) : Fil → List Fac → Option Fil
  | f, [] => some f
  | f, x :: l => if f.putE c x = 0 then (f.put x).puts c l else none
theorem puts_snoc {c : Con} : ∀ {l : List Fac} {f : Fil} {x : Fac}, f.puts c (l ++ [x]) = (f.puts c l).bind fun g => if g.putE c x = 0 then some (g.put x) else none
  | [], f, x => by simp [Fil.puts]
  | y :: l, f, x => by
    simp only [List.cons_append, Fil.puts]
    split
    · exact puts_snoc
    · rfl
theorem puts_facts {c : Con} : ∀ {l : List Fac} {f g : Fil}, f.puts c l = some g → (∀ x, x ∈ g.facts ↔ x ∈ f.facts ∨ x ∈ l) ∧ g.facts.length = f.facts.length + l.length ∧ g.ords = f.ords ∧ g.house = f.house ∧ (l ≠ [] → g.Good c)
  | [], f, g, h => by
    simp only [Fil.puts, Option.some.injEq] at h
    subst h
    simp
  | y :: l, f, g, h => by
    simp only [Fil.puts] at h
    split at h
    case isFalse => cases h
    case isTrue he =>
    obtain ⟨h1, h2, h3, h4, h5⟩ := puts_facts h
    refine ⟨fun x => ?_, ?_, h3, h4, fun _ => ?_⟩
    · rw [h1 x, show (f.put y).facts = insA f.facts (lbF f.facts y.ref) y from rfl, mem_insA, List.mem_cons]
      constructor
      · rintro ((h | h) | h) <;> simp [h]
      · rintro (h | h | h) <;> simp [h]
    · rw [h2, show (f.put y).facts.length = f.facts.length + 1 from insA_len, List.length_cons]; omega
    · cases l with
      | nil => simp only [Fil.puts, Option.some.injEq] at h; subst h; exact put_good he
      | cons z l => exact h5 (by simp)
/-- FileAnyOrder -/
theorem puts_rev {c : Con} {f a b : Fil} {l : List Fac} (hl : l ≠ []) (h1 : f.puts c l = some a) (h2 : f.puts c l.reverse = some b) : a = b := by
  obtain ⟨m1, _, o1, e1, g1⟩ := puts_facts h1
  obtain ⟨m2, _, o2, e2, g2⟩ := puts_facts h2
  have e : a.facts = b.facts := pw_ext ltF_irr ltF_trans (g1 hl).pf (g2 (by simpa using hl)).pf fun x => by rw [m1, m2, List.mem_reverse]
  cases a; cases b
  simp only [Fil.mk.injEq]
  exact ⟨e1.trans e2.symm, e, o1.trans o2.symm⟩

theorem part_mem {f : Fil} {p : Fac → Bool} {x : Fac} : x ∈ (f.part p).facts ↔ x ∈ f.facts ∧ p x = true := by simp [Fil.part]
theorem part_good {c : Con} {f : Fil} (g : f.Good c) (p : Fac → Bool) : (f.part p).Good c := by
  refine ⟨g.ck, g.h0, g.h1, Nat.le_trans (List.length_filter_le _ _) g.nf, Nat.le_trans (List.length_filter_le _ _) g.no, fun x hx => g.fs x (part_mem.1 hx).1, g.pf.filter _, fun b hb => ?_, g.po.filter _⟩
  have hb' := List.mem_filter.1 hb
  have hh := hb'.2
  rw [Bool.and_eq_true] at hh
  exact ordOk_iff.2 ⟨hh.1, hh.2, (ordOk_iff.1 (g.os b hb'.1)).2.2⟩
theorem part_has (f : Fil) (p : Fac → Bool) : f.has (f.part p) = true :=
  has_iff.2 ⟨fun _x hx => (part_mem.1 hx).1, fun _b hb => (List.mem_filter.1 hb).1, rfl⟩
theorem filter_mono {α : Type} {p q : α → Bool} (h : ∀ x, p x = true → q x = true) (l : List α) : (l.filter q).filter p = l.filter p := by
  rw [List.filter_filter]
  congr 1
  funext x
  cases hp : p x with
  | false => simp
  | true => simp [h x hp]
/-- a part of a part -/
theorem part_part (f : Fil) (p q : Fac → Bool) : (f.part q).part p = f.part fun x => p x && q x := by
  unfold Fil.part
  simp only [List.filter_filter, Fil.mk.injEq, true_and]
  congr 1
  funext b
  have hm : ∀ x ∈ f.facts.filter (fun x => p x && q x), x ∈ f.facts.filter q := fun x hx => by
    have := List.mem_filter.1 hx
    exact List.mem_filter.2 ⟨this.1, by have := this.2; simp at this; exact this.2⟩
  cases h1 : hasRef (f.facts.filter fun x => p x && q x) b.1 with
  | false => rfl
  | true =>
    cases h2 : hasRef (f.facts.filter fun x => p x && q x) b.2 with
    | false => simp
    | true => rw [hasRef_more hm h1, hasRef_more hm h2]; rfl
theorem part_comm (f : Fil) (p q : Fac → Bool) : (f.part q).part p = (f.part p).part q := by
  rw [part_part, part_part]
  congr 1
  funext x
  exact Bool.and_comm _ _
theorem part_self (f : Fil) (p : Fac → Bool) : (f.part p).part p = f.part p := by
  rw [part_part]
  congr 1
  funext x
  exact Bool.and_self _
/-- FileAsOf -/
theorem asOf_min (f : Fil) (a b : Int) : (f.asOf b).asOf a = f.asOf (min a b) := by
  unfold Fil.asOf
  rw [part_part]
  congr 1
  funext x
  rw [Bool.eq_iff_iff]
  simp
  omega
theorem asOf_mono (f : Fil) {a b : Int} (h : a ≤ b) : (f.asOf b).has (f.asOf a) = true := by
  have e := asOf_min f a b
  rw [Int.min_eq_left h] at e
  rw [← e]
  exact part_has _ _
theorem asOf_all {c : Con} {f : Fil} (g : f.Good c) : f.asOf c.days = f := by
  have e : f.facts.filter (fun x => decide (x.filed ≤ c.days)) = f.facts := List.filter_eq_self.2 fun x hx => by
    have := g.fs x hx
    unfold Con.facOk at this
    simp only [Bool.and_eq_true] at this
    exact this.2
  unfold Fil.asOf Fil.part
  rw [e]
  have e2 : f.ords.filter (fun b => hasRef f.facts b.1 && hasRef f.facts b.2) = f.ords := List.filter_eq_self.2 fun b hb => by
    have := ordOk_iff.1 (g.os b hb)
    simp [this.1, this.2.1]
  rw [e2]
theorem open_open (f : Fil) : f.open_.open_ = f.open_ := part_self f _
theorem open_asOf (f : Fil) (d : Int) : (f.asOf d).open_ = f.open_.asOf d := part_comm f _ _
theorem part_count (f : Fil) (p : Fac → Bool) : (f.part p).facts.length = f.facts.countP p := List.countP_eq_length_filter.symm
end Go.Proofs.YtemkghgcdpmlbaaDoor
/- Words for memory: a slice that reads as a list of elements, each of a fixed number of cells; kept over what calls do. -/
namespace Go.Proofs.YtemkghgcdpmlbaaDoor
open Go.RowKit

/-- A slice value whose address is A reads, in the world w, below block number B, as the list xs of elements of 'size' cells each (enc: the cells of an element). -/
def Seg {α : Type} (w : World) (B : Nat) (size : Nat) (enc : α → List Value) (A : Option Addr) (xs : List α) : Prop :=
  ∀ k x, xs[k]? = some x → ∃ b off, A = some ⟨b, off, none⟩ ∧ b < B ∧ ∀ j u, (enc x)[j]? = some u → w.cell? ⟨b, off + k * size + j, none⟩ = some u

section
variable {α : Type} {w w' : World} {B B' size : Nat} {enc : α → List Value} {A : Option Addr} {xs : List α}
theorem Seg.nil (w : World) (B size : Nat) (enc : α → List Value) (A : Option Addr) : Seg w B size enc A [] := fun k x h => by simp at h
theorem Seg.some_ (h : Seg w B size enc A xs) (hk : 0 < xs.length) : ∃ b off, A = some ⟨b, off, none⟩ ∧ b < B := by
  obtain ⟨b, off, e, hb, _⟩ := h 0 _ (List.getElem?_eq_getElem hk)
  exact ⟨b, off, e, hb⟩
theorem Seg.keep (h : Seg w B size enc A xs) (hk : ∀ b o, b < B → w'.cell? ⟨b, o, none⟩ = w.cell? ⟨b, o, none⟩) : Seg w' B size enc A xs := fun k x hx => by
  obtain ⟨b, off, e, hb, hc⟩ := h k x hx
  exact ⟨b, off, e, hb, fun j u hu => (hk _ _ hb).trans (hc j u hu)⟩
theorem Seg.more (h : Seg w B size enc A xs) (hB : B ≤ B') : Seg w B' size enc A xs := fun k x hx => by
  obtain ⟨b, off, e, hb, hc⟩ := h k x hx
  exact ⟨b, off, e, by omega, hc⟩
theorem Seg.below (h : Seg w B size enc A xs) (hb : Below B w w') : Seg w' B size enc A xs := h.keep fun b o hp => hb.cell (p := ⟨b, o, none⟩) hp
end

theorem below_drewN {B : Nat} {a w : World} (h : Below B a w) (n : Nat) : Below B a (w.drewN n) := ⟨h.os, h.tape, h.output, h.size, h.block⟩
theorem below_then {w a b : World} (h : Below w.heap.size w a) (k : Below a.heap.size a b) : Below w.heap.size w b := h.trans (k.mono h.size)
theorem below_alloc {w a : World} (h : Below w.heap.size w a) (o : Obj) : Below w.heap.size w (a.alloc o) := h.alloc h.size o
theorem bcell {W w1 : World} (hb : Below W.heap.size W w1) : (∀ b o, b < W.heap.size → w1.cell? ⟨b, o, none⟩ = W.cell? ⟨b, o, none⟩) ∧ (∀ b o, b < W.heap.size → w1.frozen? ⟨b, o, none⟩ = W.frozen? ⟨b, o, none⟩) :=
  ⟨fun b o h => hb.cell (p := ⟨b, o, none⟩) h, fun b o h => hb.frozen (p := ⟨b, o, none⟩) h⟩

/-- A block known whole: none of its cells is frozen. -/
def Blk (w : World) (g : Nat) (t : TypeId) (cs : Array Value) : Prop := w.heap[g]? = some (.cells cs t (0, 0))
section
variable {w w' : World} {g : Nat} {t : TypeId} {cs : Array Value}
theorem Blk.lt (h : Blk w g t cs) : g < w.heap.size := by
  rcases Nat.lt_or_ge g w.heap.size with hlt | hge
  · exact hlt
  · unfold Blk at h; rw [Array.getElem?_eq_none hge] at h; cases h
theorem Blk.cell (h : Blk w g t cs) (i : Nat) : w.cell? ⟨g, i, none⟩ = cs[i]? := cell_of_row w g i cs t (0, 0) h
theorem Blk.frozen (h : Blk w g t cs) (i : Nat) : w.frozen? ⟨g, i, none⟩ = false := by
  unfold Blk at h
  simp [World.frozen?, h]
theorem Blk.new (w : World) (t : TypeId) (cs : Array Value) : Blk (w.alloc (.cells cs t)) w.heap.size t cs := heap_alloc_new w _
theorem Blk.drew (h : Blk w g t cs) : Blk w.drew g t cs := h
theorem Blk.drewN (h : Blk w g t cs) (n : Nat) : Blk (w.drewN n) g t cs := h
theorem Blk.alloc (h : Blk w g t cs) (o : Obj) : Blk (w.alloc o) g t cs := (Below.heap_alloc w o g h.lt).trans h
theorem Blk.set_ (h : Blk w g t cs) (i : Nat) (u : Value) : Blk (w.setCell ⟨g, i, none⟩ u) g t (cs.setIfInBounds i u) := by
  unfold Blk at h ⊢
  simp [World.setCell, Array.getElem?_modify, h]
theorem Blk.far (h : Blk w g t cs) {p : Addr} (hp : g ≠ p.block) (u : Value) : Blk (w.setCell p u) g t cs := (Below.heap_setCell w p u g hp).trans h
theorem Blk.below {B : Nat} (h : Blk w g t cs) (hb : Below B w w') (hg : g < B) : Blk w' g t cs := (hb.block g hg).trans h
theorem Blk.then_ (h : Blk w g t cs) (hb : Below w.heap.size w w') : Blk w' g t cs := h.below hb h.lt
theorem Blk.grown {row : Option Nat} (h : Blk w g t cs) (hb : w.grownBy w' row) (hg : some g ≠ row) : Blk w' g t cs := (hb.block g h.lt hg).trans h
theorem Blk.setT0 {x y u : Value} (h : Blk w g t #[x, y]) : Blk (w.setCell ⟨g, 0, none⟩ u) g t #[u, y] := h.set_ 0 u
theorem Blk.setT1 {x y u : Value} (h : Blk w g t #[x, y]) : Blk (w.setCell ⟨g, 1, none⟩ u) g t #[x, u] := h.set_ 1 u
theorem Blk.two {x y : Value} (h : Blk w g t #[x, y]) : w.cell? ⟨g, 0, none⟩ = some x ∧ w.cell? ⟨g, 1, none⟩ = some y ∧ w.frozen? ⟨g, 0, none⟩ = false ∧ w.frozen? ⟨g, 1, none⟩ = false :=
  ⟨h.cell 0, h.cell 1, h.frozen 0, h.frozen 1⟩
theorem Blk.one {x : Value} (h : Blk w g t #[x]) : w.cell? ⟨g, 0, none⟩ = some x ∧ w.frozen? ⟨g, 0, none⟩ = false := ⟨h.cell 0, h.frozen 0⟩
end
theorem ret_int {k : IntKind} {a b : Int} (h : a = b) : Ending.returned (.int k a) = .returned (.int k b) := by rw [h]
theorem ret_bool {a b : Bool} (h : a = b) : Ending.returned (.bool a) = .returned (.bool b) := by rw [h]
theorem wa1 (w : World) (o : Obj) : Below w.heap.size w (w.alloc o) := (Below.refl _ _).alloc (Nat.le_refl _) o
end Go.Proofs.YtemkghgcdpmlbaaDoor
/- The contracts of the functions of package ratio and of its reference: magnitudes, divisors, validity, making, adding, subtracting, dividing, comparing. -/
namespace Go.Proofs.YtemkghgcdpmlbaaDoor
open Go.RowKit

/-- what a function hands back whose first result, a ratio, lies in a block of its own -/
theorem ret_rat {fn : Func} {a : Act} {w : World} {r t g : Nat} {x y : Value} (hres : fn.results = #[.cell r 60, .tmp t]) (hp : a.tmps.getD r undef = .pointer (some ⟨g, 0, none⟩)) (hk : Blk w g 60 #[x, y]) :
    (results fn a.tmps).run Tryd.prog w = .ok (.tuple #[.agg #[x, y], a.tmps.getD t undef]) w := by
  obtain ⟨e0, e1, _, _⟩ := hk.two
  rw [Array.getD_eq_getD_getElem?] at hp
  simp [results, hres, hp, go_sem, e0, e1]
theorem ret_rat1 {fn : Func} {a : Act} {w : World} {r g : Nat} {x y : Value} (hres : fn.results = #[.cell r 60]) (hp : a.tmps.getD r undef = .pointer (some ⟨g, 0, none⟩)) (hk : Blk w g 60 #[x, y]) :
    (results fn a.tmps).run Tryd.prog w = .ok (.agg #[x, y]) w := by
  obtain ⟨e0, e1, _, _⟩ := hk.two
  rw [Array.getD_eq_getD_getElem?] at hp
  simp [results, hres, hp, go_sem, e0, e1]

theorem wrap_sz (n : Int) (h : n < 0) (h1 : -9223372036854775808 ≤ n) : IntKind.u64.wrap (-IntKind.u64.wrap n) = -n := by
  simp only [IntKind.wrap, IntKind.bits, IntKind.signed]
  simp
  omega

theorem mag_any (n : Int) (w : World) (h1 : -9223372036854775808 ≤ n) (h2 : n ≤ 9223372036854775807) :
    Calls Tryd.prog 84 #[.int .i64 n] w fun e w' => e = .returned (.int .u64 (mag n)) ∧ w = w' := by
  by_cases h : n < 0
  · have hm := Lib.hid (mag_neg h)
    go_enter Tryd.func84, Tryd.ntmps84
    go_wp2
    go_ret
    exact ⟨ret_int (by rw [hm.out]; omega), rfl⟩
  · have hm := Lib.hid (mag_pos (Int.not_lt.1 h))
    go_enter Tryd.func84, Tryd.ntmps84
    go_wp2
    go_ret
    exact ⟨ret_int (by rw [hm.out]), rfl⟩

theorem dvs_any (b : Nat) (x y : Int) (w : World) (hx : 0 ≤ x) (hy : 0 ≤ y) (hx' : x < 18446744073709551616) (hy' : y < 18446744073709551616)
    (c0 : w.cell? ⟨b, 0, none⟩ = some (.int .u64 x)) (c1 : w.cell? ⟨b, 1, none⟩ = some (.int .u64 y)) :
    Calls Tryd.prog 83 #[.slice (some ⟨b, 0, none⟩) 2 2] w fun e w' => e = .returned (.int .u64 (Int.gcd x y)) ∧ ∃ n, w' = w.drewN n := by
  have C := Lib.hid (And.intro c0 c1)
  clear c0 c1
  go_enter Tryd.func83, Tryd.ntmps83
  go_wp2
  go_loopw [3, 8] (fun u i wr => ∃ (g : Int) (k : Nat), k ≤ 2 ∧ 0 ≤ g ∧ g < 18446744073709551616 ∧ i = .int .i64 k ∧ u = .int .u64 g ∧ Hid (g = if k = 0 then 0 else if k = 1 then x else Int.gcd x y) ∧ ∃ n, wr = w.drewN n) (fun _ i _ => (2 - intOf i).toNat)
  case atStart => exact ⟨0, 0, by omega, by omega, by omega, rfl, rfl, rfl, 0, rfl⟩
  case round =>
    obtain ⟨g, k, hk, hg, hg', rfl, rfl, hG, n, rfl⟩ := hrel
    by_cases h0 : k < 2
    · have hz : ∃ z : Int, 0 ≤ z ∧ z < 18446744073709551616 ∧ w.cell? ⟨b, k, none⟩ = some (.int .u64 z) ∧ Hid ((Int.gcd g z : Int) = if k = 0 then x else Int.gcd x y) := by
        have hG := hG.out
        match k, h0 with
        | 0, _ => simp at hG; subst hG; exact ⟨x, hx, hx', C.out.1, by simp [Hid]; omega⟩
        | 1, _ => simp at hG; subst hG; exact ⟨y, hy, hy', C.out.2, by simp [Hid]⟩
      obtain ⟨z, hz, hz', cz, hgz⟩ := hz
      go_wp2
      go_loopw [3, 5] (fun u v wr => ∃ x y : Int, 0 ≤ x ∧ 0 ≤ y ∧ x < 18446744073709551616 ∧ y < 18446744073709551616 ∧ Hid (Int.gcd x y = Int.gcd g z) ∧ u = .int .u64 x ∧ v = .int .u64 y ∧ ∃ n, wr = w.drewN n) (fun _ v _ => (intOf v).toNat)
      case atStart => exact ⟨g, z, by omega, by omega, by omega, by omega, rfl, rfl, rfl, n, rfl⟩
      case round =>
        obtain ⟨g1, z1, hg1, hz1, hg1', hz1', hG1, rfl, rfl, n1, rfl⟩ := hrel
        by_cases h1 : 0 < z1
        · have hq := Int.emod_nonneg g1 (show z1 ≠ 0 by omega)
          have hq2 := Int.emod_lt_of_pos g1 h1
          go_wp2
          go_quiet (fail)
          go_wp2
          go_roundw
          case rel => exact ⟨z1, g1 % z1, by omega, by omega, by omega, by omega, (gcd_step g1 z1 hg1 hz1).trans hG1.out, rfl, rfl, _, World.drewN_drewN ..⟩
          case measure => simp [intOf]; omega
        · go_wp2
          go_roundw
          case rel =>
            obtain rfl : z1 = 0 := by omega
            have e1 := hG1.out
            rw [Int.gcd_zero_right] at e1
            refine ⟨g1, k + 1, by omega, by omega, by omega, by go_num, rfl, ?_, _, rfl⟩
            have e2 := hgz.out
            have e3 : g1 = Int.gcd g z := by omega
            rw [Hid, e3, e2]
            by_cases hk0 : k = 0
            · simp [hk0]
            · obtain rfl : k = 1 := by omega
              simp
          case measure => simp [intOf]; omega
    · go_wp2
      go_ret
      obtain rfl : k = 2 := by omega
      exact ⟨ret_int (by have := hG.out; simpa using this), _, rfl⟩

theorem gcd_bd (x y : Int) (hy : 0 < y) : 1 ≤ (Int.gcd x y : Int) ∧ (Int.gcd x y : Int) ≤ y := by
  have h1 := Int.gcd_pos_of_ne_zero_right x (show y ≠ 0 by omega)
  have h2 := Int.le_of_dvd hy (Int.gcd_dvd_right x y)
  omega


/-- ratio.Valid at every ratio -/
theorem valid_any (n d : Int) (w : World) (hn1 : -9223372036854775808 ≤ n) (hn2 : n ≤ 9223372036854775807) (hd1 : -9223372036854775808 ≤ d) (hd2 : d ≤ 9223372036854775807) :
    Calls Tryd.prog 73 #[.agg #[.int .i64 n, .int .i64 d]] w fun e w' => e = .returned (.bool (vld n d)) ∧ Below w.heap.size w w' := by
  by_cases hr : 1 ≤ d ∧ d ≤ 1000000 ∧ -1000000000000 ≤ n ∧ n ≤ 1000000000000
  · obtain ⟨h1, h2, h3, h4⟩ := hr
    have hv : vld n d = decide ((Int.gcd (mag n) (mag d) : Int) = 1) := by
      rw [gcd_mag]; simp only [vld, h1, h2, h3, h4, true_and]; congr 1; simp; omega
    have HV := Lib.hid hv
    clear hv
    have m1 := mag_bd (n := n) (by omega) (by omega)
    have m2 := mag_bd (n := d) (by omega) (by omega)
    go_enter Tryd.func73, Tryd.ntmps73
    go_wp2_with fail
    go_region_held3 (fun w' => w'.cell? ⟨w.heap.size, 0, none⟩ = some (.int .i64 n) ∧ w'.cell? ⟨w.heap.size, 1, none⟩ = some (.int .i64 d)) (go_keep) (first | (go_at_call 84; refine (mag_any _ _ (by omega) (by omega)).mono ?_; rintro e w' ⟨rfl, rfl⟩) | (go_at_call 83; refine (dvs_any _ (mag n) (mag d) _ (by omega) (by omega) (by omega) (by omega) (by simp [go_sem]) (by simp [go_sem])).mono ?_; rintro e w' ⟨rfl, nn, rfl⟩))
    all_goals go_wp2
    go_ret
    exact ⟨ret_bool (by rw [HV.out]; simp only [Bool.beq_eq_decide_eq]), below_drewN ((wa1 _ _).alloc (by simp) _) _⟩
  · have hv := Lib.hid (vld_no (n := n) (d := d) (fun h => hr ⟨h.1, h.2.1, h.2.2.1, h.2.2.2.1⟩))
    have hc : d < 1 ∨ (1 ≤ d ∧ 1000000 < d) ∨ (1 ≤ d ∧ d ≤ 1000000 ∧ n < -1000000000000) ∨ (1 ≤ d ∧ d ≤ 1000000 ∧ -1000000000000 ≤ n ∧ 1000000000000 < n) := by omega
    clear hr
    rcases hc with h | ⟨h, h'⟩ | ⟨h, h', h''⟩ | ⟨h, h', h'', h3⟩
    all_goals
      go_enter Tryd.func73, Tryd.ntmps73
      go_wp2
      go_ret
      exact ⟨ret_bool hv.out.symm, wa1 _ _⟩

end Go.Proofs.YtemkghgcdpmlbaaDoor
/- Contracts and patches in memory. -/
namespace Go.Proofs.YtemkghgcdpmlbaaDoor
open Go.RowKit

abbrev I64 (n : Int) : Prop := -9223372036854775808 ≤ n ∧ n ≤ 9223372036854775807
def eI (n : Int) : List Value := [.int .i64 n]
def eU (u : Uni) : List Value := [.string u.nm, .int .i64 u.kind, .int .i64 u.base, .int .i64 u.f.1, .int .i64 u.f.2]
def eA (a : Atc) : List Value := [.int .i64 a.kind, .int .i64 a.role, .int .i64 a.give, .int .i64 a.to_, .int .i64 a.unit, .int .i64 a.lot.1, .int .i64 a.lot.2]
def eS (x : Int × Int) : List Value := [.int .i64 x.1, .int .i64 x.2]
/-- a clause and where its conditions lie -/
structure Km where
  k : Cla
  A : Option Addr
  cap : Nat
def eK (x : Km) : List Value := [.int .i64 x.k.kind, .int .i64 x.k.role, .int .i64 x.k.act, .int .i64 x.k.need, .slice x.A x.k.start.length x.cap, .int .i64 x.k.aft, .int .i64 x.k.grace, .bool x.k.bus, .bool x.k.fin, .int .i64 x.k.pause, .int .i64 x.k.resume, .int .i64 x.k.v.1, .int .i64 x.k.v.2, .int .i64 x.k.unit, .int .i64 x.k.to_, .bool x.k.waived]
theorem eI_len (n : Int) : (eI n).length = 1 := rfl
theorem eU_len (u : Uni) : (eU u).length = 5 := rfl
theorem eA_len (a : Atc) : (eA a).length = 7 := rfl
theorem eS_len (x : Int × Int) : (eS x).length = 2 := rfl
theorem eK_len (x : Km) : (eK x).length = 16 := rfl
/-- where the lists of a contract lie -/
structure Cm where
  h : Option Addr
  hc : Nat
  u : Option Addr
  uc : Nat
  a : Option Addr
  ac : Nat
  k : Option Addr
  kc : Nat
  o : Option Addr
  oc : Nat
  ks : List Km
abbrev coA (c : Con) (m : Cm) : Array Value := #[.int .i64 c.par, .slice m.h c.hold.length m.hc, .slice m.u c.un.length m.uc, .slice m.a c.ac.length m.ac, .slice m.k c.cl.length m.kc, .int .i64 c.days, .slice m.o c.off.length m.oc]
/-- a clause fits: its conditions lie in memory -/
structure KOk (w : World) (x : Km) : Prop where
  s : Seg w w.heap.size 2 eS x.A x.k.start
  v : I64 x.k.v.1 ∧ I64 x.k.v.2
  n : x.k.start.length ≤ 1000000
  c : x.k.start.length ≤ x.cap
theorem KOk.then_ {w w' : World} {x : Km} (h : KOk w x) (hb : Below w.heap.size w w') : KOk w' x := ⟨(h.s.below hb).more hb.size, h.v, h.n, h.c⟩
structure Cont (w : World) (c : Con) (m : Cm) : Prop where
  h : Seg w w.heap.size 1 eI m.h c.hold
  u : Seg w w.heap.size 5 eU m.u c.un
  a : Seg w w.heap.size 7 eA m.a c.ac
  k : Seg w w.heap.size 16 eK m.k m.ks
  o : Seg w w.heap.size 1 eI m.o c.off
  e : m.ks.map (·.k) = c.cl
  t : ∀ x ∈ m.ks, KOk w x
  bu : ∀ x ∈ c.un, I64 x.f.1 ∧ I64 x.f.2
  ba : ∀ x ∈ c.ac, I64 x.lot.1 ∧ I64 x.lot.2
  nh : c.hold.length ≤ 1000000
  nu : c.un.length ≤ 1000000
  na : c.ac.length ≤ 1000000
  nk : c.cl.length ≤ 1000000
  no : c.off.length ≤ 1000000
  ch : c.hold.length ≤ m.hc
  cu : c.un.length ≤ m.uc
  ca : c.ac.length ≤ m.ac
  ck : c.cl.length ≤ m.kc
  co : c.off.length ≤ m.oc
theorem Cont.then_ {w w' : World} {c : Con} {m : Cm} (h : Cont w c m) (hb : Below w.heap.size w w') : Cont w' c m :=
  ⟨(h.h.below hb).more hb.size, (h.u.below hb).more hb.size, (h.a.below hb).more hb.size, (h.k.below hb).more hb.size, (h.o.below hb).more hb.size, h.e, fun x hx => (h.t x hx).then_ hb, h.bu, h.ba, h.nh, h.nu, h.na, h.nk, h.no, h.ch, h.cu, h.ca, h.ck, h.co⟩
/-- the cells of an element -/
theorem segAt {α : Type} {w : World} {B size : Nat} {enc : α → List Value} {A : Option Addr} {xs : List α} {k : Nat} {x : α} (h : Seg w B size enc A xs) (hx : xs[k]? = some x) :
    ∃ b off, A = some ⟨b, off, none⟩ ∧ b < B ∧ ∀ j v, (enc x)[j]? = some v → w.cell? ⟨b, off + k * size + j, none⟩ = some v := by
  obtain ⟨b, off, e, hb, hc⟩ := h k x hx
  exact ⟨b, off, e, hb, hc⟩
theorem km_at {c : Con} {m : Cm} (e : m.ks.map (·.k) = c.cl) {i : Nat} {k : Cla} (hk : c.cl[i]? = some k) : ∃ x, m.ks[i]? = some x ∧ x.k = k := by
  rw [← e, List.getElem?_map] at hk
  cases hx : m.ks[i]? with
  | none => rw [hx] at hk; cases hk
  | some x => rw [hx] at hk; exact ⟨x, rfl, Option.some.inj hk⟩
/-- a patch in memory -/
structure Pm where
  p : Option Addr
  pc : Nat
  A : Option Addr
  cap : Nat
abbrev paA (p : Pat) (m : Pm) : Array Value := (#[.int .i64 p.kind, .slice m.p p.cls.length m.pc] ++ (eK ⟨p.new, m.A, m.cap⟩).toArray) ++ #[.int .i64 p.days]
end Go.Proofs.YtemkghgcdpmlbaaDoor
