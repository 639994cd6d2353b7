/- What package cascade computes: portfolios, what a party has to pay for a set, the sets of the cascade. No program in sight. -/
import Derived.Test.YteoicnhnpailiaaNet
namespace Go.Proofs.Yteoicnhnpailiaa

structure Gu where
  x : Int
  b : Int
  t : Int
structure Tr where
  p : Int
  d : Int
structure Pf where
  n : Int
  as : List (Int × Int)
  du : List Db
  la : List Db
  gu : List Gu
  tr : List Tr
def okA (a : Int × Int) : Bool := vld a.1 a.2 && decide (0 ≤ a.1)
def okP (n x : Int) : Bool := decide (0 ≤ x ∧ x < n)
def okG (n : Int) (g : Gu) : Bool := decide ((0 ≤ g.x ∧ g.x < n) ∧ (0 ≤ g.b ∧ g.b < n) ∧ (0 ≤ g.t ∧ g.t < n) ∧ g.b ≠ g.x ∧ g.b ≠ g.t ∧ g.x ≠ g.t)
def okT (n : Int) (t : Tr) : Bool := decide ((0 ≤ t.p ∧ t.p < n) ∧ (0 ≤ t.d ∧ t.d < n) ∧ t.p ≠ t.d)
def vldP (p : Pf) : Bool := decide (1 ≤ p.n ∧ p.n ≤ 12 ∧ (p.as.length : Int) = p.n) && (decide (p.du.length ≤ 400 ∧ p.la.length ≤ 400 ∧ p.gu.length ≤ 400 ∧ p.tr.length ≤ 400) &&
  (p.as.all okA && (p.du.all (okD p.n) && (p.la.all (okD p.n) && (p.gu.all (okG p.n) && p.tr.all (okT p.n))))))
structure VP (p : Pf) : Prop where
  n1 : 1 ≤ p.n
  n12 : p.n ≤ 12
  len : (p.as.length : Int) = p.n
  ldu : p.du.length ≤ 400
  lla : p.la.length ≤ 400
  lgu : p.gu.length ≤ 400
  ltr : p.tr.length ≤ 400
  as : ∀ a ∈ p.as, vld a.1 a.2 = true ∧ 0 ≤ a.1
  du : ∀ d ∈ p.du, okD p.n d = true
  la : ∀ d ∈ p.la, okD p.n d = true
  gu : ∀ g ∈ p.gu, (0 ≤ g.x ∧ g.x < p.n) ∧ (0 ≤ g.b ∧ g.b < p.n) ∧ (0 ≤ g.t ∧ g.t < p.n) ∧ g.b ≠ g.x ∧ g.b ≠ g.t ∧ g.x ≠ g.t
  tr : ∀ t ∈ p.tr, (0 ≤ t.p ∧ t.p < p.n) ∧ (0 ≤ t.d ∧ t.d < p.n) ∧ t.p ≠ t.d
theorem vldP_of {p : Pf} (h : vldP p = true) : VP p := by
  simp only [vldP, Bool.and_eq_true, decide_eq_true_eq, List.all_eq_true] at h
  obtain ⟨⟨a1, a2, a3⟩, ⟨b1, b2, b3, b4⟩, c, d, e, f, g⟩ := h
  exact ⟨a1, a2, a3, b1, b2, b3, b4, fun a ha => by simpa [okA] using c a ha, d, e, fun x hx => by simpa [okG] using f x hx, fun x hx => by simpa [okT] using g x hx⟩
theorem vldP_mk {p : Pf} (h : VP p) : vldP p = true := by
  simp only [vldP, Bool.and_eq_true, decide_eq_true_eq, List.all_eq_true]
  exact ⟨⟨h.n1, h.n12, h.len⟩, ⟨h.ldu, h.lla, h.lgu, h.ltr⟩, fun a ha => by simpa [okA] using h.as a ha, h.du, h.la, fun x hx => by simpa [okG] using h.gu x hx, fun x hx => by simpa [okT] using h.tr x hx⟩

/-- a party is in a set -/
def has (S : List Bool) (i : Int) : Bool := S.getD i.toNat false
/-- the later debts of a party are due -/
def lat (p : Pf) (S : List Bool) (i : Int) : Bool := p.tr.any fun t => t.d == i && has S t.p
def sel (i to : Int) (d : Db) : Bool := d.f == i && (decide (to < 0) || d.t == to)
/-- the amounts of debts from a party to another one, or to all -/
def ams (l : List Db) (i to : Int) : List Rat := (l.filter (sel i to)).map qOf
def eachL (p : Pf) (S : List Bool) (i to : Int) : List Rat := ams p.du i to ++ if lat p S i then ams p.la i to else []
def gOf (p : Pf) (S : List Bool) (i : Int) (g : Gu) : List Rat := if g.b == i && has S g.x then eachL p S g.x g.t else []
def amtC (p : Pf) (S : List Bool) (i : Int) : List Rat := eachL p S i (-1) ++ p.gu.flatMap (gOf p S i)
/-- a sum with its range check at each step -/
def addE (s : Option Rat) (a : Rat) : Option Rat := s.bind fun x => if inR (x + a) then some (x + a) else none
def sumE (s : Option Rat) (l : List Rat) : Option Rat := l.foldl addE s
theorem sumE_app (s : Option Rat) (l m : List Rat) : sumE s (l ++ m) = sumE (sumE s l) m := List.foldl_append
theorem sumE_none (l : List Rat) : sumE none l = none := by
  induction l with
  | nil => rfl
  | cons a l ih => exact ih
theorem sumE_inR {s : Rat} (hs : inR s = true) : ∀ {l : List Rat} {q : Rat}, sumE (some s) l = some q → inR q = true := by
  intro l
  induction l generalizing s with
  | nil => intro q h; simp [sumE] at h; rw [← h]; exact hs
  | cons a l ih =>
    intro q h
    by_cases hi : inR (s + a) = true
    · exact ih hi (by simpa [sumE, addE, hi] using h)
    · have : sumE (some s) (a :: l) = sumE none l := by simp [sumE, addE, hi]
      rw [this, sumE_none] at h; cases h
/-- the exact sum -/
def sumQ : List Rat → Rat
  | [] => 0
  | a :: l => a + sumQ l
theorem sumE_eq {s q : Rat} : ∀ {l : List Rat}, sumE (some s) l = some q → q = s + sumQ l := by
  intro l
  induction l generalizing s with
  | nil => intro h; simp [sumE] at h; rw [← h, sumQ, Rat.add_zero]
  | cons a l ih =>
    intro h
    by_cases hi : inR (s + a) = true
    · rw [ih (s := s + a) (by simpa [sumE, addE, hi] using h), sumQ, Rat.add_assoc]
    · have : sumE (some s) (a :: l) = sumE none l := by simp [sumE, addE, hi]
      rw [this, sumE_none] at h; cases h
theorem sumQ_app (l m : List Rat) : sumQ (l ++ m) = sumQ l + sumQ m := by
  induction l with
  | nil => simp [sumQ, Rat.zero_add]
  | cons a l ih => simp only [List.cons_append, sumQ, ih, Rat.add_assoc]
theorem sumQ_pos {l : List Rat} (h : ∀ a ∈ l, 0 ≤ a) : 0 ≤ sumQ l := by
  induction l with
  | nil => exact Rat.le_refl
  | cons a l ih => exact Rat.add_nonneg (h a (by simp)) (ih fun b hb => h b (by simp [hb]))
theorem sumQ_sub {l m : List Rat} (hs : l.Sublist m) (h : ∀ a ∈ m, 0 ≤ a) : sumQ l ≤ sumQ m := by
  induction hs with
  | slnil => exact Rat.le_refl
  | cons a _ ih =>
    have h1 := ih fun b hb => h b (by simp [hb])
    have h2 := h a (by simp)
    simp only [sumQ]
    grind
  | cons_cons a _ ih =>
    have h1 := ih fun b hb => h b (by simp [hb])
    simp only [sumQ]
    grind
/-- what a party has to pay -/
def ow (p : Pf) (S : List Bool) (i : Int) : Option Rat := sumE (some 0) (amtC p S i)
theorem qOf_pos {n : Int} {d : Db} (h : okD n d = true) : 0 ≤ qOf d ∧ inR (qOf d) = true := by
  obtain ⟨_, h2, h3⟩ := okD_of h
  obtain ⟨e1, e2, e3⟩ := qOf_vld h2
  refine ⟨?_, e3⟩
  rw [← Rat.num_nonneg, e1]; omega
theorem ams_all {P : Rat → Prop} {l : List Db} {i to : Int} (h : ∀ d ∈ l, P (qOf d)) : ∀ a ∈ ams l i to, P a := by
  intro a ha
  simp only [ams, List.mem_map, List.mem_filter] at ha
  obtain ⟨d, ⟨hd, _⟩, rfl⟩ := ha
  exact h d hd
theorem eachL_all {P : Rat → Prop} {p : Pf} {S : List Bool} {i to : Int} (h : ∀ d ∈ p.du, P (qOf d)) (h' : ∀ d ∈ p.la, P (qOf d)) : ∀ a ∈ eachL p S i to, P a := by
  intro a ha
  simp only [eachL, List.mem_append] at ha
  rcases ha with ha | ha
  · exact ams_all h a ha
  · split at ha
    · exact ams_all h' a ha
    · simp at ha
theorem amtC_all {P : Rat → Prop} {p : Pf} {S : List Bool} {i : Int} (h : ∀ d ∈ p.du, P (qOf d)) (h' : ∀ d ∈ p.la, P (qOf d)) : ∀ a ∈ amtC p S i, P a := by
  intro a ha
  simp only [amtC, List.mem_append, List.mem_flatMap] at ha
  rcases ha with ha | ⟨g, _, ha⟩
  · exact eachL_all h h' a ha
  · unfold gOf at ha
    split at ha
    · exact eachL_all h h' a ha
    · simp at ha
/-- a set is within another one, for n parties -/
def sub (n : Int) (S T : List Bool) : Prop := ∀ i : Int, 0 ≤ i → i < n → has S i = true → has T i = true
theorem sub_refl (n : Int) (S : List Bool) : sub n S S := fun _ _ _ h => h
theorem lat_mono {p : Pf} (hp : VP p) {S T : List Bool} (h : sub p.n S T) {i : Int} (hl : lat p S i = true) : lat p T i = true := by
  simp only [lat, List.any_eq_true, Bool.and_eq_true] at hl ⊢
  obtain ⟨t, ht, h1, h2⟩ := hl
  have := hp.tr t ht
  exact ⟨t, ht, h1, h _ this.1.1 this.1.2 h2⟩
theorem eachL_mono {p : Pf} (hp : VP p) {S T : List Bool} (h : sub p.n S T) (i to : Int) : (eachL p S i to).Sublist (eachL p T i to) := by
  unfold eachL
  refine List.Sublist.append (List.Sublist.refl _) ?_
  by_cases hl : lat p S i = true
  · rw [if_pos hl, if_pos (lat_mono hp h hl)]; exact List.Sublist.refl _
  · rw [if_neg hl]; exact List.nil_sublist _
theorem flat_sub {α β : Type} {f g : α → List β} : ∀ {l : List α}, (∀ x ∈ l, (f x).Sublist (g x)) → (l.flatMap f).Sublist (l.flatMap g)
  | [], _ => by simp
  | x :: l, h => by
    simp only [List.flatMap_cons]
    exact List.Sublist.append (h x (by simp)) (flat_sub fun y hy => h y (by simp [hy]))
theorem amtC_mono {p : Pf} (hp : VP p) {S T : List Bool} (h : sub p.n S T) (i : Int) : (amtC p S i).Sublist (amtC p T i) := by
  unfold amtC
  refine List.Sublist.append (eachL_mono hp h _ _) (flat_sub fun g hg => ?_)
  have hx := (hp.gu g hg).1
  unfold gOf
  by_cases hc : (g.b == i && has S g.x) = true
  · simp only [Bool.and_eq_true] at hc
    rw [if_pos (by simp [hc]), if_pos (by simp [hc.1, h _ hx.1 hx.2 hc.2])]
    exact eachL_mono hp h _ _
  · rw [if_neg hc]; exact List.nil_sublist _
theorem ow_eq {p : Pf} {S : List Bool} {i : Int} {a : Rat} (h : ow p S i = some a) : a = sumQ (amtC p S i) := by rw [sumE_eq h, Rat.zero_add]
theorem amtC_pos {p : Pf} (hp : VP p) (S : List Bool) (i : Int) : ∀ a ∈ amtC p S i, 0 ≤ a := amtC_all (fun d hd => (qOf_pos (hp.du d hd)).1) fun d hd => (qOf_pos (hp.la d hd)).1
theorem amtC_inR {p : Pf} (hp : VP p) (S : List Bool) (i : Int) : ∀ a ∈ amtC p S i, inR a = true := amtC_all (fun d hd => (qOf_pos (hp.du d hd)).2) fun d hd => (qOf_pos (hp.la d hd)).2
theorem ow_mono {p : Pf} (hp : VP p) {S T : List Bool} (h : sub p.n S T) {i : Int} {a b : Rat} (ha : ow p S i = some a) (hb : ow p T i = some b) : a ≤ b := by
  rw [ow_eq ha, ow_eq hb]
  exact sumQ_sub (amtC_mono hp h i) (amtC_pos hp T i)
theorem inR_0 : inR 0 = true := by decide
theorem ow_inR {p : Pf} {S : List Bool} {i : Int} {a : Rat} (h : ow p S i = some a) : inR a = true := sumE_inR inR_0 h
end Go.Proofs.Yteoicnhnpailiaa
