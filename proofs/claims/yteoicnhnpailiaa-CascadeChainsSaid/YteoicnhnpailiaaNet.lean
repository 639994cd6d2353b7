/- What package netting computes: debts, validity, sums, positions, pairs, nets. No program in sight. -/
import Derived.Test.YteoicnhnpailiaaMath
namespace Go.Proofs.Yteoicnhnpailiaa

/-- a debt as it comes: from, to, numerator, denominator -/
structure Db where
  f : Int
  t : Int
  n : Int
  d : Int

/-- a debt is valid for p parties -/
def okD (p : Int) (x : Db) : Bool := decide (0 ≤ x.f ∧ x.f < p ∧ 0 ≤ x.t ∧ x.t < p ∧ x.f ≠ x.t) && (vld x.n x.d && decide (0 < x.n))
def validD (p : Int) (l : List Db) : Bool := decide (1 ≤ p ∧ p ≤ 12 ∧ l.length ≤ 400) && l.all (okD p)
/-- all integers of a debt fit -/
def fitD (x : Db) : Prop := (-9223372036854775808 ≤ x.f ∧ x.f ≤ 9223372036854775807) ∧ (-9223372036854775808 ≤ x.t ∧ x.t ≤ 9223372036854775807) ∧ (-9223372036854775808 ≤ x.n ∧ x.n ≤ 9223372036854775807) ∧ (-9223372036854775808 ≤ x.d ∧ x.d ≤ 9223372036854775807)
theorem okD_mk {p : Int} {x : Db} (h : (0 ≤ x.f ∧ x.f < p ∧ 0 ≤ x.t ∧ x.t < p ∧ x.f ≠ x.t) ∧ vld x.n x.d = true ∧ 0 < x.n) : okD p x = true := by simp [okD, h]
theorem okD_of {p : Int} {x : Db} (h : okD p x = true) : (0 ≤ x.f ∧ x.f < p ∧ 0 ≤ x.t ∧ x.t < p ∧ x.f ≠ x.t) ∧ vld x.n x.d = true ∧ 0 < x.n := by simpa [okD] using h
theorem okD_cases {p : Int} {x : Db} (h : okD p x = false) : x.f < 0 ∨ (0 ≤ x.f ∧ p ≤ x.f) ∨ (0 ≤ x.f ∧ x.f < p ∧ x.t < 0) ∨ (0 ≤ x.f ∧ x.f < p ∧ 0 ≤ x.t ∧ p ≤ x.t) ∨ (0 ≤ x.f ∧ x.f < p ∧ 0 ≤ x.t ∧ x.t < p ∧ (x.f == x.t) = true) ∨
    (0 ≤ x.f ∧ x.f < p ∧ 0 ≤ x.t ∧ x.t < p ∧ (x.f == x.t) = false ∧ vld x.n x.d = false) ∨ (0 ≤ x.f ∧ x.f < p ∧ 0 ≤ x.t ∧ x.t < p ∧ (x.f == x.t) = false ∧ vld x.n x.d = true ∧ x.n ≤ 0) := by
  by_cases b1 : x.f < 0
  · exact .inl b1
  by_cases b2 : p ≤ x.f
  · exact .inr (.inl ⟨by omega, b2⟩)
  by_cases b3 : x.t < 0
  · exact .inr (.inr (.inl ⟨by omega, by omega, b3⟩))
  by_cases b4 : p ≤ x.t
  · exact .inr (.inr (.inr (.inl ⟨by omega, by omega, by omega, b4⟩)))
  by_cases b5 : x.f = x.t
  · exact .inr (.inr (.inr (.inr (.inl ⟨by omega, by omega, by omega, by omega, by simpa using b5⟩))))
  have b5' : (x.f == x.t) = false := by simpa using b5
  cases b6 : vld x.n x.d
  · exact .inr (.inr (.inr (.inr (.inr (.inl ⟨by omega, by omega, by omega, by omega, b5', rfl⟩)))))
  · by_cases b7 : 0 < x.n
    · rw [okD_mk ⟨⟨by omega, by omega, by omega, by omega, b5⟩, b6, b7⟩] at h
      cases h
    · exact .inr (.inr (.inr (.inr (.inr (.inr ⟨by omega, by omega, by omega, by omega, b5', rfl, by omega⟩)))))
theorem take_all {p : Int} {l : List Db} {k : Nat} {x : Db} (hx : l[k]? = some x) (h : (l.take k).all (okD p) = true) (h1 : okD p x = true) : (l.take (k + 1)).all (okD p) = true := by
  obtain ⟨hk, rfl⟩ := List.getElem?_eq_some_iff.1 hx
  rw [List.take_succ_eq_append_getElem hk, List.all_append, h]
  simp [h1]
theorem validD_no {p : Int} {l : List Db} {k : Nat} {x : Db} (hx : l[k]? = some x) (h1 : okD p x = false) : validD p l = false := by
  have hm : x ∈ l := List.mem_of_getElem? hx
  have : l.all (okD p) = false := by
    rw [List.all_eq_false]; exact ⟨x, hm, by simp [h1]⟩
  simp [validD, this]
theorem validD_out {p : Int} {l : List Db} (h : ¬ (1 ≤ p ∧ p ≤ 12 ∧ l.length ≤ 400)) : validD p l = false := by simp only [validD, h, decide_false, Bool.false_and]
theorem validD_yes {p : Int} {l : List Db} (h : 1 ≤ p ∧ p ≤ 12 ∧ l.length ≤ 400) (h1 : (l.take l.length).all (okD p) = true) : validD p l = true := by
  rw [List.take_length] at h1
  simp only [validD, h1, h, and_self, decide_true, Bool.and_true]

/-- the amount of a debt -/
def qOf (x : Db) : Rat := Rat.divInt x.n x.d
theorem qOf_vld {x : Db} (h : vld x.n x.d = true) : (qOf x).num = x.n ∧ ((qOf x).den : Int) = x.d ∧ inR (qOf x) = true := by
  obtain ⟨q, h1, h2, h3⟩ := rat_of_vld h
  have : qOf x = q := by rw [qOf, ← h2, ← h3, Rat.num_divInt_den]
  rw [this]; exact ⟨h2, h3, h1⟩
theorem inR_neg {q : Rat} (h : inR q = true) : inR (-q) = true := by
  simp only [inR, decide_eq_true_eq, Rat.neg_num, Rat.neg_den] at h ⊢; omega

/-- one step of a sum -/
def stepT (sg : Db → Int) (x : Db) (s : Rat) : Option Rat := if sg x = 0 then some s else if inR (s + sg x * qOf x) then some (s + sg x * qOf x) else none
/-- the sum of the debts with signs, as long as it is in range -/
def totF (sg : Db → Int) (l : List Db) : Option Rat := l.foldl (fun o x => o.bind (stepT sg x)) (some 0)
theorem totF_take {sg : Db → Int} {l : List Db} {k : Nat} {x : Db} (hx : l[k]? = some x) : totF sg (l.take (k + 1)) = (totF sg (l.take k)).bind (stepT sg x) := by
  obtain ⟨hk, rfl⟩ := List.getElem?_eq_some_iff.1 hx
  rw [List.take_succ_eq_append_getElem hk, totF, totF, List.foldl_append]; rfl
theorem fold_none {sg : Db → Int} (l : List Db) : l.foldl (fun o x => o.bind (stepT sg x)) none = none := by
  induction l with
  | nil => rfl
  | cons a r ih => exact ih
theorem totF_none {sg : Db → Int} {l : List Db} {k : Nat} (h : totF sg (l.take k) = none) : totF sg l = none := by
  rw [← List.take_append_drop k l, totF, List.foldl_append]
  rw [totF] at h
  rw [h]; exact fold_none _
theorem signed_num {q : Rat} {s : Int} (h : s = 1 ∨ s = -1) : ((s : Rat) * q).num = s * q.num ∧ ((s : Rat) * q).den = q.den := by
  rcases h with rfl | rfl
  · simp [show ((1 : Int) : Rat) = 1 from rfl]
  · rw [show ((-1 : Int) : Rat) * q = -q from by rw [show ((-1 : Int) : Rat) = -1 from rfl]; grind]; simp
theorem signed_inR {q : Rat} {s : Int} (h : s = 1 ∨ s = -1) (hq : inR q = true) : inR ((s : Rat) * q) = true := by
  rcases h with rfl | rfl
  · simpa [show ((1 : Int) : Rat) = 1 from rfl] using hq
  · rw [show ((-1 : Int) : Rat) * q = -q from by rw [show ((-1 : Int) : Rat) = -1 from rfl]; grind]; exact inR_neg hq
/-- the sign of a debt for a party; for two parties -/
def sgP (p : Int) (x : Db) : Int := if x.t = p then 1 else if x.f = p then -1 else 0
def sgAB (a b : Int) (x : Db) : Int := if x.f = a ∧ x.t = b then 1 else if x.f = b ∧ x.t = a then -1 else 0
end Go.Proofs.Yteoicnhnpailiaa
