/- Plain: the positions of all parties; the debts between two parties; pairs. -/
import Derived.Test.YteoicnhnpailiaaNet
namespace Go.Proofs.Yteoicnhnpailiaa

/-- the positions of the first parties -/
def posF (l : List Db) : Nat → Option (List Rat)
  | 0 => some []
  | k + 1 => match posF l k with
    | none => none
    | some qs => match totF (sgP k) l with
      | some s => some (qs ++ [s])
      | none => none
theorem posF_some {l : List Db} {k : Nat} {qs : List Rat} {s : Rat} (h : posF l k = some qs) (h1 : totF (sgP k) l = some s) : posF l (k + 1) = some (qs ++ [s]) := by simp only [posF, h, h1]
theorem posF_none {l : List Db} {k : Nat} {qs : List Rat} (h : posF l k = some qs) (h1 : totF (sgP k) l = none) : posF l (k + 1) = none := by simp only [posF, h, h1]
theorem posF_more {l : List Db} {k : Nat} (h : posF l k = none) : ∀ m, k ≤ m → posF l m = none := by
  intro m hm
  obtain ⟨d, rfl⟩ := Nat.exists_eq_add_of_le hm
  clear hm
  induction d with
  | zero => exact h
  | succ d ih => rw [Nat.add_succ, posF, ih]
theorem posF_len {l : List Db} : ∀ {k : Nat} {qs : List Rat}, posF l k = some qs → qs.length = k
  | 0, qs, h => by simp only [posF, Option.some.injEq] at h; subst h; rfl
  | k + 1, qs, h => by
    simp only [posF] at h
    split at h
    · cases h
    · rename_i qs' h'
      split at h
      · simp only [Option.some.injEq] at h
        subst h
        simp [posF_len h']
      · cases h
theorem fold_inR {sg : Db → Int} : ∀ (l : List Db) (s r : Rat), inR s = true → l.foldl (fun o x => o.bind (stepT sg x)) (some s) = some r → inR r = true
  | [], s, r, hs, h => by simp only [List.foldl_nil, Option.some.injEq] at h; subst h; exact hs
  | x :: l, s, r, hs, h => by
    simp only [List.foldl_cons, Option.bind_some] at h
    cases hx : stepT sg x s with
    | none => rw [hx, fold_none] at h; cases h
    | some s' =>
      rw [hx] at h
      refine fold_inR l s' r ?_ h
      unfold stepT at hx
      split at hx
      · cases hx; exact hs
      · split at hx
        · cases hx; assumption
        · cases hx
theorem totF_inR {sg : Db → Int} {l : List Db} {s : Rat} (h : totF sg l = some s) : inR s = true := fold_inR l 0 s (by decide) h
/-- the debts between two parties, as they come -/
def btw (a b : Int) (l : List Db) : List Db := l.filter fun x => ((x.f == a) && (x.t == b)) || ((x.f == b) && (x.t == a))
theorem btw_take {a b : Int} {l : List Db} {k : Nat} {x : Db} (hx : l[k]? = some x) : btw a b (l.take (k + 1)) = btw a b (l.take k) ++ if (((x.f == a) && (x.t == b)) || ((x.f == b) && (x.t == a))) = true then [x] else [] := by
  obtain ⟨hk, rfl⟩ := List.getElem?_eq_some_iff.1 hx
  rw [List.take_succ_eq_append_getElem hk, btw, btw, List.filter_append, List.filter_cons, List.filter_nil]
theorem btw_len (a b : Int) (l : List Db) : (btw a b l).length ≤ l.length := List.length_filter_le ..

/-- what two parties owe each other after netting -/
def prD (a b : Int) (s : Rat) : List Db := if 0 < s.num then [⟨a, b, s.num, s.den⟩] else if s.num < 0 then [⟨b, a, -s.num, s.den⟩] else []
theorem prD_pos {a b : Int} {s : Rat} (h : 0 < s.num) : prD a b s = [⟨a, b, s.num, s.den⟩] := if_pos h
theorem prD_neg {a b : Int} {s : Rat} (h : s.num < 0) : prD a b s = [⟨b, a, -s.num, s.den⟩] := by rw [prD, if_neg (by omega), if_pos h]
theorem prD_zero {a b : Int} {s : Rat} (h : s.num = 0) : prD a b s = [] := by rw [prD, if_neg (by omega), if_neg (by omega)]
/-- the pairs of party a with the m parties behind it -/
def rowF (l : List Db) (a : Nat) : Nat → Option (List Db)
  | 0 => some []
  | m + 1 => match rowF l a m with
    | none => none
    | some ys => match totF (sgAB a (a + 1 + m : Nat)) l with
      | some s => some (ys ++ prD a (a + 1 + m : Nat) s)
      | none => none
/-- the pairs of the first k parties, of p, with those behind them -/
def prF (l : List Db) (p : Nat) : Nat → Option (List Db)
  | 0 => some []
  | k + 1 => match prF l p k with
    | none => none
    | some ys => match rowF l k (p - (k + 1)) with
      | some zs => some (ys ++ zs)
      | none => none
theorem rowF_some {l : List Db} {a m : Nat} {ys : List Db} {s : Rat} (h : rowF l a m = some ys) (h1 : totF (sgAB a (a + 1 + m : Nat)) l = some s) : rowF l a (m + 1) = some (ys ++ prD a (a + 1 + m : Nat) s) := by simp only [rowF, h, h1]
theorem rowF_none {l : List Db} {a m : Nat} {ys : List Db} (h : rowF l a m = some ys) (h1 : totF (sgAB a (a + 1 + m : Nat)) l = none) : rowF l a (m + 1) = none := by simp only [rowF, h, h1]
theorem rowF_more {l : List Db} {a k : Nat} (h : rowF l a k = none) : ∀ m, k ≤ m → rowF l a m = none := by
  intro m hm
  obtain ⟨d, rfl⟩ := Nat.exists_eq_add_of_le hm
  clear hm
  induction d with
  | zero => exact h
  | succ d ih => rw [Nat.add_succ, rowF, ih]
theorem prF_some {l : List Db} {p k : Nat} {ys zs : List Db} (h : prF l p k = some ys) (h1 : rowF l k (p - (k + 1)) = some zs) : prF l p (k + 1) = some (ys ++ zs) := by simp only [prF, h, h1]
theorem prF_none {l : List Db} {p k : Nat} {ys : List Db} (h : prF l p k = some ys) (h1 : rowF l k (p - (k + 1)) = none) : prF l p (k + 1) = none := by simp only [prF, h, h1]
theorem prF_more {l : List Db} {p k : Nat} (h : prF l p k = none) : ∀ m, k ≤ m → prF l p m = none := by
  intro m hm
  obtain ⟨d, rfl⟩ := Nat.exists_eq_add_of_le hm
  clear hm
  induction d with
  | zero => exact h
  | succ d ih => rw [Nat.add_succ, prF, ih]
theorem prD_len (a b : Int) (s : Rat) : (prD a b s).length ≤ 1 := by
  unfold prD; split
  · simp
  · split <;> simp
theorem rowF_len {l : List Db} {a : Nat} : ∀ {m : Nat} {ys : List Db}, rowF l a m = some ys → ys.length ≤ m
  | 0, ys, h => by simp only [rowF, Option.some.injEq] at h; subst h; simp
  | m + 1, ys, h => by
    simp only [rowF] at h
    split at h
    · cases h
    · rename_i ys' h'
      split at h
      · simp only [Option.some.injEq] at h
        subst h
        rename_i s _
        have h1 := rowF_len h'
        have h2 := prD_len a (a + 1 + m : Nat) s
        rw [List.length_append]; omega
      · cases h
theorem prF_len {l : List Db} {p : Nat} : ∀ {k : Nat} {ys : List Db}, prF l p k = some ys → ys.length ≤ k * p
  | 0, ys, h => by simp only [prF, Option.some.injEq] at h; subst h; simp
  | k + 1, ys, h => by
    simp only [prF] at h
    split at h
    · cases h
    · rename_i ys' h'
      split at h
      · simp only [Option.some.injEq] at h
        subst h
        rename_i zs hz
        have h1 := prF_len h'
        have h2 := rowF_len hz
        rw [List.length_append, Nat.add_mul]; omega
      · cases h

theorem sgP_btw {a b : Int} (hab : a ≠ b) (x : Db) : (if (((x.f == a) && (x.t == b)) || ((x.f == b) && (x.t == a))) = true then sgP b x else 0) = sgAB a b x := by
  unfold sgP sgAB
  simp only [Bool.or_eq_true, Bool.and_eq_true, beq_iff_eq]
  by_cases h1 : x.f = a ∧ x.t = b
  · simp [h1]
  · by_cases h2 : x.f = b ∧ x.t = a
    · have : ¬ (x.t = b) := fun e => hab (h2.2.symm.trans e)
      simp only [h1, h2, or_true, if_true, false_or]
      simp [hab]
    · simp only [h1, h2, or_self, if_false]
theorem fold_btw {a b : Int} (hab : a ≠ b) : ∀ (l : List Db) (o : Option Rat), (btw a b l).foldl (fun o x => o.bind (stepT (sgP b) x)) o = l.foldl (fun o x => o.bind (stepT (sgAB a b) x)) o
  | [], o => rfl
  | x :: l, o => by
    have hs := sgP_btw hab x
    rw [List.foldl_cons]
    by_cases h : (((x.f == a) && (x.t == b)) || ((x.f == b) && (x.t == a))) = true
    · rw [if_pos h] at hs
      rw [btw, List.filter_cons, if_pos h, List.foldl_cons]
      have e : stepT (sgP b) x = stepT (sgAB a b) x := by funext s; unfold stepT; rw [hs]
      rw [e]; exact fold_btw hab l _
    · rw [if_neg h] at hs
      rw [btw, List.filter_cons, if_neg h]
      have e : o.bind (stepT (sgAB a b) x) = o := by cases o <;> simp [stepT, ← hs]
      rw [e]; exact fold_btw hab l _
theorem totF_btw {a b : Int} (hab : a ≠ b) (l : List Db) : totF (sgP b) (btw a b l) = totF (sgAB a b) l := fold_btw hab l _
theorem btw_mem {a b : Int} {l : List Db} {x : Db} (h : x ∈ btw a b l) : x ∈ l := (List.mem_filter.1 h).1
theorem rowF_bad {l : List Db} {a b : Nat} (hab : a < b) (h : totF (sgAB a b) l = none) : rowF l a (b - a) = none := by
  obtain ⟨m, rfl⟩ := Nat.exists_eq_add_of_le (show a + 1 ≤ b from hab)
  have e : a + 1 + m - a = m + 1 := by omega
  rw [e]
  cases hr : rowF l a m with
  | none => exact rowF_more hr _ (by omega)
  | some ys => exact rowF_none hr h
theorem prF_bad {l : List Db} {a b p : Nat} (hab : a < b) (hb : b < p) (h : totF (sgAB a b) l = none) : prF l p p = none := by
  have h1 : rowF l a (p - (a + 1)) = none := rowF_more (rowF_bad hab h) _ (by omega)
  refine prF_more (k := a + 1) ?_ p (by omega)
  cases hr : prF l p a with
  | none => exact prF_more hr _ (by omega)
  | some ys => exact prF_none hr h1
end Go.Proofs.Yteoicnhnpailiaa
