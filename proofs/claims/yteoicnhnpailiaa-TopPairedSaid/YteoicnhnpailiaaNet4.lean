/- Plain: exact sums; the positions add up to 0; the netting of all parties keeps the positions. -/
import Derived.Test.YteoicnhnpailiaaNet3
namespace Go.Proofs.Yteoicnhnpailiaa

/-- an exact sum over a list; over the first numbers -/
def sm {α : Type} (f : α → Rat) : List α → Rat
  | [] => 0
  | x :: r => f x + sm f r
def rs (f : Nat → Rat) : Nat → Rat
  | 0 => 0
  | k + 1 => rs f k + f k
theorem sm_append {α : Type} (f : α → Rat) (l m : List α) : sm f (l ++ m) = sm f l + sm f m := by
  induction l with
  | nil => simp [sm, Rat.zero_add]
  | cons x r ih => simp only [List.cons_append, sm, ih, Rat.add_assoc]
theorem sm_congr {α : Type} {f g : α → Rat} {l : List α} (h : ∀ x ∈ l, f x = g x) : sm f l = sm g l := by
  induction l with
  | nil => rfl
  | cons x r ih => rw [sm, sm, h x (by simp), ih fun y hy => h y (by simp [hy])]
theorem sm_zero {α : Type} {f : α → Rat} {l : List α} (h : ∀ x ∈ l, f x = 0) : sm f l = 0 := by
  induction l with
  | nil => rfl
  | cons x r ih => rw [sm, h x (by simp), ih fun y hy => h y (by simp [hy]), Rat.zero_add]
theorem sm_add {α : Type} (f g : α → Rat) (l : List α) : sm (fun x => f x + g x) l = sm f l + sm g l := by
  induction l with
  | nil => simp [sm, Rat.zero_add]
  | cons x r ih => simp only [sm, ih]; grind
theorem sm_neg {α : Type} (f : α → Rat) (l : List α) : sm (fun x => -f x) l = -sm f l := by
  induction l with
  | nil => simp [sm]
  | cons x r ih => simp only [sm, ih]; grind
theorem sm_le {α : Type} {f g : α → Rat} {l : List α} (h : ∀ x ∈ l, f x ≤ g x) : sm f l ≤ sm g l := by
  induction l with
  | nil => exact Rat.le_refl
  | cons x r ih =>
    have h1 := h x (by simp)
    have h2 := ih fun y hy => h y (by simp [hy])
    simp only [sm]; grind
theorem sm_reverse {α : Type} (f : α → Rat) (l : List α) : sm f l.reverse = sm f l := by
  induction l with
  | nil => rfl
  | cons x r ih => rw [List.reverse_cons, sm_append, ih, sm, sm, sm]; grind
theorem rs_congr {f g : Nat → Rat} {n : Nat} (h : ∀ i, i < n → f i = g i) : rs f n = rs g n := by
  induction n with
  | zero => rfl
  | succ n ih => rw [rs, rs, h n (by omega), ih fun i hi => h i (by omega)]
theorem rs_zero {f : Nat → Rat} {n : Nat} (h : ∀ i, i < n → f i = 0) : rs f n = 0 := by
  induction n with
  | zero => rfl
  | succ n ih => rw [rs, h n (by omega), ih fun i hi => h i (by omega)]; grind
theorem rs_add (f g : Nat → Rat) (n : Nat) : rs (fun i => f i + g i) n = rs f n + rs g n := by
  induction n with
  | zero => simp [rs, Rat.zero_add]
  | succ n ih => simp only [rs, ih]; grind
theorem rs_one {f : Nat → Rat} {n k : Nat} (hk : k < n) (h : ∀ i, i < n → i ≠ k → f i = 0) : rs f n = f k := by
  induction n with
  | zero => omega
  | succ n ih =>
    rw [rs]
    by_cases e : k = n
    · subst e; rw [rs_zero fun i hi => h i (by omega) (by omega)]; grind
    · rw [ih (by omega) fun i hi hn => h i (by omega) hn, h n (by omega) (by omega)]; grind
theorem rs_sm {α : Type} (g : Nat → α → Rat) (l : List α) (n : Nat) : rs (fun i => sm (g i) l) n = sm (fun x => rs (fun i => g i x) n) l := by
  induction n with
  | zero => simp only [rs]; rw [sm_zero]; intros; rfl
  | succ n ih => simp only [rs, ih, sm_add]
theorem rs_nonneg {f : Nat → Rat} {n : Nat} (h : ∀ i, i < n → 0 ≤ f i) : 0 ≤ rs f n := by
  induction n with
  | zero => exact Rat.le_refl
  | succ n ih =>
    have h1 := h n (by omega)
    have h2 := ih fun i hi => h i (by omega)
    simp only [rs]; grind
theorem rs_le {f g : Nat → Rat} {n : Nat} (h : ∀ i, i < n → f i ≤ g i) : rs f n ≤ rs g n := by
  induction n with
  | zero => exact Rat.le_refl
  | succ n ih =>
    have h1 := h n (by omega)
    have h2 := ih fun i hi => h i (by omega)
    simp only [rs]; grind
theorem rs_all0 {f : Nat → Rat} : ∀ {n : Nat}, (∀ i, i < n → 0 ≤ f i) → rs f n = 0 → ∀ i, i < n → f i = 0
  | 0, _, _, i, hi => by omega
  | n + 1, h, hs, i, hi => by
    have h1 := rs_nonneg (n := n) fun i hi => h i (by omega)
    have h2 := h n (by omega)
    rw [rs] at hs
    rcases Nat.lt_or_ge i n with hlt | hge
    · exact rs_all0 (fun i hi => h i (by omega)) (by grind) i hlt
    · obtain rfl : i = n := by omega
      grind
theorem rs_neg (f : Nat → Rat) (n : Nat) : rs (fun i => -f i) n = -rs f n := by
  induction n with
  | zero => simp [rs]
  | succ n ih => simp only [rs, ih]; grind

/-- what a debt changes for a sign; the exact total -/
def tv (sg : Db → Int) (l : List Db) : Rat := sm (fun x => (sg x : Rat) * qOf x) l
def pv (l : List Db) (i : Nat) : Rat := tv (sgP i) l
theorem step_val {sg : Db → Int} {x : Db} {s r : Rat} (h : stepT sg x s = some r) : r = s + (sg x : Rat) * qOf x := by
  unfold stepT at h
  split at h
  · rename_i h0
    cases h; rw [h0]; grind
  · split at h
    · cases h; rfl
    · cases h
theorem fold_val {sg : Db → Int} : ∀ (l : List Db) (s r : Rat), l.foldl (fun o x => o.bind (stepT sg x)) (some s) = some r → r = s + tv sg l
  | [], s, r, h => by simp only [List.foldl_nil, Option.some.injEq] at h; subst h; simp [tv, sm, Rat.add_zero]
  | x :: l, s, r, h => by
    simp only [List.foldl_cons, Option.bind_some] at h
    cases hx : stepT sg x s with
    | none => rw [hx, fold_none] at h; cases h
    | some s' =>
      rw [hx] at h
      have h1 := fold_val l s' r h
      have h2 := step_val hx
      rw [h1, h2, tv, tv, sm, Rat.add_assoc]
theorem totF_val {sg : Db → Int} {l : List Db} {s : Rat} (h : totF sg l = some s) : s = tv sg l := by
  have := fold_val l 0 s h
  rwa [Rat.zero_add] at this
theorem at0_append_lt {qs ys : List Rat} {k : Nat} (h : k < qs.length) : at0 (qs ++ ys) k = at0 qs k := by simp [at0, List.getElem?_append_left h]
theorem at0_append_eq (qs : List Rat) (s : Rat) : at0 (qs ++ [s]) qs.length = s := by simp [at0]
theorem posF_val {l : List Db} : ∀ {k : Nat} {qs : List Rat}, posF l k = some qs → ∀ i, i < k → at0 qs i = pv l i
  | 0, qs, h, i, hi => by omega
  | k + 1, qs, h, i, hi => by
    simp only [posF] at h
    split at h
    · cases h
    · rename_i qs' h'
      split at h
      · rename_i s hs
        simp only [Option.some.injEq] at h
        subst h
        have hl := posF_len h'
        rcases Nat.lt_or_ge i k with hlt | hge
        · rw [at0_append_lt (by omega)]; exact posF_val h' i hlt
        · obtain rfl : i = k := by omega
          rw [show at0 (qs' ++ [s]) i = s by rw [← hl]; exact at0_append_eq ..]
          exact totF_val hs
      · cases h
theorem at0_ext {qs rs : List Rat} (hl : qs.length = rs.length) (h : ∀ i, i < qs.length → at0 qs i = at0 rs i) : qs = rs := by
  refine List.ext_getElem hl fun i h1 h2 => ?_
  have := h i h1
  rwa [at0_lt h1, at0_lt h2] at this

theorem okD_ne {p : Nat} {x : Db} (h : okD p x = true) : ∃ a b : Nat, x.f = a ∧ x.t = b ∧ a < p ∧ b < p ∧ a ≠ b := by
  obtain ⟨⟨a1, a2, a3, a4, a5⟩, _⟩ := okD_of h
  exact ⟨x.f.toNat, x.t.toNat, by omega, by omega, by omega, by omega, by omega⟩
/-- a debt changes nothing in the sum of all positions -/
theorem sgP_sum {p : Nat} {x : Db} (h : okD p x = true) : rs (fun i => (sgP i x : Rat) * qOf x) p = 0 := by
  obtain ⟨a, b, ha, hb, h1, h2, h3⟩ := okD_ne h
  have e : ∀ i : Nat, (sgP i x : Rat) * qOf x = (if i = b then qOf x else 0) + (if i = a then -qOf x else 0) := by
    intro i
    unfold sgP
    rw [ha, hb]
    by_cases e1 : i = b
    · subst e1
      have : ¬ i = a := by omega
      simp only [if_true, this, if_false]
      rw [show ((1 : Int) : Rat) = 1 from rfl]; grind
    · have n1 : ¬ ((b : Int) = (i : Int)) := by omega
      simp only [n1, e1, if_false]
      by_cases e2 : i = a
      · subst e2
        simp only [if_true]
        rw [show ((-1 : Int) : Rat) = -1 from rfl]; grind
      · have n2 : ¬ ((a : Int) = (i : Int)) := by omega
        simp only [n2, e2, if_false]
        rw [show ((0 : Int) : Rat) = 0 from rfl]; grind
  rw [rs_congr fun i _ => e i, rs_add, rs_one h2 (fun i _ hn => by simp [hn]), rs_one h1 (fun i _ hn => by simp [hn])]
  simp only [if_true]; grind
theorem validD_mem {p : Int} {l : List Db} (h : validD p l = true) : ∀ x ∈ l, okD p x = true := by
  simp only [validD, Bool.and_eq_true, List.all_eq_true] at h
  exact h.2
theorem pv_sum {p : Nat} {l : List Db} (h : ∀ x ∈ l, okD p x = true) : rs (pv l) p = 0 := by
  show rs (fun i => sm (fun x => (sgP i x : Rat) * qOf x) l) p = 0
  rw [rs_sm (fun i x => (sgP i x : Rat) * qOf x)]
  exact sm_zero fun x hx => sgP_sum (h x hx)

/-- the rounds of netting, from positions to positions -/
inductive NetR : List Rat → List Db → List Rat → Prop
  | stop (qs : List Rat) : NetR qs [] qs
  | step {qs qs' : List Rat} {ms : List Db} (h : stopB qs = false) (h1 : inR (lft qs) = true) (h2 : inR (rgt qs) = true) (h3 : NetR (nxt qs) ms qs') : NetR qs (mvD qs :: ms) qs'
theorem netF_R : ∀ {f : Nat} {qs : List Rat} {made res : List Db}, nz qs < f → netF f qs made = some res → ∃ ms qs', res = made ++ ms ∧ NetR qs ms qs' ∧ stopB qs' = true
  | 0, qs, made, res, hf, _ => by omega
  | f + 1, qs, made, res, hf, h => by
    cases hs : stopB qs with
    | true =>
      rw [netF_stop hs] at h
      cases h
      exact ⟨[], qs, by simp, .stop qs, hs⟩
    | false =>
      have hz := nz_nxt hs
      by_cases hc : inR (lft qs) = true ∧ inR (rgt qs) = true
      · rw [netF_step hs hc.1 hc.2] at h
        obtain ⟨ms, qs', e, hR, hst⟩ := netF_R (by omega) h
        exact ⟨mvD qs :: ms, qs', by rw [e]; simp, .step hs hc.1 hc.2 hR, hst⟩
      · rw [netF_bad hs (by cases h1 : inR (lft qs) <;> simp_all)] at h
        cases h
theorem NetR.len {qs qs' : List Rat} {ms : List Db} (h : NetR qs ms qs') : qs'.length = qs.length := by
  induction h with
  | stop => rfl
  | step _ _ _ _ ih => rw [ih, nxt_len]
theorem at0_set_eq {qs : List Rat} {k : Nat} {r : Rat} (h : k < qs.length) : at0 (qs.set k r) k = r := by simp [at0, h]
theorem at0_set_ne {qs : List Rat} {k i : Nat} {r : Rat} (h : k ≠ i) : at0 (qs.set k r) i = at0 qs i := by simp [at0, List.getElem?_set_ne h]
theorem nxt_at {qs : List Rat} (h : stopB qs = false) : at0 (nxt qs) (minI qs qs.length) = lft qs ∧ at0 (nxt qs) (maxI qs qs.length) = rgt qs ∧ ∀ i, i ≠ minI qs qs.length → i ≠ maxI qs qs.length → at0 (nxt qs) i = at0 qs i := by
  obtain ⟨h1, h2, h3, h4, h5, h6⟩ := stop_no h
  unfold nxt
  refine ⟨?_, at0_set_eq (by simpa using h6), fun i a b => ?_⟩
  · rw [at0_set_ne (fun e => h4 e.symm), at0_set_eq h5]
  · rw [at0_set_ne (fun e => b e.symm), at0_set_ne (fun e => a e.symm)]
theorem qOf_mv (qs : List Rat) : qOf (mvD qs) = amt qs := by simp only [qOf, mvD, Rat.num_divInt_den]
theorem amt_le {qs : List Rat} : amt qs ≤ -(at0 qs (minI qs qs.length)) ∧ amt qs ≤ at0 qs (maxI qs qs.length) := by
  unfold amt; split <;> grind
theorem sgP_mv {qs : List Rat} (h : stopB qs = false) (i : Nat) : at0 qs i = at0 (nxt qs) i + (sgP i (mvD qs) : Rat) * qOf (mvD qs) := by
  obtain ⟨h1, h2, h3, h4, h5, h6⟩ := stop_no h
  obtain ⟨n1, n2, n3⟩ := nxt_at h
  rw [qOf_mv]
  unfold sgP mvD
  by_cases e1 : i = maxI qs qs.length
  · simp only [e1, if_true]
    rw [n2, rgt, show ((1 : Int) : Rat) = 1 from rfl]; grind
  · have a1 : ¬ ((maxI qs qs.length : Int) = (i : Int)) := by omega
    simp only [a1, if_false]
    by_cases e2 : i = minI qs qs.length
    · simp only [e2, if_true]
      rw [n1, lft, show ((-1 : Int) : Rat) = -1 from rfl]; grind
    · have a2 : ¬ ((minI qs qs.length : Int) = (i : Int)) := by omega
      simp only [a2, if_false]
      rw [n3 i e2 e1, show ((0 : Int) : Rat) = 0 from rfl]; grind
theorem NetR.val {qs qs' : List Rat} {ms : List Db} (h : NetR qs ms qs') (i : Nat) : at0 qs i = at0 qs' i + pv ms i := by
  induction h with
  | stop => simp [pv, tv, sm, Rat.add_zero]
  | @step qs qs' ms h h1 h2 h3 ih =>
    rw [sgP_mv h i, ih, pv, pv, tv, tv, sm]; grind
theorem num_pos' {q : Rat} (h : 0 < q) : 0 < q.num := by
  have h1 := Rat.num_nonneg (q := -q)
  rw [Rat.neg_num] at h1
  rcases Int.lt_or_le 0 q.num with h2 | h2
  · exact h2
  · have := h1.1 (by omega); grind
theorem mv_ok {qs : List Rat} (hq : ∀ q ∈ qs, inR q = true) (h : stopB qs = false) : okD qs.length (mvD qs) = true := by
  obtain ⟨h1, h2, h3, h4, h5, h6⟩ := stop_no h
  have a1 := amt_inR hq h
  have a2 := amt_pos h
  exact okD_mk (by unfold mvD; exact ⟨⟨by simp, by simp; omega, by simp, by simp; omega, by simp; omega⟩, inR_vld a1, num_pos' a2⟩)
theorem NetR.ok {qs qs' : List Rat} {ms : List Db} (h : NetR qs ms qs') (hq : ∀ q ∈ qs, inR q = true) : ∀ x ∈ ms, okD qs.length x = true := by
  induction h with
  | stop => simp
  | @step qs qs' ms h h1 h2 h3 ih =>
    intro x hx
    rcases List.mem_cons.1 hx with rfl | hx
    · exact mv_ok hq h
    · have := ih (nxt_inR hq h1 h2) x hx
      rwa [nxt_len] at this
/-- signs are kept: who owes was owing, who is owed was owed -/
theorem nxt_sign {qs : List Rat} (h : stopB qs = false) (i : Nat) : (at0 (nxt qs) i < 0 → at0 qs i < 0) ∧ (0 < at0 (nxt qs) i → 0 < at0 qs i) := by
  obtain ⟨h1, h2, h3, h4, h5, h6⟩ := stop_no h
  obtain ⟨n1, n2, n3⟩ := nxt_at h
  obtain ⟨a1, a2⟩ := amt_le (qs := qs)
  by_cases e1 : i = maxI qs qs.length
  · rw [e1, n2, rgt]; constructor <;> intro <;> grind
  · by_cases e2 : i = minI qs qs.length
    · rw [e2, n1, lft]; constructor <;> intro <;> grind
    · rw [n3 i e2 e1]; exact ⟨id, id⟩
theorem NetR.sign {qs qs' : List Rat} {ms : List Db} (h : NetR qs ms qs') : ∀ x ∈ ms, ∃ a b : Nat, x.f = a ∧ x.t = b ∧ at0 qs a < 0 ∧ 0 < at0 qs b := by
  induction h with
  | stop => simp
  | @step qs qs' ms h h1 h2 h3 ih =>
    obtain ⟨g1, g2, _⟩ := stop_no h
    intro x hx
    rcases List.mem_cons.1 hx with rfl | hx
    · exact ⟨_, _, rfl, rfl, g1, g2⟩
    · obtain ⟨a, b, e1, e2, s1, s2⟩ := ih x hx
      exact ⟨a, b, e1, e2, (nxt_sign h a).1 s1, (nxt_sign h b).2 s2⟩
theorem nz_two {qs : List Rat} (h : stopB qs = false) : 2 ≤ nz qs := by
  obtain ⟨h1, h2, h3, h4, h5, h6⟩ := stop_no h
  have e1 := nz_set qs (minI qs qs.length) 0 h5
  have e2 := nz_set (qs.set (minI qs qs.length) 0) (maxI qs qs.length) 0 (by simpa using h6)
  rw [List.getElem_set_ne h4 (by simpa using h6)] at e2
  rw [at0_lt h5] at h1
  rw [at0_lt h6] at h2
  have n1 : ¬ qs[minI qs qs.length] = 0 := fun e => by rw [e] at h1; exact Rat.lt_irrefl h1
  have n2 : ¬ qs[maxI qs qs.length] = 0 := fun e => by rw [e] at h2; exact Rat.lt_irrefl h2
  rw [if_neg n1] at e1
  rw [if_neg n2] at e2
  simp only [if_true] at e1 e2
  omega
theorem NetR.few {qs qs' : List Rat} {ms : List Db} (h : NetR qs ms qs') : ms = [] ∨ ms.length + 1 ≤ nz qs := by
  induction h with
  | stop => exact .inl rfl
  | @step qs qs' ms h h1 h2 h3 ih =>
    right
    rcases ih with rfl | ih
    · exact nz_two h
    · have := nz_nxt h
      simp only [List.length_cons]; omega
/-- where the positions add up to 0, the netting ends with zeros -/
theorem stop_zero {qs : List Rat} (h : stopB qs = true) (hs : rs (at0 qs) qs.length = 0) : ∀ i, i < qs.length → at0 qs i = 0 := by
  simp only [stopB, Bool.or_eq_true, decide_eq_true_eq] at h
  rcases h with h | h
  · exact rs_all0 (fun i hi => Rat.le_trans h (minI_le qs qs.length i hi)) hs
  · intro i hi
    have h2 : ∀ i, i < qs.length → 0 ≤ -(at0 qs i) := fun i hi => by
      have := Rat.le_trans (maxI_le qs qs.length i hi) h
      grind
    have := rs_all0 h2 (by rw [rs_neg, hs]; rfl) i hi
    grind
end Go.Proofs.Yteoicnhnpailiaa
