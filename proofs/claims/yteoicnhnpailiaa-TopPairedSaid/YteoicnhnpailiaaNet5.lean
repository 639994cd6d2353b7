/- Plain: the nets and the pairs of valid debts are valid, keep the positions, and are netted to themselves. -/
import Derived.Test.YteoicnhnpailiaaNet4
namespace Go.Proofs.Yteoicnhnpailiaa

theorem validD_of {p : Nat} {l : List Db} (h : validD p l = true) : 1 ≤ p ∧ p ≤ 12 ∧ l.length ≤ 400 := by
  simp only [validD, Bool.and_eq_true, decide_eq_true_eq] at h; omega
theorem validD_mk {p : Nat} {l : List Db} (h : 1 ≤ p ∧ p ≤ 12 ∧ l.length ≤ 400) (h1 : ∀ x ∈ l, okD p x = true) : validD p l = true := by
  simp only [validD, Bool.and_eq_true, decide_eq_true_eq, List.all_eq_true]; exact ⟨by omega, h1⟩
theorem posF_inR' {l : List Db} : ∀ {k : Nat} {qs : List Rat}, posF l k = some qs → ∀ q ∈ qs, inR q = true
  | 0, qs, h => by simp only [posF, Option.some.injEq] at h; subst h; simp
  | k + 1, qs, h => by
    simp only [posF] at h
    split at h
    · cases h
    · rename_i qs' h'
      split at h
      · rename_i s hs
        simp only [Option.some.injEq] at h
        subst h
        intro q hq
        rcases List.mem_append.1 hq with hq | hq
        · exact posF_inR' h' q hq
        · rw [List.mem_singleton] at hq; subst hq; exact totF_inR hs
      · cases h

/-- what netting among all parties gives -/
structure NetOk (p : Nat) (qs : List Rat) (ms : List Db) : Prop where
  valid : validD p ms = true
  pos : ∀ i, i < p → pv ms i = at0 qs i
  few : ms = [] ∨ ms.length + 1 ≤ nz qs
  sign : ∀ x ∈ ms, ∃ a b : Nat, x.f = a ∧ x.t = b ∧ at0 qs a < 0 ∧ 0 < at0 qs b
  none0 : ms = [] → nz qs = 0
theorem net_ok {p : Nat} {l : List Db} {qs : List Rat} {ms : List Db} (hv : validD p l = true) (hq : posF l p = some qs) (hn : netF (p + 1) qs [] = some ms) : NetOk p qs ms := by
  have hl := posF_len hq
  have hi := posF_inR' hq
  have hb := validD_of hv
  have hz := nz_le qs
  obtain ⟨ms', qs', e, hR, hst⟩ := netF_R (by omega) hn
  rw [List.nil_append] at e
  subst e
  have hok := hR.ok hi
  rw [hl] at hok
  have hlen := hR.len
  have h0 : rs (at0 qs') p = 0 := by
    have h1 : rs (at0 qs) p = 0 := by rw [rs_congr (posF_val hq)]; exact pv_sum (validD_mem hv)
    have h2 : rs (pv ms) p = 0 := pv_sum hok
    have h3 : rs (at0 qs) p = rs (at0 qs') p + rs (pv ms) p := by rw [← rs_add]; exact rs_congr fun i _ => hR.val i
    grind
  have hall := stop_zero hst (by rw [hlen, hl]; exact h0)
  rw [hlen, hl] at hall
  refine ⟨validD_mk ⟨hb.1, hb.2.1, ?_⟩ hok, fun i hi => ?_, hR.few, hR.sign, fun e => ?_⟩
  · rcases hR.few with h | h
    · rw [h]; simp
    · omega
  · have h1 := hR.val i
    have h2 := hall i hi
    grind
  · subst e
    have hz : qs' = qs := by cases hR; rfl
    subst hz
    unfold nz
    rw [List.length_eq_zero_iff, List.filter_eq_nil_iff]
    intro q hm
    obtain ⟨i, hi', rfl⟩ := List.getElem_of_mem hm
    have := hall i (by omega)
    rw [at0_lt hi'] at this
    simp [this]
theorem pos_again {p : Nat} {l ms : List Db} {qs r : List Rat} (hq : posF l p = some qs) (hr : posF ms p = some r) (hp : ∀ i, i < p → pv ms i = pv l i) : r = qs := by
  have h1 := posF_len hq
  have h2 := posF_len hr
  refine at0_ext (by omega) fun i hi => ?_
  rw [posF_val hr i (by omega), posF_val hq i (by omega), hp i (by omega)]
theorem net_pos {p : Nat} {l : List Db} {qs : List Rat} {ms : List Db} (hq : posF l p = some qs) (h : NetOk p qs ms) : ∀ i, i < p → pv ms i = pv l i := fun i hi => by rw [h.pos i hi, posF_val hq i hi]

/- pairs -/
theorem sm_append_tv (sg : Db → Int) (l m : List Db) : tv sg (l ++ m) = tv sg l + tv sg m := sm_append _ l m
theorem qOf_mk (a b : Int) (s : Rat) : qOf ⟨a, b, s.num, s.den⟩ = s := by simp only [qOf, Rat.num_divInt_den]
theorem qOf_neg (a b : Int) (s : Rat) : qOf ⟨a, b, -s.num, s.den⟩ = -s := by
  simp only [qOf, ← Rat.neg_divInt, Rat.num_divInt_den]
theorem num_neg' {q : Rat} (h : q.num < 0) : q < 0 := by
  have := Rat.num_nonneg (q := q)
  rcases Rat.not_le.1 (fun h2 => by have := this.2 h2; omega) with h3
  exact h3
theorem num_zero' {q : Rat} (h : q.num = 0) : q = 0 := Rat.num_eq_zero.1 h
/-- what a pair's debt changes for a party -/
def gAB (l : List Db) (i a b : Nat) : Rat := if i = b then tv (sgAB a b) l else if i = a then -tv (sgAB a b) l else 0
theorem prD_pv {a b : Nat} (hab : a ≠ b) (s : Rat) (i : Nat) : pv (prD a b s) i = if i = b then s else if i = a then -s else 0 := by
  rcases Int.lt_trichotomy s.num 0 with h | h | h
  · rw [prD_neg h, pv, tv, sm, sm, qOf_neg]
    unfold sgP
    by_cases e1 : i = b
    · have : ¬ ((a : Int) = (i : Int)) := by omega
      simp only [e1, if_true, show ¬ ((a : Int) = (b : Int)) by omega, if_false]
      rw [show ((-1 : Int) : Rat) = -1 from rfl]; grind
    · by_cases e2 : i = a
      · simp only [e1, e2, if_true, if_false, hab]
        rw [show ((1 : Int) : Rat) = 1 from rfl]; grind
      · simp only [e1, e2, if_false, show ¬ ((a : Int) = (i : Int)) by omega, show ¬ ((b : Int) = (i : Int)) by omega]
        rw [show ((0 : Int) : Rat) = 0 from rfl]; grind
  · rw [prD_zero h, num_zero' h]; simp [pv, tv, sm]
  · rw [prD_pos h, pv, tv, sm, sm, qOf_mk]
    unfold sgP
    by_cases e1 : i = b
    · simp only [e1, if_true]
      rw [show ((1 : Int) : Rat) = 1 from rfl]; grind
    · by_cases e2 : i = a
      · simp only [e2, if_true, show ¬ ((b : Int) = (a : Int)) by omega, if_false, hab]
        rw [show ((-1 : Int) : Rat) = -1 from rfl]; grind
      · simp only [e1, e2, if_false, show ¬ ((a : Int) = (i : Int)) by omega, show ¬ ((b : Int) = (i : Int)) by omega]
        rw [show ((0 : Int) : Rat) = 0 from rfl]; grind
theorem rowF_pv {l : List Db} {a : Nat} (i : Nat) : ∀ {m : Nat} {ys : List Db}, rowF l a m = some ys → pv ys i = rs (fun m => gAB l i a (a + 1 + m)) m
  | 0, ys, h => by simp only [rowF, Option.some.injEq] at h; subst h; simp [pv, tv, sm, rs]
  | m + 1, ys, h => by
    simp only [rowF] at h
    split at h
    · cases h
    · rename_i ys' h'
      split at h
      · rename_i s hs
        simp only [Option.some.injEq] at h
        subst h
        rw [pv, sm_append_tv, ← pv, ← pv, rowF_pv i h', rs, prD_pv (by omega), totF_val hs]; rfl
      · cases h
theorem prF_pv {l : List Db} {p : Nat} (i : Nat) : ∀ {k : Nat} {ys : List Db}, prF l p k = some ys → pv ys i = rs (fun a => rs (fun m => gAB l i a (a + 1 + m)) (p - (a + 1))) k
  | 0, ys, h => by simp only [prF, Option.some.injEq] at h; subst h; simp [pv, tv, sm, rs]
  | k + 1, ys, h => by
    simp only [prF] at h
    split at h
    · cases h
    · rename_i ys' h'
      split at h
      · rename_i zs hz
        simp only [Option.some.injEq] at h
        subst h
        rw [pv, sm_append_tv, ← pv, ← pv, prF_pv i h', rs, rowF_pv i hz]
      · cases h
theorem gAB_sm (l : List Db) (i a b : Nat) : gAB l i a b = sm (fun x => ((if i = b then sgAB a b x else if i = a then -sgAB a b x else 0 : Int) : Rat) * qOf x) l := by
  unfold gAB
  by_cases e1 : i = b
  · simp only [e1, if_true]; rfl
  · by_cases e2 : i = a
    · simp only [e2, if_true]
      by_cases e3 : a = b
      · simp only [e3, if_true]; rfl
      · simp only [e3, if_false]
        rw [tv, ← sm_neg]
        refine sm_congr fun x _ => ?_
        rw [Rat.intCast_neg]; grind
    · simp only [e1, e2, if_false]
      rw [sm_zero fun x _ => ?_]
      rw [show ((0 : Int) : Rat) = 0 from rfl]; grind
def gx (x : Db) (i a b : Nat) : Rat := ((if i = b then sgAB a b x else if i = a then -sgAB a b x else 0 : Int) : Rat) * qOf x
theorem gx_sum {p : Nat} {x : Db} (h : okD p x = true) (i : Nat) : rs (fun a => rs (fun m => gx x i a (a + 1 + m)) (p - (a + 1))) p = (sgP i x : Rat) * qOf x := by
  obtain ⟨f, t, hf, ht, h1, h2, h3⟩ := okD_ne h
  have z : ∀ a b : Nat, a < b → ¬ ((f = a ∧ t = b) ∨ (f = b ∧ t = a)) → gx x i a b = 0 := by
    intro a b hab hn
    have : sgAB a b x = 0 := by
      unfold sgAB
      rw [hf, ht, if_neg (by omega), if_neg (by omega)]
    unfold gx
    rw [this]
    have e : (if i = b then (0 : Int) else if i = a then -0 else 0) = 0 := by simp
    rw [e, show ((0 : Int) : Rat) = 0 from rfl]; grind
  rcases Nat.lt_or_gt_of_ne h3 with hlt | hgt
  · rw [rs_one h1 (fun a ha hn => rs_zero fun m hm => z a (a + 1 + m) (by omega) (by omega)), rs_one (k := t - (f + 1)) (by omega) (fun m hm hn => z f (f + 1 + m) (by omega) (by omega)), show f + 1 + (t - (f + 1)) = t by omega]
    have e : (if i = t then sgAB f t x else if i = f then -sgAB f t x else 0) = sgP i x := by
      have e0 : sgAB f t x = 1 := by unfold sgAB; rw [if_pos ⟨hf, ht⟩]
      rw [e0, sgP, hf, ht]
      by_cases e1 : i = t
      · simp [e1]
      · by_cases e2 : i = f
        · simp [e2, show ¬ ((t : Int) = (f : Int)) by omega, show ¬ f = t by omega]
        · simp [e1, e2, show ¬ ((t : Int) = (i : Int)) by omega, show ¬ ((f : Int) = (i : Int)) by omega]
    rw [gx, e]
  · rw [rs_one h2 (fun a ha hn => rs_zero fun m hm => z a (a + 1 + m) (by omega) (by omega)), rs_one (k := f - (t + 1)) (by omega) (fun m hm hn => z t (t + 1 + m) (by omega) (by omega)), show t + 1 + (f - (t + 1)) = f by omega]
    have e : (if i = f then sgAB t f x else if i = t then -sgAB t f x else 0) = sgP i x := by
      have e0 : sgAB t f x = -1 := by unfold sgAB; rw [if_neg (by omega), if_pos ⟨hf, ht⟩]
      rw [e0, sgP, hf, ht]
      by_cases e1 : i = f
      · simp [e1, show ¬ ((t : Int) = (f : Int)) by omega]
      · by_cases e2 : i = t
        · simp [e2, show ¬ t = f by omega]
        · simp [e1, e2, show ¬ ((t : Int) = (i : Int)) by omega, show ¬ ((f : Int) = (i : Int)) by omega]
    rw [gx, e]
theorem pairs_pos {p : Nat} {l ys : List Db} (hv : ∀ x ∈ l, okD p x = true) (h : prF l p p = some ys) (i : Nat) : pv ys i = pv l i := by
  rw [prF_pv i h]
  have e : ∀ a : Nat, rs (fun m => gAB l i a (a + 1 + m)) (p - (a + 1)) = sm (fun x => rs (fun m => gx x i a (a + 1 + m)) (p - (a + 1))) l := by
    intro a
    rw [← rs_sm (fun m x => gx x i a (a + 1 + m))]
    exact rs_congr fun m _ => gAB_sm l i a (a + 1 + m)
  rw [rs_congr fun a _ => e a, rs_sm (fun a x => rs (fun m => gx x i a (a + 1 + m)) (p - (a + 1)))]
  exact sm_congr fun x hx => gx_sum (hv x hx) i

/-- the order of pairs -/
def ordD (x y : Db) : Prop := min x.f x.t < min y.f y.t ∨ (min x.f x.t = min y.f y.t ∧ max x.f x.t < max y.f y.t)
theorem prD_mem {a b : Nat} {s : Rat} (hab : a < b) (hs : inR s = true) : ∀ x ∈ prD a b s, min x.f x.t = a ∧ max x.f x.t = b ∧ ∀ p : Nat, b < p → okD p x = true := by
  intro x hx
  have hb := inR_bd hs
  rcases Int.lt_trichotomy s.num 0 with h | h | h
  · rw [prD_neg h, List.mem_singleton] at hx
    subst hx
    refine ⟨by simp; omega, by simp; omega, fun p hp => okD_mk ⟨⟨by simp, by simp; omega, by simp, by simp; omega, by simp; omega⟩, ?_, by simp; omega⟩⟩
    have := inR_vld (inR_neg hs)
    rwa [Rat.neg_num, Rat.neg_den] at this
  · rw [prD_zero h] at hx; cases hx
  · rw [prD_pos h, List.mem_singleton] at hx
    subst hx
    exact ⟨by simp; omega, by simp; omega, fun p hp => okD_mk ⟨⟨by simp, by simp; omega, by simp, by simp; omega, by simp; omega⟩, inR_vld hs, h⟩⟩
theorem rowF_mem {l : List Db} {a : Nat} : ∀ {m : Nat} {ys : List Db}, rowF l a m = some ys → (∀ x ∈ ys, min x.f x.t = a ∧ max x.f x.t < (a + 1 + m : Nat) ∧ ∀ p : Nat, a + m < p → okD p x = true) ∧ ys.Pairwise ordD
  | 0, ys, h => by simp only [rowF, Option.some.injEq] at h; subst h; simp
  | m + 1, ys, h => by
    simp only [rowF] at h
    split at h
    · cases h
    · rename_i ys' h'
      split at h
      · rename_i s hs
        simp only [Option.some.injEq] at h
        subst h
        obtain ⟨h1, h2⟩ := rowF_mem h'
        have h3 := prD_mem (a := a) (b := a + 1 + m) (by omega) (totF_inR hs)
        refine ⟨fun x hx => ?_, ?_⟩
        · rcases List.mem_append.1 hx with hx | hx
          · obtain ⟨g1, g2, g3⟩ := h1 x hx
            exact ⟨g1, by omega, fun p hp => g3 p (by omega)⟩
          · obtain ⟨g1, g2, g3⟩ := h3 x hx
            exact ⟨g1, by omega, fun p hp => g3 p (by omega)⟩
        · refine List.pairwise_append.2 ⟨h2, ?_, fun x hx y hy => ?_⟩
          · have := prD_len a (a + 1 + m : Nat) s
            match hp : prD a (a + 1 + m : Nat) s with
            | [] => exact .nil
            | [x] => exact List.pairwise_singleton ..
            | x :: y :: r => rw [hp] at this; simp at this
          · obtain ⟨g1, g2, g3⟩ := h1 x hx
            obtain ⟨k1, k2, k3⟩ := h3 y hy
            exact .inr ⟨by omega, by omega⟩
      · cases h
theorem prF_mem {l : List Db} {p : Nat} : ∀ {k : Nat} {ys : List Db}, k ≤ p → prF l p k = some ys → (∀ x ∈ ys, min x.f x.t < k ∧ okD p x = true) ∧ ys.Pairwise ordD
  | 0, ys, _, h => by simp only [prF, Option.some.injEq] at h; subst h; simp
  | k + 1, ys, hk, h => by
    simp only [prF] at h
    split at h
    · cases h
    · rename_i ys' h'
      split at h
      · rename_i zs hz
        simp only [Option.some.injEq] at h
        subst h
        obtain ⟨h1, h2⟩ := prF_mem (by omega) h'
        obtain ⟨h3, h4⟩ := rowF_mem hz
        refine ⟨fun x hx => ?_, ?_⟩
        · rcases List.mem_append.1 hx with hx | hx
          · obtain ⟨g1, g2⟩ := h1 x hx
            exact ⟨by omega, g2⟩
          · obtain ⟨g1, g2, g3⟩ := h3 x hx
            exact ⟨by omega, g3 p (by omega)⟩
        · refine List.pairwise_append.2 ⟨h2, h4, fun x hx y hy => ?_⟩
          obtain ⟨g1, g2⟩ := h1 x hx
          obtain ⟨k1, k2, k3⟩ := h3 y hy
          exact .inl (by omega)
      · cases h
theorem pairs_valid {p : Nat} {l ys : List Db} (hv : validD p l = true) (h : prF l p p = some ys) : validD p ys = true := by
  have hb := validD_of hv
  have hl := prF_len h
  refine validD_mk ⟨hb.1, hb.2.1, ?_⟩ fun x hx => ((prF_mem (Nat.le_refl _) h).1 x hx).2
  have : p * p ≤ 12 * 12 := Nat.mul_le_mul hb.2.1 hb.2.1
  omega
theorem pairs_order {p : Nat} {l ys : List Db} (h : prF l p p = some ys) {i : Nat} {x y : Db} (hx : ys[i]? = some x) (hy : ys[i + 1]? = some y) : ordD x y := by
  have := (prF_mem (Nat.le_refl _) h).2
  obtain ⟨h1, rfl⟩ := List.getElem?_eq_some_iff.1 hx
  obtain ⟨h2, rfl⟩ := List.getElem?_eq_some_iff.1 hy
  exact List.pairwise_iff_getElem.1 this i (i + 1) h1 h2 (by omega)

/- pairs of pairs -/
theorem fold_nz (sg : Db → Int) : ∀ (l : List Db) (o : Option Rat), l.foldl (fun o x => o.bind (stepT sg x)) o = (l.filter fun x => sg x != 0).foldl (fun o x => o.bind (stepT sg x)) o
  | [], o => rfl
  | x :: l, o => by
    rw [List.foldl_cons]
    by_cases h : sg x = 0
    · have e : o.bind (stepT sg x) = o := by cases o <;> simp [stepT, h]
      rw [e, List.filter_cons, if_neg (by simp [h])]; exact fold_nz sg l o
    · rw [List.filter_cons, if_pos (by simpa using h), List.foldl_cons]; exact fold_nz sg l _
theorem sgAB_key {a b : Nat} (hab : a < b) (x : Db) : (sgAB a b x != 0) = (decide (min x.f x.t = a) && decide (max x.f x.t = b)) := by
  rw [Bool.eq_iff_iff]
  simp only [sgAB, bne_iff_ne, Bool.and_eq_true, decide_eq_true_eq, ne_eq]
  by_cases h1 : x.f = a ∧ x.t = b
  · rw [if_pos h1]; simp; omega
  · rw [if_neg h1]
    by_cases h2 : x.f = b ∧ x.t = a
    · rw [if_pos h2]; simp; omega
    · rw [if_neg h2]; simp; omega
theorem rowF_none0 {l : List Db} {a a' b m : Nat} {ys : List Db} (hab : a < b) (h : rowF l a' m = some ys) (hn : a' ≠ a) : ys.filter (fun x => sgAB a b x != 0) = [] := by
  rw [List.filter_eq_nil_iff]
  intro x hx
  have := ((rowF_mem h).1 x hx).1
  rw [sgAB_key hab]; simp; omega
theorem rowF_key {l : List Db} {a b : Nat} {s : Rat} (hs : totF (sgAB a b) l = some s) (hab : a < b) : ∀ {m : Nat} {ys : List Db}, rowF l a m = some ys → ys.filter (fun x => sgAB a b x != 0) = if b < a + 1 + m then prD a b s else []
  | 0, ys, h => by simp only [rowF, Option.some.injEq] at h; subst h; rw [if_neg (by omega)]; rfl
  | m + 1, ys, h => by
    simp only [rowF] at h
    split at h
    · cases h
    · rename_i ys' h'
      split at h
      · rename_i s' hs'
        simp only [Option.some.injEq] at h
        subst h
        have h3 := prD_mem (a := a) (b := a + 1 + m) (by omega) (totF_inR hs')
        rw [List.filter_append, rowF_key hs hab h']
        by_cases e : b = a + 1 + m
        · subst e
          rw [if_neg (by omega), if_pos (by omega), List.nil_append]
          rw [hs] at hs'
          cases hs'
          refine List.filter_eq_self.2 fun x hx => ?_
          obtain ⟨g1, g2, g3⟩ := h3 x hx
          rw [sgAB_key hab]; simp; omega
        · have hz : (prD a (a + 1 + m : Nat) s').filter (fun x => sgAB a b x != 0) = [] := by
            rw [List.filter_eq_nil_iff]
            intro x hx
            obtain ⟨g1, g2, g3⟩ := h3 x hx
            rw [sgAB_key hab]; simp; omega
          rw [hz, List.append_nil]
          by_cases e2 : b < a + 1 + m
          · rw [if_pos e2, if_pos (by omega)]
          · rw [if_neg e2, if_neg (by omega)]
      · cases h
theorem prF_key {l : List Db} {a b p : Nat} {s : Rat} (hs : totF (sgAB a b) l = some s) (hab : a < b) (hb : b < p) : ∀ {k : Nat} {ys : List Db}, prF l p k = some ys → ys.filter (fun x => sgAB a b x != 0) = if a < k then prD a b s else []
  | 0, ys, h => by simp only [prF, Option.some.injEq] at h; subst h; rw [if_neg (by omega)]; rfl
  | k + 1, ys, h => by
    simp only [prF] at h
    split at h
    · cases h
    · rename_i ys' h'
      split at h
      · rename_i zs hz
        simp only [Option.some.injEq] at h
        subst h
        rw [List.filter_append, prF_key hs hab hb h']
        by_cases e : a = k
        · subst e
          rw [rowF_key hs hab hz, if_neg (by omega), if_pos (by omega), if_pos (by omega), List.nil_append]
        · rw [rowF_none0 hab hz (by omega), List.append_nil]
          by_cases e2 : a < k
          · rw [if_pos e2, if_pos (by omega)]
          · rw [if_neg e2, if_neg (by omega)]
      · cases h
theorem prD_tot {a b : Nat} {s : Rat} (hab : a < b) (hs : inR s = true) : totF (sgAB a b) (prD a b s) = some s := by
  rcases Int.lt_trichotomy s.num 0 with h | h | h
  · rw [prD_neg h, totF, List.foldl_cons, List.foldl_nil, Option.bind_some, stepT, qOf_neg]
    have e : sgAB a b ⟨b, a, -s.num, s.den⟩ = -1 := by unfold sgAB; rw [if_neg (by simp; omega), if_pos ⟨rfl, rfl⟩]
    rw [e, if_neg (by decide), show ((-1 : Int) : Rat) = -1 from rfl, show 0 + -1 * -s = s by grind, if_pos hs]
  · rw [prD_zero h, num_zero' h]; rfl
  · rw [prD_pos h, totF, List.foldl_cons, List.foldl_nil, Option.bind_some, stepT, qOf_mk]
    have e : sgAB a b ⟨a, b, s.num, s.den⟩ = 1 := by unfold sgAB; rw [if_pos ⟨rfl, rfl⟩]
    rw [e, if_neg (by decide), show ((1 : Int) : Rat) = 1 from rfl, show 0 + 1 * s = s by grind, if_pos hs]
theorem pairs_tot {l ys : List Db} {a b p : Nat} (h : prF l p p = some ys) (hab : a < b) (hb : b < p) : totF (sgAB a b) ys = totF (sgAB a b) l := by
  cases hs : totF (sgAB a b) l with
  | none => rw [prF_bad hab hb hs] at h; cases h
  | some s =>
    have hk := prF_key hs hab hb h
    rw [if_pos (by omega)] at hk
    rw [totF, fold_nz, hk, ← prD_tot hab (totF_inR hs), totF]
theorem rowF_same {l l' : List Db} {a : Nat} : ∀ {m : Nat}, (∀ j, j < m → totF (sgAB a (a + 1 + j : Nat)) l' = totF (sgAB a (a + 1 + j : Nat)) l) → rowF l' a m = rowF l a m
  | 0, _ => rfl
  | m + 1, h => by simp only [rowF]; rw [rowF_same fun j hj => h j (by omega), h m (by omega)]
theorem prF_same {l l' : List Db} {p : Nat} (h : ∀ a b : Nat, a < b → b < p → totF (sgAB a b) l' = totF (sgAB a b) l) : ∀ {k : Nat}, prF l' p k = prF l p k
  | 0 => rfl
  | k + 1 => by simp only [prF]; rw [prF_same h, rowF_same fun j hj => h k (k + 1 + j) (by omega) (by omega)]
theorem pairs_again {p : Nat} {l ys : List Db} (h : prF l p p = some ys) : prF ys p p = some ys := by
  rw [prF_same fun a b hab hb => pairs_tot h hab hb]; exact h

/- the opposite order -/
theorem validD_reverse {p : Int} {l : List Db} : validD p l.reverse = validD p l := by simp [validD]
theorem pos_reverse {p : Nat} {l : List Db} {qs r : List Rat} (h : posF l p = some qs) (hr : posF l.reverse p = some r) : r = qs :=
  pos_again h hr fun i _ => sm_reverse _ l
theorem tot_reverse {sg : Db → Int} {l : List Db} {s r : Rat} (h : totF sg l = some s) (hr : totF sg l.reverse = some r) : r = s := by
  rw [totF_val h, totF_val hr]; exact sm_reverse _ l
theorem row_reverse {l : List Db} {a : Nat} : ∀ {m : Nat} {ys zs : List Db}, rowF l a m = some ys → rowF l.reverse a m = some zs → zs = ys
  | 0, ys, zs, h, h' => by simp only [rowF, Option.some.injEq] at h h'; rw [← h, ← h']
  | m + 1, ys, zs, h, h' => by
    simp only [rowF] at h h'
    split at h
    · cases h
    · rename_i y1 e1
      split at h
      · rename_i s1 t1
        split at h'
        · cases h'
        · rename_i y2 e2
          split at h'
          · rename_i s2 t2
            simp only [Option.some.injEq] at h h'
            rw [← h, ← h', row_reverse e1 e2, tot_reverse t1 t2]
          · cases h'
      · cases h
theorem pr_reverse {l : List Db} {p : Nat} : ∀ {k : Nat} {ys zs : List Db}, prF l p k = some ys → prF l.reverse p k = some zs → zs = ys
  | 0, ys, zs, h, h' => by simp only [prF, Option.some.injEq] at h h'; rw [← h, ← h']
  | k + 1, ys, zs, h, h' => by
    simp only [prF] at h h'
    split at h
    · cases h
    · rename_i y1 e1
      split at h
      · rename_i s1 t1
        split at h'
        · cases h'
        · rename_i y2 e2
          split at h'
          · rename_i s2 t2
            simp only [Option.some.injEq] at h h'
            rw [← h, ← h', pr_reverse e1 e2, row_reverse t1 t2]
          · cases h'
      · cases h
end Go.Proofs.Yteoicnhnpailiaa
