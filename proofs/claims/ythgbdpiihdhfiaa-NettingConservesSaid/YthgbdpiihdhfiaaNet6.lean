/- Plain: what the nets come to: half of the absolute values of all positions, and not more than the debts. -/
import Derived.Test.YthgbdpiihdhfiaaNet5
namespace Go.Proofs.Ythgbdpiihdhfiaa

/-- the absolute value; a sum of absolute values, as long as it is in range -/
def ab (q : Rat) : Rat := if q < 0 then -q else q
def stA (q : Rat) (s : Rat) : Option Rat := if inR (s + ab q) then some (s + ab q) else none
def totA (l : List Rat) : Option Rat := l.foldl (fun o q => o.bind (stA q)) (some 0)
theorem ab_nonneg (q : Rat) : 0 ≤ ab q := by unfold ab; split <;> grind
theorem ab_pos {q : Rat} (h : 0 ≤ q) : ab q = q := by unfold ab; rw [if_neg (Rat.not_lt.2 h)]
theorem ab_num_neg {q : Rat} (h : q.num < 0) : ab q = -q := by rw [ab, if_pos (num_neg' h)]
theorem ab_num_pos {q : Rat} (h : ¬ q.num < 0) : ab q = q := ab_pos (Rat.num_nonneg.1 (by omega))
theorem ab_inR {q : Rat} (h : inR q = true) : inR (ab q) = true := by unfold ab; split; exact inR_neg h; exact h
theorem foldA_none (l : List Rat) : l.foldl (fun o q => o.bind (stA q)) none = none := by
  induction l with
  | nil => rfl
  | cons a r ih => exact ih
theorem totA_none {l : List Rat} {k : Nat} (h : totA (l.take k) = none) : totA l = none := by
  rw [← List.take_append_drop k l, totA, List.foldl_append]
  rw [totA] at h
  rw [h]; exact foldA_none _
theorem totA_take {l : List Rat} {k : Nat} {q : Rat} (hx : l[k]? = some q) : totA (l.take (k + 1)) = (totA (l.take k)).bind (stA q) := by
  obtain ⟨hk, rfl⟩ := List.getElem?_eq_some_iff.1 hx
  rw [List.take_succ_eq_append_getElem hk, totA, totA, List.foldl_append]; rfl
theorem foldA_val : ∀ (l : List Rat) (s r : Rat), l.foldl (fun o q => o.bind (stA q)) (some s) = some r → r = s + sm ab l
  | [], s, r, h => by simp only [List.foldl_nil, Option.some.injEq] at h; subst h; simp [sm, Rat.add_zero]
  | x :: l, s, r, h => by
    simp only [List.foldl_cons, Option.bind_some] at h
    cases hx : stA x s with
    | none => rw [hx, foldA_none] at h; cases h
    | some s' =>
      rw [hx] at h
      have h1 := foldA_val l s' r h
      unfold stA at hx
      split at hx
      · cases hx; rw [h1, sm, Rat.add_assoc]
      · cases hx
theorem totA_val {l : List Rat} {s : Rat} (h : totA l = some s) : s = sm ab l := by
  have := foldA_val l 0 s h
  rwa [Rat.zero_add] at this
theorem totA_inR : ∀ {l : List Rat} {s r : Rat}, inR s = true → l.foldl (fun o q => o.bind (stA q)) (some s) = some r → inR r = true
  | [], s, r, hs, h => by simp only [List.foldl_nil, Option.some.injEq] at h; subst h; exact hs
  | x :: l, s, r, hs, h => by
    simp only [List.foldl_cons, Option.bind_some] at h
    cases hx : stA x s with
    | none => rw [hx, foldA_none] at h; cases h
    | some s' =>
      rw [hx] at h
      refine totA_inR ?_ h
      unfold stA at hx
      split at hx
      · cases hx; assumption
      · cases hx
theorem totA_inR' {l : List Rat} {r : Rat} (h : totA l = some r) : inR r = true := totA_inR (s := 0) (by decide) h

theorem rs_succ' (f : Nat → Rat) (n : Nat) : rs f (n + 1) = f 0 + rs (fun i => f (i + 1)) n := by
  induction n with
  | zero => simp only [rs]; grind
  | succ n ih => rw [rs, ih, rs]; grind
theorem sm_rs (f : Rat → Rat) : ∀ qs : List Rat, sm f qs = rs (fun i => f (at0 qs i)) qs.length
  | [] => rfl
  | x :: r => by
    rw [List.length_cons, rs_succ', sm, sm_rs f r]
    rfl
theorem NetR.abs {qs qs' : List Rat} {ms : List Db} (h : NetR qs ms qs') : sm ab qs = sm ab qs' + (sm qOf ms + sm qOf ms) := by
  induction h with
  | stop => simp only [sm]; grind
  | @step qs qs' ms h h1 h2 h3 ih =>
    obtain ⟨g1, g2, g3, g4, g5, g6⟩ := stop_no h
    obtain ⟨n1, n2, n3⟩ := nxt_at h
    obtain ⟨a1, a2⟩ := amt_le (qs := qs)
    have hp := amt_pos h
    have e : sm ab qs = sm ab (nxt qs) + (amt qs + amt qs) := by
      rw [sm_rs, sm_rs, nxt_len]
      have e1 : ∀ i, i < qs.length → ab (at0 qs i) = ab (at0 (nxt qs) i) + ((if i = minI qs qs.length then amt qs else 0) + (if i = maxI qs qs.length then amt qs else 0)) := by
        intro i _
        by_cases e1 : i = minI qs qs.length
        · have : ¬ i = maxI qs qs.length := fun e2 => g4 (e1.symm.trans e2)
          rw [if_pos e1, if_neg this, e1, n1, lft, ab, if_pos g1, ab]
          split <;> grind
        · by_cases e2 : i = maxI qs qs.length
          · rw [if_neg e1, if_pos e2, e2, n2, rgt, ab_pos (Rat.le_of_lt g2), ab_pos (by grind)]; grind
          · rw [if_neg e1, if_neg e2, n3 i e1 e2]; grind
      rw [rs_congr e1, rs_add, rs_add, rs_one g5 (fun i _ hn => if_neg hn), rs_one g6 (fun i _ hn => if_neg hn), if_pos rfl, if_pos rfl]
    rw [e, ih, sm, qOf_mv]; grind
theorem sm_map {α β : Type} (f : β → Rat) (g : α → β) (l : List α) : sm f (l.map g) = sm (fun x => f (g x)) l := by
  induction l with
  | nil => rfl
  | cons x r ih => rw [List.map_cons, sm, sm, ih]
theorem okD_pos {p : Int} {x : Db} (h : okD p x = true) : 0 ≤ qOf x := by
  obtain ⟨_, h1, h2⟩ := okD_of h
  exact Rat.num_nonneg.1 (by rw [(qOf_vld h1).1]; omega)
theorem sm_amounts {p : Int} {l : List Db} (h : ∀ x ∈ l, okD p x = true) : sm ab (l.map qOf) = sm qOf l := by
  rw [sm_map]; exact sm_congr fun x hx => ab_pos (okD_pos (h x hx))
theorem net_half {p : Nat} {l : List Db} {qs : List Rat} {ms : List Db} (hv : validD p l = true) (hq : posF l p = some qs) (hn : netF (p + 1) qs [] = some ms) : sm ab qs = sm qOf ms + sm qOf ms := by
  have hl := posF_len hq
  have hz := nz_le qs
  have hb := validD_of hv
  obtain ⟨ms', qs', e, hR, hst⟩ := netF_R (by omega) hn
  rw [List.nil_append] at e
  subst e
  have hok := hR.ok (posF_inR' hq)
  rw [hl] at hok
  have hlen := hR.len
  have h0 : rs (at0 qs') p = 0 := by
    have h1 : rs (at0 qs) p = 0 := by rw [rs_congr (posF_val hq)]; exact pv_sum (validD_mem hv)
    have h2 : rs (pv ms) p = 0 := pv_sum hok
    have h3 : rs (at0 qs) p = rs (at0 qs') p + rs (pv ms) p := by rw [← rs_add]; exact rs_congr fun i _ => hR.val i
    grind
  have hall := stop_zero hst (by rw [hlen, hl]; exact h0)
  have hz' : sm ab qs' = 0 := by
    rw [sm_rs]
    exact rs_zero fun i hi => by rw [hall i hi]; rfl
  rw [hR.abs, hz', Rat.zero_add]
theorem abs_le (a b : Rat) (h1 : a ≤ b) (h2 : -a ≤ b) : ab a ≤ b := by unfold ab; split <;> assumption
def both (x : Db) (i : Nat) : Rat := (if (i : Int) = x.t then qOf x else 0) + (if (i : Int) = x.f then qOf x else 0)
theorem pos_half {p : Nat} {l : List Db} {qs : List Rat} (hv : validD p l = true) (hq : posF l p = some qs) : sm ab qs ≤ sm qOf l + sm qOf l := by
  have hl := posF_len hq
  have hok := validD_mem hv
  have h1 : ∀ i, i < p → ab (at0 qs i) ≤ sm (fun x => both x i) l := by
    intro i hi
    rw [posF_val hq i hi]
    have e : ∀ x ∈ l, (sgP i x : Rat) * qOf x ≤ both x i ∧ -((sgP i x : Rat) * qOf x) ≤ both x i := by
      intro x hx
      have h0 := okD_pos (hok x hx)
      unfold sgP both
      by_cases e1 : x.t = (i : Int)
      · rw [if_pos e1, if_pos e1.symm, show ((1 : Int) : Rat) = 1 from rfl]
        split <;> constructor <;> grind
      · by_cases e2 : x.f = (i : Int)
        · rw [if_neg e1, if_pos e2, if_neg (fun e => e1 e.symm), if_pos e2.symm, show ((-1 : Int) : Rat) = -1 from rfl]
          constructor <;> grind
        · rw [if_neg e1, if_neg e2, if_neg (fun e => e1 e.symm), if_neg (fun e => e2 e.symm), show ((0 : Int) : Rat) = 0 from rfl]
          constructor <;> grind
    refine abs_le _ _ (sm_le fun x hx => (e x hx).1) ?_
    rw [pv, tv, ← sm_neg]
    exact sm_le fun x hx => (e x hx).2
  rw [sm_rs, hl]
  refine Rat.le_trans (rs_le h1) ?_
  rw [rs_sm (fun i x => both x i), ← sm_add]
  refine sm_le fun x hx => ?_
  obtain ⟨a, b, ha, hb, l1, l2, _⟩ := okD_ne (hok x hx)
  have e : rs (fun i => both x i) p = qOf x + qOf x := by
    unfold both
    rw [rs_add, rs_one l2 (fun i _ hn => if_neg (by omega)), rs_one l1 (fun i _ hn => if_neg (by omega)), if_pos (by omega), if_pos (by omega)]
  rw [e]; exact Rat.le_refl
theorem net_less {p : Nat} {l : List Db} {qs : List Rat} {ms : List Db} {t b : Rat} (hv : validD p l = true) (hq : posF l p = some qs) (hn : netF (p + 1) qs [] = some ms) (ht : totA (ms.map qOf) = some t) (hb : totA (l.map qOf) = some b) : t ≤ b := by
  have h1 := net_half hv hq hn
  have h2 := pos_half hv hq
  have h3 := totA_val ht
  have h4 := totA_val hb
  rw [sm_amounts (validD_mem hv)] at h4
  rw [sm_amounts (validD_mem (net_ok hv hq hn).valid)] at h3
  grind
theorem net_halves {p : Nat} {l : List Db} {qs : List Rat} {ms : List Db} {t u : Rat} (hv : validD p l = true) (hq : posF l p = some qs) (hn : netF (p + 1) qs [] = some ms) (ht : totA (ms.map qOf) = some t) (hu : totA qs = some u) : t = u / 2 := by
  have h1 := net_half hv hq hn
  have h3 := totA_val ht
  have h4 := totA_val hu
  rw [sm_amounts (validD_mem (net_ok hv hq hn).valid)] at h3
  grind
end Go.Proofs.Ythgbdpiihdhfiaa
