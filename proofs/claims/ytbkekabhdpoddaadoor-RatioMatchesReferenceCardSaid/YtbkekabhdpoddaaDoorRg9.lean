/- The walk of the reference's Parse at every text, and that it gives what ratio.Parse gives. -/
import Derived.Test.YtbkekabhdpoddaaDoorRg8
namespace Go.Proofs.YtbkekabhdpoddaaDoor
open Go.RowKit

/-- the numerator that the text before the sign of division means -/
def rN (x : List UInt8) : Int := if x.head? = some 45 then -(numV (x.drop 1) : Int) else numV x
theorem goN_zero : ∀ (l : List UInt8) (m : Nat), goN m l = 0 ∨ m * 10 ^ l.length ≤ goN m l
  | [], m => by simp [goN]
  | c :: l, m => by
    unfold goN
    split
    · rcases goN_zero l (10 * m + (c.toNat - 48)) with h | h
      · exact .inl h
      · refine .inr (Nat.le_trans ?_ h)
        rw [List.length_cons, Nat.pow_succ, ← Nat.mul_assoc, Nat.mul_right_comm]
        refine Nat.mul_le_mul_right _ ?_
        omega
    · exact .inl rfl
theorem goN_lt : ∀ (l : List UInt8) (m : Nat), goN m l < (m + 1) * 10 ^ l.length
  | [], m => by simp [goN]
  | c :: l, m => by
    unfold goN
    split
    · refine Nat.lt_of_lt_of_le (goN_lt l _) ?_
      rw [List.length_cons, Nat.pow_succ, Nat.mul_comm (10 ^ l.length) 10, ← Nat.mul_assoc]
      refine Nat.mul_le_mul_right _ ?_
      omega
    · exact Nat.mul_pos (by omega) (Nat.pow_pos (by omega))
theorem numV_lt (l : List UInt8) : numV l < 10 ^ 13 := by
  unfold numV
  split
  · omega
  · have h := goN_lt l 0
    have : 10 ^ l.length ≤ 10 ^ 13 := Nat.pow_le_pow_right (by omega) (by omega)
    omega
theorem rN_bd (x : List UInt8) : B64 (rN x) := by
  unfold rN
  have h1 := numV_lt x
  have h2 := numV_lt (x.drop 1)
  split <;> constructor <;> omega
theorem goN_app (l r : List UInt8) (m : Nat) (h : ∀ c ∈ l, 48 ≤ c.toNat ∧ c.toNat ≤ 57) : goN m (l ++ r) = goN (goN m l) r := by
  induction l generalizing m with
  | nil => rfl
  | cons c l ih =>
    have hc := h c (List.mem_cons_self ..)
    rw [List.cons_append, goN, if_pos hc, goN, if_pos hc]
    exact ih _ fun d hd => h d (List.mem_cons_of_mem _ hd)
theorem goN_dec (u : Nat) : goN 0 (Lib.decDigits u) = u := by
  induction u using Nat.strongRecOn with
  | _ u ih =>
    rw [Lib.decDigits]
    split
    · rename_i h
      rw [goN, if_pos (by rw [dig_byte h]; omega), goN, dig_byte h]; omega
    · rename_i h
      rw [goN_app _ _ _ (dec_dig _), ih (u / 10) (by omega), goN, if_pos (by rw [dig_byte (by omega)]; omega), goN, dig_byte (by omega)]
      omega
theorem numV_dec (u : Nat) (h : u < 10 ^ 13) : numV (Lib.decDigits u) = u := by
  unfold numV
  rw [if_neg (by rw [Lib.decDigits_length]; have := nd_le u 13 h (by omega); omega), goN_dec]
theorem rN_itoa (n : Int) (h : n.natAbs < 10 ^ 13) : rN (Lib.itoa n) = n := by
  unfold Lib.itoa
  split
  · rename_i hn
    unfold rN
    rw [if_pos (by rfl)]
    show -((numV (Lib.decDigits n.natAbs) : Nat) : Int) = n
    rw [numV_dec _ h]; omega
  · rename_i hn
    have hd := dec_dig n.toNat
    have hne := dec_ne n.toNat
    have hv := numV_dec n.toNat (by omega)
    generalize Lib.decDigits n.toNat = l at hd hne hv
    cases l with
    | nil => exact absurd rfl hne
    | cons c r =>
      have hc := hd c (List.mem_cons_self ..)
      unfold rN
      rw [if_neg (by simp only [List.head?_cons, Option.some.injEq]; rintro rfl; simp at hc), hv]; omega
theorem prs_ref (l x y : List UInt8) (f : Bool) (hc : Lib.cut l [47] = (x, y, f)) :
    prs l = if l ≠ [] ∧ txtO (rN x) (if f then (numV y : Int) else 1) = l then some (rN x, if f then (numV y : Int) else 1) else none := by
  obtain ⟨D, hD⟩ : ∃ D : Int, (if f then (numV y : Int) else 1) = D := ⟨_, rfl⟩
  rw [hD]
  by_cases h : l ≠ [] ∧ txtO (rN x) D = l
  · rw [if_pos h]
    have hv : vld (rN x) D = true := by
      cases hv : vld (rN x) D with
      | true => rfl
      | false => rw [txtO_no hv] at h; exact absurd h.2.symm h.1
    have := prs_txt hv
    rwa [h.2] at this
  · rw [if_neg h]
    cases hp : prs l with
    | none => rfl
    | some z =>
      obtain ⟨n, d⟩ := z
      exfalso
      obtain ⟨hv, ht⟩ := prs_some hp
      obtain ⟨h1, h2, h3, h4, _⟩ := vld_of hv
      have e := txtO_yes hv
      rw [ht] at e
      refine h ⟨fun h0 => itoa_ne n (List.append_eq_nil_iff.1 (e.symm.trans h0)).1, ?_⟩
      by_cases hd : d = 1
      · rw [if_pos hd, List.append_nil] at e
        rw [e, cut_no _ (itoa_no47 n)] at hc
        injection hc with a hc
        injection hc with b c
        subst a c
        rw [if_neg (by simp)] at hD
        rw [rN_itoa n (by omega), ← hD]
        subst hd
        exact ht
      · rw [if_neg hd] at e
        rw [e, cut_at _ _ (itoa_no47 n)] at hc
        injection hc with a hc
        injection hc with b c
        subst a b c
        have hi : numV (Lib.itoa d) = d.toNat := by unfold Lib.itoa; rw [if_neg (by omega)]; exact numV_dec _ (by omega)
        rw [if_pos rfl, hi, show ((d.toNat : Nat) : Int) = d by omega] at hD
        rw [rN_itoa n (by omega), ← hD]
        exact ht
theorem ext_list (s : ByteArray) (i j : Nat) : (s.extract i j).data.toList = (s.data.toList.take j).drop i := by
  simp [ByteArray.data_extract, Array.toList_extract, List.extract]
  rw [List.drop_take]
theorem num_q (t : ByteArray) (W : World) (v : Int) (hs : t.size ≤ 281474976710656) (hv : (numV t.data.toList : Int) = v) : Calls Tryd.prog 50 #[.string t] W fun e w' => e = .returned (.int .i64 v) ∧ w' = W := hv ▸ num_any t W hs
end Go.Proofs.YtbkekabhdpoddaaDoor
