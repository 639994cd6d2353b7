/- The list of faults as a plain walk over the things; when it is empty, when it is one fault, in which order it comes. -/
import Derived.Test.YtcfjehohemdanaaDoorTa1
namespace Go.Proofs.YtcfjehohemdanaaDoor

section
variable {α β : Type} {e : Nat → α → Int} {p : α → Int} {e' : Nat → β → Int} {p' : β → Int}
/-- the faults of a list of things, the first of which has the number k -/
def gx (e : Nat → α → Int) (p : α → Int) : Nat → List α → List (Int × Int)
  | _, [] => []
  | k, a :: l => flt (e k a) (p a) ++ gx e p (k + 1) l
theorem gx_zip (l : List α) (k : Nat) : ((l.zipIdx k).flatMap fun x => flt (e x.2 x.1) (p x.1)) = gx e p k l := by
  induction l generalizing k with
  | nil => rfl
  | cons a l ih => simp only [List.zipIdx_cons, List.flatMap_cons, gx, ih]
theorem gx_flat (f : α → Int) (l : List α) (k : Nat) : (l.flatMap fun a => flt (f a) (p a)) = gx (fun _ a => f a) p k l := by
  induction l generalizing k with
  | nil => rfl
  | cons a l ih => simp only [List.flatMap_cons, gx, ← ih]
theorem flt_nil {x y : Int} : flt x y = [] ↔ x = 0 := by unfold flt; split <;> simp_all
theorem flt_mem {x y : Int} {z : Int × Int} (h : z ∈ flt x y) : z = (x, y) ∧ x ≠ 0 := by unfold flt at h; split at h <;> simp_all
theorem flt_len (x y : Int) : (flt x y).length ≤ 1 := by unfold flt; split <;> simp
theorem gx_len (l : List α) (k : Nat) : (gx e p k l).length ≤ l.length := by
  induction l generalizing k with
  | nil => simp [gx]
  | cons a l ih =>
    have := ih (k + 1)
    have := flt_len (e k a) (p a)
    simp only [gx, List.length_append, List.length_cons]; omega
theorem gx_nil {l : List α} {k : Nat} : gx e p k l = [] ↔ ∀ (i : Nat) a, l[i]? = some a → e (k + i) a = 0 := by
  induction l generalizing k with
  | nil => simp [gx]
  | cons b l ih =>
    simp only [gx, List.append_eq_nil_iff, flt_nil, ih]
    constructor
    · rintro ⟨h1, h2⟩ i a ha
      cases i with
      | zero => simp at ha; subst ha; exact h1
      | succ i => simp at ha; have := h2 i a ha; rwa [show k + 1 + i = k + (i + 1) by omega] at this
    · intro h
      refine ⟨h 0 b (by simp), fun i a ha => ?_⟩
      have := h (i + 1) a (by simpa using ha)
      rwa [show k + (i + 1) = k + 1 + i by omega] at this
theorem gx_congr {l : List α} {m : List β} {k : Nat} (hl : l.length = m.length) (h : ∀ (i : Nat) a b, l[i]? = some a → m[i]? = some b → flt (e (k + i) a) (p a) = flt (e' (k + i) b) (p' b)) : gx e p k l = gx e' p' k m := by
  induction l generalizing m k with
  | nil =>
    obtain rfl : m = [] := List.eq_nil_of_length_eq_zero hl.symm
    rfl
  | cons a l ih =>
    cases m with
    | nil => simp at hl
    | cons b m =>
      simp only [gx]
      have h00 : flt (e k a) (p a) = flt (e' k b) (p' b) := h 0 a b (by simp) (by simp)
      rw [h00, ih (by simpa using hl) fun i x y hx hy => by
        have := h (i + 1) x y (by simpa using hx) (by simpa using hy)
        rwa [show k + (i + 1) = k + 1 + i by omega] at this]
theorem gx_one {l : List α} {k i : Nat} {a : α} (ha : l[i]? = some a) (h : ∀ (j : Nat) b, j ≠ i → l[j]? = some b → e (k + j) b = 0) : gx e p k l = flt (e (k + i) a) (p a) := by
  induction l generalizing k i with
  | nil => simp at ha
  | cons b l ih =>
    simp only [gx]
    cases i with
    | zero =>
      simp at ha; subst ha
      have : gx e p (k + 1) l = [] := gx_nil.2 fun j x hx => by
        have := h (j + 1) x (by omega) (by simpa using hx)
        rwa [show k + (j + 1) = k + 1 + j by omega] at this
      rw [this, List.append_nil]; rfl
    | succ i =>
      have h0 : e k b = 0 := h 0 b (by omega) (by simp)
      rw [flt_nil.2 h0, List.nil_append, ih (by simpa using ha) fun j x hj hx => by
        have := h (j + 1) x (by omega) (by simpa using hx)
        rwa [show k + (j + 1) = k + 1 + j by omega] at this]
      rw [show k + (i + 1) = k + 1 + i by omega]
theorem gx_mem {l : List α} {k : Nat} {x : Int × Int} (h : x ∈ gx e p k l) : ∃ (i : Nat) (a : α), l[i]? = some a ∧ x = (e (k + i) a, p a) ∧ e (k + i) a ≠ 0 := by
  induction l generalizing k with
  | nil => simp [gx] at h
  | cons b l ih =>
    rw [gx, List.mem_append] at h
    rcases h with h | h
    · obtain ⟨h1, h2⟩ := flt_mem h
      exact ⟨0, b, by simp, h1, h2⟩
    · obtain ⟨i, a, h1, h2, h3⟩ := ih h
      rw [show k + 1 + i = k + (i + 1) by omega] at h2 h3
      exact ⟨i + 1, a, by simpa using h1, h2, h3⟩
/-- the faults of things whose positions go up go up -/
theorem gx_up {l : List α} {k : Nat} {c : Int} (h : ∀ (i : Nat) a, l[i]? = some a → p a = c + i) : (gx e p k l).Pairwise fun x y => x.2 < y.2 := by
  induction l generalizing k c with
  | nil => simp [gx]
  | cons b l ih =>
    rw [gx, List.pairwise_append]
    refine ⟨?_, ih (c := c + 1) fun i a ha => ?_, fun x hx y hy => ?_⟩
    · have := flt_len (e k b) (p b)
      unfold flt; split <;> simp
    · have := h (i + 1) a (by simpa using ha); omega
    · obtain ⟨h1, _⟩ := flt_mem hx
      obtain ⟨i, a, h2, h3, _⟩ := gx_mem hy
      have q1 := h 0 b (by simp)
      have q2 := h (i + 1) a (by simpa using h2)
      subst h1 h3
      simp only
      omega
/-- the faults that are not at one position -/
theorem gx_filter {l : List α} {k i : Nat} {c : Int} (h : ∀ (j : Nat) a, l[j]? = some a → p a = c + j) {a' : α} (h0 : e (k + i) a' = 0) : (gx e p k l).filter (fun x => x.2 != c + i) = gx e p k (l.set i a') := by
  induction l generalizing k c i with
  | nil => simp [gx]
  | cons b l ih =>
    have hb : p b = c := by have := h 0 b (by simp); simpa using this
    have hn : ∀ (j : Nat) a, l[j]? = some a → p a = (c + 1) + j := fun j a ha => by have := h (j + 1) a (by simpa using ha); omega
    simp only [gx, List.filter_append]
    cases i with
    | zero =>
      simp only [List.set_cons_zero, gx]
      rw [show flt (e k a') (p a') = [] from flt_nil.2 h0, List.nil_append]
      have h1 : (flt (e k b) (p b)).filter (fun x => x.2 != c + ((0 : Nat) : Int)) = [] := by
        unfold flt; split <;> simp [hb]
      rw [h1, List.nil_append, List.filter_eq_self.2]
      intro x hx
      obtain ⟨j, y, h2, h3, _⟩ := gx_mem hx
      have := hn j y h2
      subst h3
      simp; omega
    | succ i =>
      simp only [List.set_cons_succ, gx]
      have h1 : (flt (e k b) (p b)).filter (fun x => x.2 != c + ((i + 1 : Nat) : Int)) = flt (e k b) (p b) := by
        unfold flt; split <;> simp [hb]; omega
      rw [h1, show c + ((i + 1 : Nat) : Int) = (c + 1) + i by omega, ih hn (by rwa [show k + 1 + i = k + (i + 1) by omega])]
end
theorem fU_eq (s : Sy) : fU s s.un.length = gx (eUn s) (fun _ => -1) 0 s.un := by unfold fU; rw [List.take_length]; exact gx_zip (e := eUn s) (p := fun _ => -1) _ _
theorem fA_eq (s : Sy) : fA s s.ac.length = gx (fun _ a => eAc a.a) (·.pos) 0 s.ac := by unfold fA; rw [List.take_length]; exact gx_flat (p := (·.pos)) (fun a : As => eAc a.a) _ _
theorem fC_eq (s : Sy) : fC s s.cl.length = gx (eCl s) (·.pos) 0 s.cl := by unfold fC; rw [List.take_length]; exact gx_zip (e := eCl s) (p := (·.pos)) _ _
theorem chk_wf {s : Sy} (h : wfS s = true) : chk s = flt (eBeg s) (-1) ++ gx (eUn s) (fun _ => -1) 0 s.un ++ gx (fun _ a => eAc a.a) (·.pos) 0 s.ac ++ gx (eCl s) (·.pos) 0 s.cl := by
  rw [chk, if_pos h, fU_eq, fA_eq, fC_eq]
theorem chk_no {s : Sy} (h : wfS s = false) : chk s = [(1, -1)] := by rw [chk, if_neg (by simp [h])]
theorem chk_nil {s : Sy} : chk s = [] ↔ wfS s = true ∧ eBeg s = 0 ∧ (∀ (i : Nat) u, s.un[i]? = some u → eUn s i u = 0) ∧ (∀ (i : Nat) a, s.ac[i]? = some a → eAc a.a = 0) ∧ (∀ (i : Nat) c, s.cl[i]? = some c → eCl s i c = 0) := by
  cases h : wfS s with
  | false => rw [chk_no h]; simp
  | true =>
    rw [chk_wf h]
    simp only [List.append_eq_nil_iff, flt_nil, gx_nil, Nat.zero_add, true_and, and_assoc]
theorem fst1_ne (l : List (Int × Bool)) (h : ∀ x ∈ l, x.1 ≠ 1) : fst1 l ≠ 1 := by
  induction l with
  | nil => simp [fst1]
  | cons a l ih =>
    obtain ⟨e, b⟩ := a
    rw [fst1]
    split
    · exact h (e, b) (by simp)
    · exact ih fun x hx => h x (by simp [hx])
theorem eBeg_ne (s : Sy) : eBeg s ≠ 1 := fst1_ne _ (by simp)
theorem eUn_ne (s : Sy) (i : Nat) (u : Un) : eUn s i u ≠ 1 := fst1_ne _ (by simp)
theorem eAc_ne (a : Ac) : eAc a ≠ 1 := fst1_ne _ (by simp)
theorem eCl_ne (s : Sy) (i : Nat) (c : Cs) : eCl s i c ≠ 1 := fst1_ne _ (by simp)
theorem chk_ne {s : Sy} (h : wfS s = true) : ∀ x ∈ chk s, x.1 ≠ 1 ∧ x.1 ≠ 0 := by
  intro x hx
  rw [chk_wf h] at hx
  simp only [List.mem_append] at hx
  rcases hx with ((hx | hx) | hx) | hx
  · obtain ⟨rfl, h2⟩ := flt_mem hx; exact ⟨eBeg_ne s, h2⟩
  · obtain ⟨i, a, _, rfl, h2⟩ := gx_mem hx; exact ⟨eUn_ne _ _ _, h2⟩
  · obtain ⟨i, a, _, rfl, h2⟩ := gx_mem hx; exact ⟨eAc_ne _, h2⟩
  · obtain ⟨i, a, _, rfl, h2⟩ := gx_mem hx; exact ⟨eCl_ne _ _ _, h2⟩
end Go.Proofs.YtcfjehohemdanaaDoor
