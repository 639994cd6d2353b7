/- The sets of the cascade, one after the other, and the least one that is kept. No program in sight. -/
import Derived.Test.YteoicnhnpailiaaCa1
namespace Go.Proofs.Yteoicnhnpailiaa

def asQ (p : Pf) (i : Nat) : Rat := match p.as[i]? with
  | some a => Rat.divInt a.1 a.2
  | none => 0
/-- a party has to pay more than its assets -/
def ovr (p : Pf) (S : List Bool) (i : Int) : Bool := match ow p S i with
  | some q => decide (asQ p i.toNat < q)
  | none => false
def okS (p : Pf) (S : List Bool) : Prop := ∀ i : Int, 0 ≤ i → i < p.n → (ow p S i).isSome = true
def nx (p : Pf) (S : List Bool) : List Bool := (List.range 12).map fun (i : Nat) => decide ((i : Int) < p.n) && ovr p S i
def Dk (p : Pf) : Nat → List Bool
  | 0 => List.replicate 12 false
  | k + 1 => nx p (Dk p k)
theorem nx_len (p : Pf) (S : List Bool) : (nx p S).length = 12 := by simp [nx]
theorem Dk_len (p : Pf) : ∀ k, (Dk p k).length = 12
  | 0 => by simp [Dk]
  | k + 1 => nx_len p _
theorem nx_get (p : Pf) (S : List Bool) {i : Nat} (h : i < 12) : (nx p S)[i]? = some (decide ((i : Int) < p.n) && ovr p S i) := by
  simp [nx, h]
theorem has_nx {p : Pf} (hp : VP p) (S : List Bool) {i : Int} (h0 : 0 ≤ i) (h1 : i < p.n) : has (nx p S) i = ovr p S i := by
  have := hp.n12
  obtain ⟨k, rfl⟩ := Int.eq_ofNat_of_zero_le h0
  simp only [has, Int.toNat_natCast, List.getD_eq_getElem?_getD, nx_get p S (show k < 12 by omega)]
  simp [h1]
theorem has_0 (i : Int) : has (List.replicate 12 false) i = false := by
  simp only [has, List.getD_eq_getElem?_getD, List.getElem?_replicate]
  split <;> rfl
theorem has_out {p : Pf} (k : Nat) {i : Int} (h1 : p.n ≤ i) (h0 : 0 ≤ i) : has (Dk p k) i = false := by
  cases k with
  | zero => exact has_0 i
  | succ k =>
    obtain ⟨j, rfl⟩ := Int.eq_ofNat_of_zero_le h0
    simp only [has, Dk, Int.toNat_natCast, List.getD_eq_getElem?_getD]
    by_cases hj : j < 12
    · rw [nx_get p _ hj]
      simp [show ¬ ((j : Int) < p.n) by omega]
    · rw [List.getElem?_eq_none (by rw [nx_len]; omega)]; rfl
theorem ovr_mono {p : Pf} (hp : VP p) {S T : List Bool} (h : sub p.n S T) {i : Int} (hT : (ow p T i).isSome = true) (ho : ovr p S i = true) : ovr p T i = true := by
  unfold ovr at ho ⊢
  cases ha : ow p S i with
  | none => rw [ha] at ho; cases ho
  | some a =>
    rw [ha] at ho
    obtain ⟨b, hb⟩ := Option.isSome_iff_exists.1 hT
    rw [hb]
    have h1 := of_decide_eq_true ho
    have h2 := ow_mono hp h ha hb
    exact decide_eq_true (by grind)
theorem Dk_up {p : Pf} (hp : VP p) : ∀ {k : Nat}, (∀ j, j ≤ k → okS p (Dk p j)) → sub p.n (Dk p k) (Dk p (k + 1))
  | 0, _ => fun i _ _ h => by rw [show Dk p 0 = List.replicate 12 false from rfl, has_0] at h; cases h
  | k + 1, ho => fun i h0 h1 h => by
    rw [show Dk p (k + 1 + 1) = nx p (Dk p (k + 1)) from rfl, has_nx hp _ h0 h1]
    rw [show Dk p (k + 1) = nx p (Dk p k) from rfl, has_nx hp _ h0 h1] at h
    exact ovr_mono hp (Dk_up hp fun j hj => ho j (by omega)) (ho (k + 1) (Nat.le_refl _) i h0 h1) h
theorem cntT_lt : ∀ {l m : List Bool}, l.length = m.length → (∀ i : Nat, l[i]? = some true → m[i]? = some true) → l ≠ m → l.count true < m.count true
  | [], [], _, _, hn => absurd rfl hn
  | a :: l, b :: m, hl, hi, hn => by
    have h0 := hi 0
    have hr : ∀ i : Nat, l[i]? = some true → m[i]? = some true := fun i h => by simpa using hi (i + 1) (by simpa using h)
    have hlen : l.length = m.length := by simpa using hl
    by_cases he : l = m
    · subst he
      cases a <;> cases b
      · exact absurd rfl hn
      · simp
      · simp at h0
      · exact absurd rfl hn
    · have := cntT_lt hlen hr he
      cases a <;> cases b
      · simpa using this
      · simp; omega
      · simp at h0
      · simpa using this
  | [], _ :: _, h, _, _ => by simp at h
  | _ :: _, [], h, _, _ => by simp at h
/-- k rounds, none of them the last one -/
structure Spr (p : Pf) (K : Nat) : Prop where
  ok : ∀ j, j < K → okS p (Dk p j)
  ne : ∀ j, j < K → Dk p (j + 1) ≠ Dk p j
theorem Spr.cnt {p : Pf} (hp : VP p) : ∀ {K : Nat}, Spr p K → K ≤ (Dk p K).count true
  | 0, _ => Nat.zero_le _
  | K + 1, h => by
    have h1 := Spr.cnt hp (K := K) ⟨fun j hj => h.ok j (by omega), fun j hj => h.ne j (by omega)⟩
    have h2 : (Dk p K).count true < (Dk p (K + 1)).count true := by
      refine cntT_lt (by rw [Dk_len, Dk_len]) (fun i hi => ?_) fun e => h.ne K (by omega) e.symm
      have hl := (List.getElem?_eq_some_iff.1 hi).1
      rw [Dk_len] at hl
      have hh : has (Dk p K) i = true := by simp [has, List.getD_eq_getElem?_getD, hi]
      have hlt : (i : Int) < p.n := by
        rcases Int.lt_or_le (i : Int) p.n with h | h
        · exact h
        · rw [has_out K h (by omega)] at hh; cases hh
      have := Dk_up hp (fun j hj => h.ok j (by omega)) i (by omega) hlt hh
      simp only [has, Int.toNat_natCast, List.getD_eq_getElem?_getD] at this
      rw [List.getElem?_eq_getElem (by rw [Dk_len]; omega)] at this ⊢
      simpa using this
    omega
theorem Spr.le {p : Pf} (hp : VP p) {K : Nat} (h : Spr p K) : K ≤ 12 := by
  have h1 := h.cnt hp
  have h2 := List.count_le_length (a := true) (l := Dk p K)
  rw [Dk_len] at h2
  omega
/-- the cascade ends with a set; it ends with an error -/
def SpOk (p : Pf) (K : Nat) : Prop := Spr p K ∧ okS p (Dk p K) ∧ Dk p (K + 1) = Dk p K
def SpNo (p : Pf) (K : Nat) : Prop := Spr p K ∧ ¬ okS p (Dk p K)
theorem SpOk.uniq {p : Pf} {K K' : Nat} (h : SpOk p K) (h' : SpOk p K') : K = K' := by
  rcases Nat.lt_trichotomy K K' with hl | hl | hl
  · exact absurd h.2.2 (h'.1.ne K hl)
  · exact hl
  · exact absurd h'.2.2 (h.1.ne K' hl)
theorem SpOk.no {p : Pf} {K K' : Nat} (h : SpOk p K) (h' : SpNo p K') : False := by
  rcases Nat.lt_trichotomy K K' with hl | hl | hl
  · exact h'.1.ne K hl h.2.2
  · subst hl; exact h'.2 h.2.1
  · exact h'.2 (h.1.ok K' hl)
/-- in the last set are just those who have to pay too much for it -/
theorem SpOk.fix {p : Pf} (hp : VP p) {K : Nat} (h : SpOk p K) {i : Int} (h0 : 0 ≤ i) (h1 : i < p.n) : has (Dk p K) i = ovr p (Dk p K) i := by
  rw [← has_nx hp _ h0 h1]
  exact congrArg (has · i) h.2.2.symm
/-- a set in which is who has to pay too much for it holds all sets of the cascade -/
theorem Dk_least {p : Pf} (hp : VP p) {T : List Bool} (ho : okS p T) (hc : ∀ i : Int, 0 ≤ i → i < p.n → ovr p T i = true → has T i = true) : ∀ k, sub p.n (Dk p k) T
  | 0 => fun i _ _ h => by rw [show Dk p 0 = List.replicate 12 false from rfl, has_0] at h; cases h
  | k + 1 => fun i h0 h1 h => by
    rw [show Dk p (k + 1) = nx p (Dk p k) from rfl, has_nx hp _ h0 h1] at h
    exact hc i h0 h1 (ovr_mono hp (Dk_least hp ho hc k) (ho i h0 h1) h)
/-- the sets grow -/
theorem Dk_le {p : Pf} (hp : VP p) {K : Nat} (ho : ∀ j, j < K → okS p (Dk p j)) : ∀ {j k : Nat}, j ≤ k → k ≤ K → sub p.n (Dk p j) (Dk p k) := by
  intro j k hjk hk
  induction hjk with
  | refl => exact sub_refl _ _
  | step _ ih => exact fun i h0 h1 h => Dk_up hp (fun q hq => ho q (by omega)) i h0 h1 (ih (by omega) i h0 h1 h)
/-- sets of twelve are the same if they have the same parties -/
theorem eq12 {S T : List Bool} (hs : S.length = 12) (ht : T.length = 12) (h : ∀ i : Nat, i < 12 → has S i = has T i) : S = T := by
  refine List.ext_getElem (by rw [hs, ht]) fun i h1 h2 => ?_
  have := h i (by omega)
  simp only [has, Int.toNat_natCast, List.getD_eq_getElem?_getD] at this
  rw [List.getElem?_eq_getElem h1, List.getElem?_eq_getElem h2] at this
  simpa using this
end Go.Proofs.Yteoicnhnpailiaa
