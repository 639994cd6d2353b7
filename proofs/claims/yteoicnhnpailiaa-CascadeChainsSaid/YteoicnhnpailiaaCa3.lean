/- Who bears on whom, and the ranks of those who default. No program in sight. -/
import Derived.Test.YteoicnhnpailiaaCa2
namespace Go.Proofs.Yteoicnhnpailiaa

def trg (p : Pf) (x y : Int) : Bool := p.tr.any fun t => t.p == x && t.d == y
def bea (p : Pf) (x y : Int) : Bool := trg p x y || p.gu.any fun g => g.b == y && (g.x == x || trg p x g.x)
theorem lat_same {p : Pf} (hp : VP p) {S T : List Bool} (h : sub p.n S T) {i : Int} (hn : ∀ j : Int, 0 ≤ j → j < p.n → has T j = true → has S j = false → trg p j i = false) : lat p T i = lat p S i := by
  cases hl : lat p T i with
  | false =>
    cases hs : lat p S i with
    | false => rfl
    | true => rw [lat_mono hp h hs] at hl; cases hl
  | true =>
    simp only [lat, List.any_eq_true, Bool.and_eq_true] at hl ⊢
    obtain ⟨t, ht, h1, h2⟩ := hl
    have hr := hp.tr t ht
    symm
    rw [List.any_eq_true]
    refine ⟨t, ht, ?_⟩
    cases hs : has S t.p with
    | true => simp [h1]
    | false =>
      have h3 := hn t.p hr.1.1 hr.1.2 h2 hs
      have h4 : trg p t.p i = true := by
        simp only [trg, List.any_eq_true, Bool.and_eq_true]
        exact ⟨t, ht, by simp, h1⟩
      rw [h4] at h3; cases h3
theorem flat_same {α β : Type} {f g : α → List β} : ∀ {l : List α}, (∀ x ∈ l, f x = g x) → l.flatMap f = l.flatMap g
  | [], _ => by simp
  | x :: l, h => by
    simp only [List.flatMap_cons]
    rw [h x (by simp), flat_same fun y hy => h y (by simp [hy])]
theorem amtC_same {p : Pf} (hp : VP p) {S T : List Bool} (h : sub p.n S T) {i : Int} (hn : ∀ j : Int, 0 ≤ j → j < p.n → has T j = true → has S j = false → bea p j i = false) : amtC p T i = amtC p S i := by
  have hl : lat p T i = lat p S i := lat_same hp h fun j j0 j1 h1 h2 => by
    have := hn j j0 j1 h1 h2
    simp only [bea, Bool.or_eq_false_iff] at this
    exact this.1
  unfold amtC
  congr 1
  · unfold eachL; rw [hl]
  · refine flat_same fun g hg => ?_
    have hx := (hp.gu g hg).1
    unfold gOf
    by_cases hb : g.b = i
    · have hh : has T g.x = has S g.x := by
        cases hT : has T g.x with
        | false =>
          cases hS : has S g.x with
          | false => rfl
          | true => rw [h _ hx.1 hx.2 hS] at hT; cases hT
        | true =>
          cases hS : has S g.x with
          | true => rfl
          | false =>
            have := hn _ hx.1 hx.2 hT hS
            have h4 : bea p g.x i = true := by
              simp only [bea, Bool.or_eq_true, List.any_eq_true, Bool.and_eq_true]
              exact .inr ⟨g, hg, by simp [hb], by simp⟩
            rw [h4] at this; cases this
      have hl2 : lat p T g.x = lat p S g.x := lat_same hp h fun j j0 j1 h1 h2 => by
        have := hn j j0 j1 h1 h2
        cases ht : trg p j g.x with
        | false => rfl
        | true =>
          have h4 : bea p j i = true := by
            simp only [bea, Bool.or_eq_true, List.any_eq_true, Bool.and_eq_true]
            exact .inr ⟨g, hg, by simp [hb], by simp [ht]⟩
          rw [h4] at this; cases this
      rw [hh]
      unfold eachL
      rw [hl2]
    · simp [hb]
/-- a party comes to default in round k -/
def Rk (p : Pf) (i : Int) (k : Nat) : Prop := has (Dk p (k + 1)) i = true ∧ has (Dk p k) i = false
/-- one of those of the round before bears on it -/
theorem Rk.before {p : Pf} (hp : VP p) {K k : Nat} {i : Int} (hs : Spr p K) (hk : k + 1 < K) (h0 : 0 ≤ i) (h1 : i < p.n) (h : Rk p i (k + 1)) : ∃ j : Int, 0 ≤ j ∧ j < p.n ∧ Rk p j k ∧ bea p j i = true := by
  rcases Classical.em (∃ j : Int, 0 ≤ j ∧ j < p.n ∧ Rk p j k ∧ bea p j i = true) with he | he
  · exact he
  · exfalso
    obtain ⟨h2, h3⟩ := h
    rw [show Dk p (k + 1 + 1) = nx p (Dk p (k + 1)) from rfl, has_nx hp _ h0 h1] at h2
    rw [show Dk p (k + 1) = nx p (Dk p k) from rfl, has_nx hp _ h0 h1] at h3
    have hsame := amtC_same hp (Dk_up hp (k := k) fun j hj => hs.ok j (by omega)) (i := i) fun j j0 j1 a b => by
      cases hb : bea p j i with
      | false => rfl
      | true => exact absurd ⟨j, j0, j1, ⟨a, b⟩, hb⟩ he
    have : ovr p (Dk p (k + 1)) i = ovr p (Dk p k) i := by
      unfold ovr ow
      rw [hsame]
    rw [this, h3] at h2
    cases h2
/-- each of those who default has its round -/
theorem Rk.ex {p : Pf} {i : Int} : ∀ {K : Nat}, has (Dk p K) i = true → ∃ k, k < K ∧ Rk p i k
  | 0, h => by rw [show Dk p 0 = List.replicate 12 false from rfl, has_0] at h; cases h
  | K + 1, h => by
    cases hk : has (Dk p K) i with
    | true =>
      obtain ⟨k, h1, h2⟩ := Rk.ex hk
      exact ⟨k, by omega, h2⟩
    | false => exact ⟨K, by omega, h, hk⟩
theorem Rk.uniq {p : Pf} (hp : VP p) {K k k' : Nat} {i : Int} (ho : ∀ j, j < K → okS p (Dk p j)) (h0 : 0 ≤ i) (h1 : i < p.n) (hk : k < K) (hk' : k' < K) (h : Rk p i k) (h' : Rk p i k') : k = k' := by
  rcases Nat.lt_trichotomy k k' with hl | hl | hl
  · have := Dk_le hp ho (j := k + 1) (k := k') (by omega) (by omega) i h0 h1 h.1
    rw [h'.2] at this; cases this
  · exact hl
  · have := Dk_le hp ho (j := k' + 1) (k := k) (by omega) (by omega) i h0 h1 h'.1
    rw [h.2] at this; cases this
/-- no more rounds than parties -/
theorem cnt_le_n {p : Pf} (hp : VP p) (k : Nat) : ((Dk p k).count true : Int) ≤ p.n := by
  have h1 : Dk p k = (Dk p k).take p.n.toNat ++ (Dk p k).drop p.n.toNat := (List.take_append_drop _ _).symm
  have h2 : ((Dk p k).drop p.n.toNat).count true = 0 := by
    rw [List.count_eq_zero]
    intro hm
    obtain ⟨i, hi⟩ := List.getElem?_of_mem hm
    rw [List.getElem?_drop] at hi
    have hh : has (Dk p k) ((p.n.toNat + i : Nat) : Int) = true := by unfold has; rw [Int.toNat_natCast, List.getD_eq_getElem?_getD, hi]; rfl
    rw [has_out k (by omega) (by omega)] at hh
    cases hh
  have h3 := List.count_le_length (a := true) (l := (Dk p k).take p.n.toNat)
  rw [h1, List.count_append, h2]
  simp only [List.length_take] at h3
  have := hp.n1
  omega
end Go.Proofs.Yteoicnhnpailiaa
