/- Plain: the count of business days as package date makes it; the n-th business day. No program in sight. -/
import Derived.Test.YtcfjehohemdanaaDoorDt2
namespace Go.Proofs.YtcfjehohemdanaaDoor

/-- a valid calendar -/
def vldC (c : Cld) : Bool := c.wk.contains false && (decide (c.hs.length ≤ 400) && (decide (c.hs.Pairwise (· < ·)) && c.hs.all fun h => decide (0 ≤ h ∧ h ≤ 73048)))
/-- the weekdays that are not off -/
def openN (l : List Bool) : Int := (l.map fun b => b2i !b).foldl (· + ·) 0
def work (c : Cld) (d : Int) : Bool := !offW c d
theorem cnt_week (c : Cld) (h7 : c.wk.length = 7) (a : Int) : cnt (work c) a 7 = openN c.wk := by
  obtain ⟨wk, hs⟩ := c
  match wk, h7 with
  | [b0, b1, b2, b3, b4, b5, b6], _ =>
    have hr : a % 7 = 0 ∨ a % 7 = 1 ∨ a % 7 = 2 ∨ a % 7 = 3 ∨ a % 7 = 4 ∨ a % 7 = 5 ∨ a % 7 = 6 := by omega
    simp only [cnt, work, offW, openN, List.map_cons, List.map_nil, List.foldl_cons, List.foldl_nil]
    rcases hr with h | h | h | h | h | h | h
    · rw [show (a + ((0 : Nat) : Int)) % 7 = 0 by omega, show (a + ((1 : Nat) : Int)) % 7 = 1 by omega, show (a + ((2 : Nat) : Int)) % 7 = 2 by omega, show (a + ((3 : Nat) : Int)) % 7 = 3 by omega, show (a + ((4 : Nat) : Int)) % 7 = 4 by omega, show (a + ((5 : Nat) : Int)) % 7 = 5 by omega, show (a + ((6 : Nat) : Int)) % 7 = 6 by omega]
      simp; try omega
    · rw [show (a + ((0 : Nat) : Int)) % 7 = 1 by omega, show (a + ((1 : Nat) : Int)) % 7 = 2 by omega, show (a + ((2 : Nat) : Int)) % 7 = 3 by omega, show (a + ((3 : Nat) : Int)) % 7 = 4 by omega, show (a + ((4 : Nat) : Int)) % 7 = 5 by omega, show (a + ((5 : Nat) : Int)) % 7 = 6 by omega, show (a + ((6 : Nat) : Int)) % 7 = 0 by omega]
      simp; try omega
    · rw [show (a + ((0 : Nat) : Int)) % 7 = 2 by omega, show (a + ((1 : Nat) : Int)) % 7 = 3 by omega, show (a + ((2 : Nat) : Int)) % 7 = 4 by omega, show (a + ((3 : Nat) : Int)) % 7 = 5 by omega, show (a + ((4 : Nat) : Int)) % 7 = 6 by omega, show (a + ((5 : Nat) : Int)) % 7 = 0 by omega, show (a + ((6 : Nat) : Int)) % 7 = 1 by omega]
      simp; try omega
    · rw [show (a + ((0 : Nat) : Int)) % 7 = 3 by omega, show (a + ((1 : Nat) : Int)) % 7 = 4 by omega, show (a + ((2 : Nat) : Int)) % 7 = 5 by omega, show (a + ((3 : Nat) : Int)) % 7 = 6 by omega, show (a + ((4 : Nat) : Int)) % 7 = 0 by omega, show (a + ((5 : Nat) : Int)) % 7 = 1 by omega, show (a + ((6 : Nat) : Int)) % 7 = 2 by omega]
      simp; try omega
    · rw [show (a + ((0 : Nat) : Int)) % 7 = 4 by omega, show (a + ((1 : Nat) : Int)) % 7 = 5 by omega, show (a + ((2 : Nat) : Int)) % 7 = 6 by omega, show (a + ((3 : Nat) : Int)) % 7 = 0 by omega, show (a + ((4 : Nat) : Int)) % 7 = 1 by omega, show (a + ((5 : Nat) : Int)) % 7 = 2 by omega, show (a + ((6 : Nat) : Int)) % 7 = 3 by omega]
      simp; try omega
    · rw [show (a + ((0 : Nat) : Int)) % 7 = 5 by omega, show (a + ((1 : Nat) : Int)) % 7 = 6 by omega, show (a + ((2 : Nat) : Int)) % 7 = 0 by omega, show (a + ((3 : Nat) : Int)) % 7 = 1 by omega, show (a + ((4 : Nat) : Int)) % 7 = 2 by omega, show (a + ((5 : Nat) : Int)) % 7 = 3 by omega, show (a + ((6 : Nat) : Int)) % 7 = 4 by omega]
      simp; try omega
    · rw [show (a + ((0 : Nat) : Int)) % 7 = 6 by omega, show (a + ((1 : Nat) : Int)) % 7 = 0 by omega, show (a + ((2 : Nat) : Int)) % 7 = 1 by omega, show (a + ((3 : Nat) : Int)) % 7 = 2 by omega, show (a + ((4 : Nat) : Int)) % 7 = 3 by omega, show (a + ((5 : Nat) : Int)) % 7 = 4 by omega, show (a + ((6 : Nat) : Int)) % 7 = 5 by omega]
      simp; try omega
theorem cnt_weeks (c : Cld) (h7 : c.wk.length = 7) (a : Int) (w : Nat) : cnt (work c) a (w * 7) = w * openN c.wk := by
  induction w with
  | zero => simp [cnt]
  | succ w ih =>
    rw [Nat.add_mul, Nat.one_mul, cnt_add, ih, cnt_week c h7]
    rw [show ((w + 1 : Nat) : Int) = (w : Int) + 1 by omega, Int.add_mul, Int.one_mul]

/-- the holidays of a range that are no days off anyway -/
def hcn (c : Cld) (a b : Int) (l : List Int) : Int := match l with
  | [] => 0
  | h :: r => b2i (decide (a ≤ h ∧ h < b) && work c h) + hcn c a b r
theorem hcn_out {c : Cld} {a b : Int} {l : List Int} (h : ∀ x ∈ l, b < x) : hcn c a (b + 1) l = hcn c a b l := by
  induction l with
  | nil => rfl
  | cons x r ih =>
    have hx := h x (by simp)
    rw [hcn, hcn, ih fun y hy => h y (by simp [hy])]
    congr 2
    have e1 : decide (a ≤ x ∧ x < b + 1) = false := by simp; omega
    have e2 : decide (a ≤ x ∧ x < b) = false := by simp; omega
    rw [e1, e2]
theorem hcn_step {c : Cld} {a b : Int} (hab : a ≤ b) : ∀ {l : List Int}, l.Pairwise (· < ·) → hcn c a (b + 1) l = hcn c a b l + b2i (l.contains b && work c b)
  | [], _ => by simp [hcn, b2i]
  | x :: r, hp => by
    obtain ⟨h1, h2⟩ := List.pairwise_cons.1 hp
    rcases Int.lt_trichotomy x b with hl | hl | hl
    · have e1 : decide (a ≤ x ∧ x < b + 1) = decide (a ≤ x ∧ x < b) := by
        by_cases h : a ≤ x
        · have q1 : decide (a ≤ x ∧ x < b + 1) = true := by simp; omega
          have q2 : decide (a ≤ x ∧ x < b) = true := by simp; omega
          rw [q1, q2]
        · have q1 : decide (a ≤ x ∧ x < b + 1) = false := by simp; omega
          have q2 : decide (a ≤ x ∧ x < b) = false := by simp; omega
          rw [q1, q2]
      have e2 : (x :: r).contains b = r.contains b := by
        rw [List.contains_cons]
        have : (b == x) = false := by simp; omega
        rw [this, Bool.false_or]
      rw [hcn, hcn, hcn_step hab h2, e1, e2]; omega
    · subst hl
      have e1 : decide (a ≤ x ∧ x < x + 1) = true := by simp; omega
      have e2 : decide (a ≤ x ∧ x < x) = false := by simp; try omega
      rw [hcn, hcn, hcn_out h1, e1, e2, List.contains_cons]
      simp [b2i]; omega
    · have e1 : decide (a ≤ x ∧ x < b + 1) = false := by simp; omega
      have e2 : decide (a ≤ x ∧ x < b) = false := by simp; omega
      have e3 : (x :: r).contains b = false := by
        rw [List.contains_cons]
        have q : (b == x) = false := by simp; omega
        rw [q, Bool.false_or]
        cases hc : r.contains b with
        | false => rfl
        | true => have := h1 b (by simpa using hc); omega
      rw [hcn, hcn, hcn_out fun y hy => by have := h1 y hy; omega, e1, e2, e3]
      simp [b2i]
/-- business days: the working days less the holidays among them -/
theorem cnt_biz {c : Cld} (hp : c.hs.Pairwise (· < ·)) (a : Int) (n : Nat) : cnt (bizC c) a n = cnt (work c) a n - hcn c a (a + n) c.hs := by
  induction n with
  | zero =>
    have : ∀ l, hcn c a (a + ((0 : Nat) : Int)) l = 0 := by
      intro l
      induction l with
      | nil => rfl
      | cons x r ih =>
        have e : decide (a ≤ x ∧ x < a + ((0 : Nat) : Int)) = false := by simp
        rw [hcn, ih, e]; rfl
    rw [this]; rfl
  | succ n ih =>
    rw [cnt, cnt, ih, show a + ((n + 1 : Nat) : Int) = a + n + 1 by omega, hcn_step (by omega) hp]
    have : b2i (bizC c (a + n)) = b2i (work c (a + n)) - b2i (c.hs.contains (a + n) && work c (a + n)) := by
      unfold bizC work
      cases offW c (a + n) <;> cases c.hs.contains (a + n) <;> rfl
    omega
/-- the holidays from a place on, up to a day -/
def hgo (c : Cld) (b : Int) : List Int → Int
  | [] => 0
  | h :: r => if b ≤ h then 0 else b2i (work c h) + hgo c b r
theorem hgo_zero {c : Cld} {a b : Int} : ∀ {l : List Int}, (∀ x ∈ l, b ≤ x) → hcn c a b l = 0
  | [], _ => rfl
  | x :: r, h => by
    have e : decide (a ≤ x ∧ x < b) = false := by
      have := h x (by simp)
      simp; omega
    rw [hcn, hgo_zero fun y hy => h y (by simp [hy]), e]; rfl
theorem hgo_hcn {c : Cld} {a b : Int} : ∀ {l : List Int}, l.Pairwise (· < ·) → (∀ x ∈ l, a ≤ x) → hgo c b l = hcn c a b l
  | [], _, _ => rfl
  | x :: r, hp, ha => by
    obtain ⟨h1, h2⟩ := List.pairwise_cons.1 hp
    have hx := ha x (by simp)
    unfold hgo
    split
    · rename_i hb
      exact (hgo_zero (l := x :: r) fun y hy => by
        rcases List.mem_cons.1 hy with rfl | hy
        · exact hb
        · have := h1 y hy; omega).symm
    · have e : decide (a ≤ x ∧ x < b) = true := by simp; omega
      rw [hcn, hgo_hcn h2 fun y hy => ha y (by simp [hy]), e]; rfl
/-- how many holidays lie before a day -/
def befN (a : Int) (l : List Int) : Nat := l.countP fun h => decide (h < a)
theorem hcn_drop {c : Cld} {a b : Int} : ∀ {l : List Int}, l.Pairwise (· < ·) → hcn c a b (l.drop (befN a l)) = hcn c a b l ∧ ∀ x ∈ l.drop (befN a l), a ≤ x
  | [], _ => ⟨rfl, by simp⟩
  | x :: r, hp => by
    obtain ⟨h1, h2⟩ := List.pairwise_cons.1 hp
    by_cases hx : x < a
    · have e : befN a (x :: r) = befN a r + 1 := by simp [befN, List.countP_cons, hx]
      obtain ⟨i1, i2⟩ := hcn_drop (c := c) (b := b) h2
      rw [e, List.drop_succ_cons]
      refine ⟨?_, i2⟩
      have e2 : decide (a ≤ x ∧ x < b) = false := by simp; omega
      rw [hcn, e2, i1]; simp [b2i]
    · have e : befN a (x :: r) = 0 := by
        unfold befN
        rw [List.countP_eq_zero]
        intro y hy
        rcases List.mem_cons.1 hy with rfl | hy
        · simpa using hx
        · have := h1 y hy; simp; omega
      rw [e, List.drop_zero]
      refine ⟨rfl, fun y hy => ?_⟩
      rcases List.mem_cons.1 hy with rfl | hy
      · omega
      · have := h1 y hy; omega
/-- what the code counts -/
theorem count_code {c : Cld} (h7 : c.wk.length = 7) (hp : c.hs.Pairwise (· < ·)) (a : Int) (n : Nat) :
    cnt (bizC c) a n = (n / 7 : Nat) * openN c.wk + cnt (work c) (a + ((n / 7 * 7 : Nat) : Int)) (n % 7) - hgo c (a + n) (c.hs.drop (befN a c.hs)) := by
  obtain ⟨i1, i2⟩ := hcn_drop (c := c) (a := a) (b := a + n) hp
  rw [cnt_biz hp, hgo_hcn (hp.sublist (List.drop_sublist _ _)) i2, i1]
  have e : n = n / 7 * 7 + n % 7 := by omega
  have : cnt (work c) a n = (n / 7 : Nat) * openN c.wk + cnt (work c) (a + ((n / 7 * 7 : Nat) : Int)) (n % 7) := by
    conv => lhs; rw [e]
    rw [cnt_add, cnt_weeks c h7]
  omega

/-- the n-th business day from a day on: the first i for which the count of i + 1 days reaches n -/
def IsNth (f : Int → Bool) (a n : Int) (days i : Nat) : Prop := i ≤ days ∧ (∀ j, j < i → cnt f a (j + 1) < n) ∧ (i < days → n ≤ cnt f a (i + 1))
theorem IsNth.is {f : Int → Bool} {a n : Int} {days i : Nat} (h : IsNth f a n days i) (hn : 1 ≤ n) (hi : i < days) : cnt f a i = n - 1 ∧ f (a + i) = true := by
  obtain ⟨h1, h2, h3⟩ := h
  have h4 := h3 hi
  rw [cnt] at h4
  have h5 : cnt f a i < n := by
    cases i with
    | zero => simp [cnt]; omega
    | succ i => exact h2 i (by omega)
  have := b2i_01 (f (a + i))
  refine ⟨by omega, ?_⟩
  cases hf : f (a + i) with
  | true => rfl
  | false => rw [hf] at h4; simp [b2i] at h4; omega
theorem IsNth.uniq {f : Int → Bool} {a n : Int} {days i j : Nat} (h : IsNth f a n days i) (k : IsNth f a n days j) : i = j := by
  rcases Nat.lt_trichotomy i j with hl | hl | hl
  · have h1 := h.2.2 (by have := k.1; omega)
    have h2 := k.2.1 i hl
    omega
  · exact hl
  · have h1 := k.2.2 (by have := h.1; omega)
    have h2 := h.2.1 j hl
    omega
end Go.Proofs.YtcfjehohemdanaaDoor
