/- Contracts of functions and plain laws, joined: Math, Ka1, Fa1, Pt0, Fa3. -/
import Derived.Lib.AtoiAll
import Derived.Lib.AtoiAllCases
import Derived.Lib.ItoaNum
import Derived.Lib.ItoaLen
import Derived.Lib.IndexMore
/- Plain facts on integers, greatest common divisors and rational numbers: what the functions of package ratio compute. No program in sight. -/
namespace Go.Proofs.YtemkghgcdpmlbaaDoor

theorem gcd_step (x y : Int) (hx : 0 ≤ x) (hy : 0 ≤ y) : Int.gcd y (x % y) = Int.gcd x y := by
  obtain ⟨a, rfl⟩ := Int.eq_ofNat_of_zero_le hx
  obtain ⟨b, rfl⟩ := Int.eq_ofNat_of_zero_le hy
  rw [← Int.natCast_emod]
  simp only [Int.gcd, Int.natAbs_natCast]
  rw [Nat.gcd_comm a b, Nat.gcd_comm b (a % b), ← Nat.gcd_rec]

/-- the magnitude of an integer -/
def mag (n : Int) : Int := n.natAbs
theorem mag_neg {n : Int} (h : n < 0) : mag n = -n := by unfold mag; omega
theorem mag_pos {n : Int} (h : 0 ≤ n) : mag n = n := by unfold mag; omega
theorem mag_bd {n : Int} (h1 : -9223372036854775808 ≤ n) (h2 : n ≤ 9223372036854775807) : 0 ≤ mag n ∧ mag n ≤ 9223372036854775808 := by unfold mag; omega
theorem gcd_mag (a b : Int) : Int.gcd (mag a) (mag b) = Int.gcd a b := by simp [mag, Int.gcd]

/-- a ratio is valid -/
def vld (n d : Int) : Bool := decide (1 ≤ d ∧ d ≤ 1000000 ∧ -1000000000000 ≤ n ∧ n ≤ 1000000000000 ∧ Int.gcd n d = 1)
theorem vld_mk {n d : Int} (h : 1 ≤ d ∧ d ≤ 1000000 ∧ -1000000000000 ≤ n ∧ n ≤ 1000000000000 ∧ Int.gcd n d = 1) : vld n d = true := by simp [vld, h]
theorem vld_no {n d : Int} (h : ¬ (1 ≤ d ∧ d ≤ 1000000 ∧ -1000000000000 ≤ n ∧ n ≤ 1000000000000 ∧ Int.gcd n d = 1)) : vld n d = false := by simp [vld, h]
theorem vld_of {n d : Int} (h : vld n d = true) : 1 ≤ d ∧ d ≤ 1000000 ∧ -1000000000000 ≤ n ∧ n ≤ 1000000000000 ∧ Int.gcd n d = 1 := by simpa [vld] using h

/-- a rational number is within the limits of ratios -/
def inR (q : Rat) : Bool := decide (-1000000000000 ≤ q.num ∧ q.num ≤ 1000000000000 ∧ q.den ≤ 1000000)
/-- what an operation gives whose exact result is q: numerator, denominator, error -/
def oN (q : Rat) : Int := if inR q then q.num else 0
def oD (q : Rat) : Int := if inR q then q.den else 0
def oE (q : Rat) : Int := if inR q then 0 else 2
theorem oN_yes {q : Rat} (h : inR q = true) : oN q = q.num := by simp [oN, h]
theorem oD_yes {q : Rat} (h : inR q = true) : oD q = q.den := by simp [oD, h]
theorem oE_yes {q : Rat} (h : inR q = true) : oE q = 0 := by simp [oE, h]
theorem oN_no {q : Rat} (h : inR q = false) : oN q = 0 := by simp [oN, h]
theorem oD_no {q : Rat} (h : inR q = false) : oD q = 0 := by simp [oD, h]
theorem oE_no {q : Rat} (h : inR q = false) : oE q = 2 := by simp [oE, h]

theorem inR_bd {q : Rat} (h : inR q = true) : -1000000000000 ≤ q.num ∧ q.num ≤ 1000000000000 ∧ 1 ≤ (q.den : Int) ∧ (q.den : Int) ≤ 1000000 := by
  have := q.den_pos
  simp only [inR, decide_eq_true_eq] at h
  omega
theorem gcd_num_den (q : Rat) : Int.gcd q.num q.den = 1 := by
  have := q.reduced
  simpa [Int.gcd] using this
theorem inR_vld {q : Rat} (h : inR q = true) : vld q.num q.den = true := by
  have := inR_bd h
  exact vld_mk ⟨this.2.2.1, this.2.2.2, this.1, this.2.1, gcd_num_den q⟩
/-- a valid ratio is a rational number within the limits -/
theorem rat_of_vld {n d : Int} (h : vld n d = true) : ∃ q : Rat, inR q = true ∧ q.num = n ∧ (q.den : Int) = d := by
  obtain ⟨h1, h2, h3, h4, h5⟩ := vld_of h
  refine ⟨⟨n, d.toNat, by omega, ?_⟩, ?_, rfl, by simp; omega⟩
  · have : Int.gcd n d = Nat.gcd n.natAbs d.toNat := by
      simp only [Int.gcd]; congr 1; omega
    rw [this] at h5; exact h5
  · simp only [inR, decide_eq_true_eq]; omega

/-- numerator and denominator of a quotient of magnitudes with a sign -/
theorem quot_num {a b : Int} (hb : 0 < b) : (Rat.divInt a b).num = a / (Int.gcd a b : Int) := by
  rw [Rat.num_divInt, Int.sign_eq_one_of_pos hb, Int.one_mul, Int.gcd_comm]
theorem quot_den {a b : Int} (hb : 0 < b) : ((Rat.divInt a b).den : Int) = b / (Int.gcd a b : Int) := by
  rw [Rat.den_divInt, if_neg (by omega), Int.gcd_comm, Int.natCast_ediv]
  congr 1; omega
theorem sgn_num (s : Bool) {a b : Int} (hb : 0 < b) : (Rat.divInt (if s then -a else a) b).num = if s then -(a / (Int.gcd a b : Int)) else a / (Int.gcd a b : Int) := by
  cases s
  · simpa using quot_num hb
  · simp only [if_true, ← Rat.neg_divInt, Rat.neg_num, quot_num hb]
theorem sgn_den (s : Bool) {a b : Int} (hb : 0 < b) : ((Rat.divInt (if s then -a else a) b).den : Int) = b / (Int.gcd a b : Int) := by
  cases s
  · simpa using quot_den hb
  · simp only [if_true, ← Rat.neg_divInt, Rat.neg_den, quot_den hb]
/-- the quotient out of two magnitudes and the sign -/
theorem divInt_mag (p q : Int) : Rat.divInt (if (decide (p < 0) != decide (q < 0)) then -(mag p) else mag p) (mag q) = Rat.divInt p q := by
  by_cases h1 : p < 0 <;> by_cases h2 : q < 0
  · simp only [h1, h2, decide_true, bne_self_eq_false, Bool.false_eq_true, if_false, mag_neg h1, mag_neg h2, Rat.neg_divInt_neg]
  · have h2' : 0 ≤ q := by omega
    simp [h1, h2, mag_neg h1, mag_pos h2']
  · have h1' : 0 ≤ p := by omega
    simp [h1, h2, mag_pos h1', mag_neg h2, Rat.neg_divInt_neg]
  · have h1' : 0 ≤ p := by omega
    have h2' : 0 ≤ q := by omega
    simp [h1, h2, mag_pos h1', mag_pos h2']

theorem add_divInt (q r : Rat) : Rat.divInt (q.num * r.den + r.num * q.den) (q.den * r.den) = q + r := by
  rw [Rat.add_def', ← Int.natCast_mul, Rat.divInt_ofNat]
theorem sub_divInt (q r : Rat) : Rat.divInt (q.num * r.den - r.num * q.den) (q.den * r.den) = q - r := by
  rw [Rat.sub_def', ← Int.natCast_mul, Rat.divInt_ofNat]
theorem div_divInt (q r : Rat) : Rat.divInt (q.num * r.den) (q.den * r.num) = q / r := by
  rw [Rat.div_def, Rat.inv_def]
  conv => rhs; rw [← Rat.num_divInt_den q]
  rw [Rat.divInt_mul_divInt]
/-- products of what is in range fit -/
theorem mul_bd {a b : Int} {A B : Int} (h1 : -A ≤ a) (h2 : a ≤ A) (h3 : -B ≤ b) (h4 : b ≤ B) : -(A * B) ≤ a * b ∧ a * b ≤ A * B := by
  have hA : 0 ≤ A := by omega
  have hB : 0 ≤ B := by omega
  have e1 : 0 ≤ (A - a) * (B + b) := Int.mul_nonneg (by omega) (by omega)
  have e2 : 0 ≤ (A + a) * (B - b) := Int.mul_nonneg (by omega) (by omega)
  have e3 : 0 ≤ (A - a) * (B - b) := Int.mul_nonneg (by omega) (by omega)
  have e4 : 0 ≤ (A + a) * (B + b) := Int.mul_nonneg (by omega) (by omega)
  constructor <;> grind
end Go.Proofs.YtemkghgcdpmlbaaDoor
/- Contracts and patches as plain data: which contracts are valid, and what a patch makes of one. No program in sight. -/
namespace Go.Proofs.YtemkghgcdpmlbaaDoor

structure Uni where
  nm : ByteArray
  kind : Int
  base : Int
  f : Int × Int
  deriving DecidableEq
structure Atc where
  kind : Int
  role : Int
  give : Int
  to_ : Int
  unit : Int
  lot : Int × Int
  deriving DecidableEq
structure Cla where
  kind : Int
  role : Int
  act : Int
  need : Int
  start : List (Int × Int)
  aft : Int
  grace : Int
  bus : Bool
  fin : Bool
  pause : Int
  resume : Int
  v : Int × Int
  unit : Int
  to_ : Int
  waived : Bool
  deriving DecidableEq
structure Con where
  par : Int
  hold : List Int
  un : List Uni
  ac : List Atc
  cl : List Cla
  days : Int
  off : List Int
  deriving DecidableEq
structure Pat where
  kind : Int
  cls : List Int
  new : Cla
  days : Int
  deriving DecidableEq
/-- an index of a list with n elements -/
def isI (i : Int) (n : Nat) : Bool := decide (0 ≤ i) && decide (i < n)
theorem isI_iff {i : Int} {n : Nat} : isI i n = true ↔ 0 ≤ i ∧ i < n := by simp [isI]
def zer (r : Int × Int) : Bool := r.1 == 0 && r.2 == 1
def psv (r : Int × Int) : Bool := decide (0 < r.1) && vld r.1 r.2
def uniOk (t : List Uni) (i : Nat) (u : Uni) : Bool :=
  decide (i < 20) && !(u.nm.toList == []) && (t.take i).all (fun o => !(o.nm.toList == u.nm.toList)) && (u.kind == 1 || u.kind == 2) && vld u.f.1 u.f.2 && decide (0 < u.f.1) &&
    isI u.base t.length && (match t[u.base.toNat]? with | some b => b.kind == u.kind && b.base == u.base | none => false) && (u.base != (i : Int) || (u.f.1 == 1 && u.f.2 == 1))
/-- the units from place i on are valid -/
def unsOk (t : List Uni) : Nat → List Uni → Bool
  | _, [] => true
  | i, u :: r => uniOk t i u && unsOk t (i + 1) r
def Con.mov (c : Con) (r : Int) : Bool := isI r c.hold.length
def Con.actOk (c : Con) (a : Atc) : Bool :=
  if c.mov a.role then
    if a.kind == 1 then
      a.give == 0 && (a.to_ == -1 || c.mov a.to_) && (if a.unit == -1 then zer a.lot else isI a.unit c.un.length && psv a.lot)
    else (a.kind == 2 || a.kind == 3) && c.mov a.give && decide (0 ≤ a.to_) && decide (a.to_ < c.par) && a.unit == -1 && zer a.lot
  else a.kind == 1 && a.role == -1 && a.give == 0 && (a.to_ == -1 || c.mov a.to_) && a.unit == -1 && zer a.lot
def incO (days : Int) : Int → List Int → Bool
  | _, [] => true
  | last, d :: l => decide (last < d) && decide (d < days) && incO days d l
def Con.framed (c : Con) : Bool :=
  decide (1 ≤ c.par) && decide (1 ≤ c.days) && decide (0 < c.hold.length) && c.hold.all (fun h => decide (0 ≤ h) && decide (h < c.par)) && unsOk c.un 0 c.un && c.ac.all c.actOk && incO c.days (-1) c.off
def Con.nat (c : Con) (a : Int) : Bool := isI a c.ac.length && (match c.ac[a.toNat]? with | some x => x.kind == 1 && x.role == -1 | none => false)
def Con.kindOk (c : Con) (k : Cla) : Bool :=
  if k.kind == 4 then k.role == -1 && k.need == 1 && k.grace == 0 && !k.fin
  else c.mov k.role && !c.nat k.act && (
    if k.kind == 1 then decide (1 ≤ k.need) && decide (k.need ≤ 9) && decide (0 ≤ k.grace) && decide (k.grace ≤ 400)
    else if k.kind == 2 then k.need == 1 && k.grace == 0
    else k.kind == 3 && k.need == 1 && k.grace == 0 && !k.fin)
def condOk (n i : Nat) (s : Int × Int) : Bool := isI s.1 n && s.1 != (i : Int) && decide (1 ≤ s.2) && decide (s.2 ≤ 4)
def Con.pauseOk (c : Con) (k : Cla) : Bool := (k.pause == -1 && k.resume == -1) || (k.pause != k.resume && c.nat k.pause && c.nat k.resume)
def Con.costOk (c : Con) (k : Cla) : Bool :=
  if k.unit == -1 then zer k.v && k.to_ == -1
  else (k.kind == 1 || k.kind == 2) && isI k.unit c.un.length && (match c.un[k.unit.toNat]? with | some u => u.kind == 2 | none => false) && psv k.v && c.mov k.to_
/-- the clause k at place i is valid -/
def Con.claOk (c : Con) (i : Nat) (k : Cla) : Bool :=
  isI k.act c.ac.length && decide (1 ≤ k.aft) && decide (k.aft ≤ 400) && c.kindOk k && decide (k.start.length ≤ 8) && k.start.all (condOk c.cl.length i) && c.pauseOk k && c.costOk k
def Con.clsOk (c : Con) : Nat → List Cla → Bool
  | _, [] => true
  | i, k :: r => c.claOk i k && c.clsOk (i + 1) r
def Con.lim (c : Con) : Bool := decide (c.par ≤ 12) && decide (c.days ≤ 2000) && decide (c.hold.length ≤ 12) && decide (c.un.length ≤ 20) && decide (c.ac.length ≤ 60) && decide (c.cl.length ≤ 400)
def Con.ok (c : Con) : Bool := c.lim && c.framed && c.clsOk 0 c.cl
theorem Con.clsOk_iff (c : Con) : ∀ (l : List Cla) (i : Nat), c.clsOk i l = true ↔ ∀ j k, l[j]? = some k → c.claOk (i + j) k = true
  | [], i => by simp [Con.clsOk]
  | k :: l, i => by
    simp only [Con.clsOk, Bool.and_eq_true]
    rw [Con.clsOk_iff c l (i + 1)]
    constructor
    · rintro ⟨h1, h2⟩ j x hx
      cases j with
      | zero => simp at hx; subst hx; exact h1
      | succ j => rw [show i + (j + 1) = i + 1 + j by omega]; exact h2 j x (by simpa using hx)
    · intro h
      exact ⟨h 0 k rfl, fun j x hx => by rw [show i + 1 + j = i + (j + 1) by omega]; exact h (j + 1) x (by simpa using hx)⟩
/-- a clause does not look at other clauses: at their number alone -/
theorem Con.claOk_same {c d : Con} (h1 : c.hold = d.hold) (h2 : c.un = d.un) (h3 : c.ac = d.ac) (h4 : c.cl.length = d.cl.length) (i : Nat) (k : Cla) : c.claOk i k = d.claOk i k := by
  unfold Con.claOk Con.kindOk Con.pauseOk Con.costOk Con.nat Con.mov
  rw [h1, h2, h3, h4]
theorem Con.framed_same {c d : Con} (h0 : c.par = d.par) (h1 : c.hold = d.hold) (h2 : c.un = d.un) (h3 : c.ac = d.ac) (h4 : c.days = d.days) (h5 : c.off = d.off) : c.framed = d.framed := by
  have : c.actOk = d.actOk := by funext a; unfold Con.actOk Con.mov; rw [h0, h1, h2]
  unfold Con.framed
  rw [this, h0, h1, h2, h3, h4, h5]
def zeroC (k : Cla) : Bool := decide (k.start.length = 0) && k.kind == 0 && k.role == 0 && k.act == 0 && k.need == 0 && k.aft == 0 && k.grace == 0 && !k.bus && !k.fin && k.pause == 0 && k.resume == 0 && (k.v.1 == 0 && k.v.2 == 0) && k.unit == 0 && k.to_ == 0 && !k.waived
/-- indices, increasing -/
def incI (n : Nat) : Int → List Int → Bool
  | _, [] => true
  | last, d :: l => decide (last < d) && decide (d < n) && incI n d l
def known (k : Int) : Bool := k == 1 || k == 2 || k == 3 || k == 4 || k == 5
def fewest (k : Int) : Nat := if k == 1 then 0 else 1
def mostN (k : Int) : Nat := if k == 1 then 0 else if k == 2 || k == 3 then 1 else 400
def Pat.fits (p : Pat) (n : Nat) : Bool :=
  decide (fewest p.kind ≤ p.cls.length) && decide (p.cls.length ≤ mostN p.kind) && incI n (-1) p.cls && (p.kind == 1 || p.kind == 2 || zeroC p.new) && (if p.kind == 5 then decide (1 ≤ p.days) && decide (p.days ≤ 400) else p.days == 0)
/-- what a patch does to the clause at an index that it names -/
def Pat.one (p : Pat) (k : Cla) : Cla := if p.kind == 2 then p.new else if p.kind == 5 then { k with aft := p.days } else { k with waived := true }
def Pat.do_ (p : Pat) (l : List Cla) : List Cla := if p.kind == 1 then l ++ [p.new] else p.cls.foldl (fun l i => l.modify i.toNat p.one) l
def Con.wc (c : Con) (l : List Cla) : Con := { c with cl := l }
/-- the error of a patch: 0: none -/
def Con.apE (c : Con) (p : Pat) : Int :=
  if c.ok && known p.kind && p.fits c.cl.length then (if p.kind == 1 && c.cl.length == 400 then 3 else if (c.wc (p.do_ c.cl)).ok then 0 else 1) else 1
/-- the contract after a patch that can be applied -/
def Con.ap (c : Con) (p : Pat) : Con := c.wc (p.do_ c.cl)
end Go.Proofs.YtemkghgcdpmlbaaDoor
/- Files of evidence as plain data: which are valid, and what filing, taking a part and opening make of one. No program in sight. -/
namespace Go.Proofs.YtemkghgcdpmlbaaDoor

structure Fac where
  ref : Int
  act : Int
  low : Int
  high : Int
  filed : Int
  sec : Bool
  deriving DecidableEq
structure Fil where
  house : Int
  facts : List Fac
  ords : List (Int × Int)
  deriving DecidableEq
def Con.facOk (c : Con) (x : Fac) : Bool :=
  decide (1 ≤ x.ref) && decide (x.ref ≤ 1000000) && decide (0 ≤ x.act) && decide (x.act < c.ac.length) && decide (0 ≤ x.low) && decide (x.low ≤ x.high) && decide (x.high < c.days) && decide (0 ≤ x.filed) && decide (x.filed ≤ c.days)
def ltF (x y : Fac) : Bool := decide (x.ref < y.ref)
/-- orders by Ref, then by Next -/
def ltO (x y : Int × Int) : Bool := decide (x.1 < y.1) || (x.1 == y.1 && decide (x.2 < y.2))
def incBy {α : Type} (lt : α → α → Bool) : List α → Bool
  | [] => true
  | [_] => true
  | x :: y :: l => lt x y && incBy lt (y :: l)
def hasRef (l : List Fac) (r : Int) : Bool := l.any fun x => x.ref == r
def ordOk (l : List Fac) (b : Int × Int) : Bool := hasRef l b.1 && hasRef l b.2 && !(b.1 == b.2)
def Fil.ok (c : Con) (f : Fil) : Bool :=
  c.ok && decide (0 ≤ f.house) && decide (f.house < c.par) && decide (f.facts.length ≤ 4000) && decide (f.ords.length ≤ 4000) &&
    f.facts.all c.facOk && incBy ltF f.facts && f.ords.all (ordOk f.facts) && incBy ltO f.ords

theorem incBy_iff {α : Type} {lt : α → α → Bool} : ∀ {l : List α}, incBy lt l = true ↔ ∀ i x y, l[i]? = some x → l[i + 1]? = some y → lt x y = true
  | [] => by simp [incBy]
  | [a] => by simp [incBy]
  | a :: b :: l => by
    rw [incBy, Bool.and_eq_true, incBy_iff (l := b :: l)]
    constructor
    · rintro ⟨h1, h2⟩ i x y hx hy
      cases i with
      | zero => simp at hx hy; subst hx; subst hy; exact h1
      | succ i => exact h2 i x y (by simpa using hx) (by simpa using hy)
    · intro h
      exact ⟨h 0 a b rfl rfl, fun i x y hx hy => h (i + 1) x y (by simpa using hx) (by simpa using hy)⟩
/-- an increasing list, by a transitive relation: each one comes before each later one -/
theorem incBy_pw {α : Type} {lt : α → α → Bool} (ht : ∀ x y z, lt x y = true → lt y z = true → lt x z = true) : ∀ {l : List α}, incBy lt l = true ↔ l.Pairwise (fun x y => lt x y = true)
  | [] => by simp [incBy]
  | [a] => by simp [incBy]
  | a :: b :: l => by
    rw [incBy, Bool.and_eq_true, incBy_pw ht (l := b :: l), List.pairwise_cons (a := a)]
    constructor
    · rintro ⟨h1, h2⟩
      refine ⟨fun y hy => ?_, h2⟩
      rcases List.mem_cons.1 hy with rfl | hy
      · exact h1
      · exact ht _ _ _ h1 ((List.pairwise_cons.1 h2).1 y hy)
    · rintro ⟨h1, h2⟩
      exact ⟨h1 b (by simp), h2⟩
theorem ltF_trans (x y z : Fac) (h1 : ltF x y = true) (h2 : ltF y z = true) : ltF x z = true := by unfold ltF at *; simp at *; omega
theorem ltF_irr (x : Fac) : ltF x x = false := by simp [ltF]
theorem ltO_iff {x y : Int × Int} : ltO x y = true ↔ x.1 < y.1 ∨ (x.1 = y.1 ∧ x.2 < y.2) := by simp [ltO]
theorem ltO_trans (x y z : Int × Int) (h1 : ltO x y = true) (h2 : ltO y z = true) : ltO x z = true := by rw [ltO_iff] at *; omega
theorem ltO_irr (x : Int × Int) : ltO x x = false := by simp [ltO]
/-- one of two different orders comes first -/
theorem ltO_tri {x y : Int × Int} (h1 : ltO x y = false) (h2 : ltO y x = false) : x = y := by
  have a := mt ltO_iff.2 (Bool.eq_false_iff.1 h1); have b := mt ltO_iff.2 (Bool.eq_false_iff.1 h2)
  obtain ⟨p, q⟩ := x; obtain ⟨r, s⟩ := y
  simp at a b ⊢
  omega
/-- two increasing lists with the same elements are one -/
theorem pw_ext {α : Type} {lt : α → α → Bool} (hi : ∀ x, lt x x = false) (ht : ∀ x y z, lt x y = true → lt y z = true → lt x z = true) : ∀ {l m : List α}, l.Pairwise (fun x y => lt x y = true) → m.Pairwise (fun x y => lt x y = true) → (∀ x, x ∈ l ↔ x ∈ m) → l = m
  | [], [], _, _, _ => rfl
  | [], b :: m, _, _, h => absurd ((h b).2 (by simp)) (by simp)
  | a :: l, [], _, _, h => absurd ((h a).1 (by simp)) (by simp)
  | a :: l, b :: m, h1, h2, h => by
    rw [List.pairwise_cons] at h1 h2
    have e : a = b := by
      rcases List.mem_cons.1 ((h a).1 (by simp)) with e | ha
      · exact e
      · rcases List.mem_cons.1 ((h b).2 (by simp)) with e | hb
        · exact e.symm
        · have := ht _ _ _ (h1.1 b hb) (h2.1 a ha); rw [hi] at this; cases this
    subst e
    have na : a ∉ l := fun h => by have := h1.1 a h; rw [hi] at this; cases this
    have nb : a ∉ m := fun h => by have := h2.1 a h; rw [hi] at this; cases this
    rw [pw_ext hi ht h1.2 h2.2 fun x => ?_]
    constructor
    · intro hx
      rcases List.mem_cons.1 ((h x).1 (by simp [hx])) with rfl | hx'
      · exact absurd hx na
      · exact hx'
    · intro hx
      rcases List.mem_cons.1 ((h x).2 (by simp [hx])) with rfl | hx'
      · exact absurd hx nb
      · exact hx'

/-- how many elements at the beginning come before x -/
def lbF (l : List Fac) (r : Int) : Nat := (l.takeWhile fun y => decide (y.ref < r)).length
def lbO (l : List (Int × Int)) (b : Int × Int) : Nat := (l.takeWhile fun y => ltO y b).length
def insA {α : Type} (l : List α) (k : Nat) (x : α) : List α := l.take k ++ [x] ++ l.drop k
/-- the error of filing a fact: 0: none -/
def Fil.putE (c : Con) (f : Fil) (x : Fac) : Int :=
  if f.ok c && c.facOk x then (if hasRef f.facts x.ref then 9 else if 4000 ≤ f.facts.length then 3 else 0) else 1
def Fil.put (f : Fil) (x : Fac) : Fil := { f with facts := insA f.facts (lbF f.facts x.ref) x }
def hasOrd (l : List (Int × Int)) (b : Int × Int) : Bool := l.any fun y => y == b
def Fil.ordE (c : Con) (f : Fil) (b : Int × Int) : Int :=
  if f.ok c && !(b.1 == b.2) then (if hasRef f.facts b.1 && hasRef f.facts b.2 then (if hasOrd f.ords b then 9 else if 4000 ≤ f.ords.length then 3 else 0) else 14) else 1
def Fil.ord (f : Fil) (b : Int × Int) : Fil := { f with ords := insA f.ords (lbO f.ords b) b }
def Fil.part (f : Fil) (p : Fac → Bool) : Fil :=
  { f with facts := f.facts.filter p, ords := f.ords.filter fun b => hasRef (f.facts.filter p) b.1 && hasRef (f.facts.filter p) b.2 }
def Fil.asOf (f : Fil) (day : Int) : Fil := f.part fun x => decide (x.filed ≤ day)
def Fil.open_ (f : Fil) : Fil := f.part fun x => !x.sec
/-- f has all facts and orders of g -/
def Fil.has (f g : Fil) : Bool := g.facts.all (fun x => decide (x ∈ f.facts)) && g.ords.all (fun b => decide (b ∈ f.ords)) && f.house == g.house
end Go.Proofs.YtemkghgcdpmlbaaDoor
/- Plain: decimal texts of numbers (these theorems stood in Rt1 at ratio's seat). -/
namespace Go.Proofs.YtemkghgcdpmlbaaDoor

theorem pu_app : ∀ (l r : List UInt8) (acc m : Nat), Lib.parseUint10 acc l = .ok m → Lib.parseUint10 acc (l ++ r) = Lib.parseUint10 m r
  | [], r, acc, m, h => by
    simp only [Lib.parseUint10] at h
    injection h with h
    subst h; rfl
  | c :: l, r, acc, m, h => by
    simp only [List.cons_append, Lib.parseUint10] at h ⊢
    split at h
    · rename_i h1
      rw [if_pos h1]
      split at h
      · cases h
      · rename_i h2
        rw [if_neg h2]
        split at h
        · cases h
        · rename_i h3
          rw [if_neg h3]
          exact pu_app l r _ m h
    · cases h
theorem dig_byte {k : Nat} (h : k < 10) : (UInt8.ofNat (48 + k)).toNat = 48 + k := by
  show (48 + k) % 2 ^ 8 = 48 + k
  omega
theorem pu_one (acc k : Nat) (h : k < 10) (hb : acc * 10 + k < 18446744073709551616) : Lib.parseUint10 acc [UInt8.ofNat (48 + k)] = .ok (acc * 10 + k) := by
  simp only [Lib.parseUint10, dig_byte h]
  rw [if_pos (by omega), if_neg (by omega), if_neg (by omega)]
  congr 1; omega
theorem pu_dec (u : Nat) (h : u < 18446744073709551616) : Lib.parseUint10 0 (Lib.decDigits u) = .ok u := by
  induction u using Nat.strongRecOn with
  | _ u ih =>
    rw [Lib.decDigits]
    split
    · rename_i h1
      have := pu_one 0 u h1 (by omega)
      rw [this]; congr 1; omega
    · rename_i h1
      rw [pu_app _ _ _ _ (ih (u / 10) (by omega) (by omega)), pu_one _ _ (by omega) (by omega)]
      congr 1; omega
theorem dec_dig (u : Nat) : ∀ c ∈ Lib.decDigits u, 48 ≤ c.toNat ∧ c.toNat ≤ 57 := by
  induction u using Nat.strongRecOn with
  | _ u ih =>
    intro c hc
    rw [Lib.decDigits] at hc
    split at hc
    · rename_i h1
      rw [List.mem_singleton] at hc
      subst hc
      rw [dig_byte h1]; omega
    · rename_i h1
      rw [List.mem_append, List.mem_singleton] at hc
      rcases hc with hc | hc
      · exact ih (u / 10) (by omega) c hc
      · subst hc
        rw [dig_byte (by omega)]; omega
theorem dec_ne (u : Nat) : Lib.decDigits u ≠ [] := by
  rw [Lib.decDigits]
  split
  · simp
  · simp
theorem pm_dec (u : Nat) (h : u < 18446744073709551616) : Lib.parseMag (Lib.decDigits u) = .ok u := by
  unfold Lib.parseMag
  rw [if_neg (dec_ne u), pu_dec u h]
theorem atoi_itoa (n : Int) (h0 : -9223372036854775808 ≤ n) (h1 : n ≤ 9223372036854775807) : Lib.atoiAll (Lib.itoa n) = .ok n := by
  unfold Lib.itoa
  split
  · rename_i hn
    have hp := pm_dec n.natAbs (by omega)
    simp only [Lib.atoiAll]
    rw [if_pos (by right; rfl), hp]
    simp only
    rw [if_neg (by intro h; exact h.1 rfl), if_neg (by omega), if_pos (show UInt8.toNat 45 = 45 from rfl)]
    congr 1; omega
  · rename_i hn
    have hp := pm_dec n.toNat (by omega)
    have hd := dec_dig n.toNat
    cases hl : Lib.decDigits n.toNat with
    | nil => exact absurd hl (dec_ne _)
    | cons c r =>
      rw [hl] at hp hd
      have hc := hd c (List.mem_cons_self ..)
      simp only [Lib.atoiAll]
      rw [if_neg (by omega), hp]
      simp only
      rw [if_neg (by omega), if_neg (by omega), if_neg (by omega)]
      congr 1; omega
theorem itoa_no32 (n : Int) : (32 : UInt8) ∉ Lib.itoa n := by
  intro h
  unfold Lib.itoa at h
  split at h
  · rw [List.mem_cons] at h
    rcases h with h | h
    · cases h
    · have := dec_dig _ _ h
      simp at this
  · have := dec_dig _ _ h
    simp at this
theorem itoa_ne (n : Int) : Lib.itoa n ≠ [] := by
  unfold Lib.itoa
  split
  · simp
  · exact dec_ne _
end Go.Proofs.YtemkghgcdpmlbaaDoor
/- The text of a fact, and what a text is parsed as: its pieces between blanks, one after the other. No program in sight. -/
namespace Go.Proofs.YtemkghgcdpmlbaaDoor

def fword : List UInt8 := [102, 97, 99, 116]
def fbit (b : Bool) : Int := if b then 1 else 0
def Fac.nums (x : Fac) : List Int := [x.ref, x.act, x.low, x.high, x.filed, fbit x.sec]
def Fac.text (x : Fac) : List UInt8 := fword ++ x.nums.flatMap fun n => 32 :: Lib.itoa n
def J64 (n : Int) : Prop := -9223372036854775808 ≤ n ∧ n ≤ 9223372036854775807
structure Fac.I64 (x : Fac) : Prop where
  a : J64 x.ref
  b : J64 x.act
  c : J64 x.low
  d : J64 x.high
  e : J64 x.filed
theorem Fac.I64.nums {x : Fac} (h : x.I64) : ∀ n ∈ x.nums, J64 n := by
  intro n hn
  unfold Fac.nums at hn
  simp only [List.mem_cons, List.not_mem_nil, or_false] at hn
  rcases hn with rfl | rfl | rfl | rfl | rfl | rfl
  · exact h.a
  · exact h.b
  · exact h.c
  · exact h.d
  · exact h.e
  · unfold fbit J64; split <;> omega
/-- the state of the reader: is the first word still to come? the numbers so far -/
structure Rf where
  first : Bool
  ns : List Int
/-- one piece read -/
def Rf.step (s : Rf) (p : List UInt8) : Option Rf :=
  if s.first = true ∧ p = fword then some ⟨false, s.ns⟩
  else match Lib.atoiAll p with
    | .ok n => if s.first = true ∨ s.ns.length = 6 then none else some ⟨s.first, s.ns ++ [n]⟩
    | _ => none
/-- the pieces of a text, read one after the other (fuel: more than there are blanks) -/
def Rf.run : Nat → Rf → List UInt8 → Option Rf
  | 0, _, _ => none
  | k + 1, s, t =>
    match s.step (Lib.cut t [32]).1 with
    | none => none
    | some s' => if (Lib.cut t [32]).2.2 then Rf.run k s' (Lib.cut t [32]).2.1 else some s'
theorem index_no32 : ∀ (l : List UInt8) (b : UInt8), b ∉ l → Lib.index l [b] = -1
  | [], b, _ => by simp [Lib.index]
  | c :: l, b, h => by
    have h1 : c ≠ b := fun e => h (by simp [e])
    have h2 : b ∉ l := fun e => h (by simp [e])
    unfold Lib.index
    rw [index_no32 l b h2]
    have : List.isPrefixOf [b] (c :: l) = false := by simp [List.isPrefixOf, Ne.symm h1]
    rw [this]
    simp
theorem index_at32 : ∀ (l r : List UInt8) (b : UInt8), b ∉ l → Lib.index (l ++ b :: r) [b] = l.length
  | [], r, b, _ => by
    unfold Lib.index
    simp [List.isPrefixOf]
  | c :: l, r, b, h => by
    have h1 : c ≠ b := fun e => h (by simp [e])
    have h2 : b ∉ l := fun e => h (by simp [e])
    show Lib.index (c :: (l ++ b :: r)) [b] = _
    unfold Lib.index
    rw [index_at32 l r b h2]
    have : List.isPrefixOf [b] (c :: (l ++ b :: r)) = false := by simp [List.isPrefixOf, Ne.symm h1]
    rw [this]
    have e : (((l.length : Nat) : Int) == -1) = false := by rw [beq_eq_false_iff_ne]; omega
    simp [e]
theorem cut_no32 (l : List UInt8) (h : (32 : UInt8) ∉ l) : Lib.cut l [32] = (l, [], false) := by
  unfold Lib.cut
  rw [index_no32 l 32 h, if_neg (by omega)]
theorem cut_at32 (l r : List UInt8) (h : (32 : UInt8) ∉ l) : Lib.cut (l ++ 32 :: r) [32] = (l, r, true) := by
  unfold Lib.cut
  rw [index_at32 l r 32 h, if_pos (by omega)]
  simp
theorem split32 : ∀ {t : List UInt8}, (32 : UInt8) ∈ t → ∃ a b, t = a ++ 32 :: b ∧ (32 : UInt8) ∉ a
  | [], h => by cases h
  | c :: t, h => by
    by_cases hc : c = 32
    · exact ⟨[], t, by rw [hc]; rfl, by simp⟩
    · obtain ⟨a, b, e, hn⟩ := split32 (t := t) (by
        rcases List.mem_cons.1 h with e | e
        · exact absurd e.symm hc
        · exact e)
      exact ⟨c :: a, b, by rw [e]; rfl, by simp [hn, Ne.symm hc]⟩
/-- a text that is cut is longer than what is left -/
theorem cut_len32 (t : List UInt8) (h : (Lib.cut t [32]).2.2 = true) : (Lib.cut t [32]).2.1.length < t.length := by
  by_cases hm : (32 : UInt8) ∈ t
  · obtain ⟨a, b, rfl, hn⟩ := split32 hm
    rw [cut_at32 a b hn]
    simp
    omega
  · rw [cut_no32 t hm] at h; cases h
def words (l : List Int) : List UInt8 := l.flatMap fun n => 32 :: Lib.itoa n
/-- numbers read in a row -/
theorem run_words : ∀ (l : List Int) (acc : List Int) (k : Nat) (p : List UInt8) (s : Rf), (32 : UInt8) ∉ p → s.step p = some ⟨false, acc⟩ → (∀ n ∈ l, J64 n) → acc.length + l.length ≤ 6 → l.length < k →
    Rf.run k s (p ++ words l) = some ⟨false, acc ++ l⟩
  | [], acc, 0, p, s, _, _, _, _, hk => absurd hk (by simp)
  | [], acc, k + 1, p, s, hp, hs, _, _, _ => by
    unfold Rf.run
    rw [show p ++ words [] = p from List.append_nil p, cut_no32 p hp]
    simp only [hs]
    simp
  | n :: l, acc, 0, p, s, _, _, _, _, hk => absurd hk (by simp)
  | n :: l, acc, k + 1, p, s, hp, hs, hI, h6, hk => by
    unfold Rf.run
    rw [show p ++ words (n :: l) = p ++ 32 :: (Lib.itoa n ++ words l) by simp [words], cut_at32 p _ hp]
    simp only [hs, if_true]
    have hn := hI n (by simp)
    rw [run_words l (acc ++ [n]) k (Lib.itoa n) ⟨false, acc⟩ (itoa_no32 n) ?_ (fun m hm => hI m (by simp [hm])) (by simp only [List.length_append, List.length_cons, List.length_nil] at h6 ⊢; omega) (by simp only [List.length_cons] at hk; omega)]
    · simp
    · unfold Rf.step
      simp only [List.length_cons] at h6
      rw [atoi_itoa n hn.1 hn.2, if_neg (by simp)]
      simp only
      rw [if_neg (by simp; omega)]
/-- the fact whose numbers these are -/
def facOf (l : List Int) : Option Fac :=
  match l with
  | [a, b, c, d, e, f] => some ⟨a, b, c, d, e, f == 1⟩
  | _ => none
theorem facOf_nums (x : Fac) : facOf x.nums = some x := by
  obtain ⟨a, b, c, d, e, f⟩ := x
  cases f <;> rfl
/-- what a text is parsed as -/
def prsF (t : List UInt8) : Option Fac :=
  match Rf.run (t.length + 1) ⟨true, []⟩ t with
  | some s => match facOf s.ns with
    | some x => if x.text = t then some x else none
    | none => none
  | none => none
theorem words_len : ∀ l : List Int, l.length ≤ (words l).length
  | [] => by simp [words]
  | n :: l => by
    have h := words_len l
    rw [show words (n :: l) = 32 :: (Lib.itoa n ++ words l) by simp [words]]
    simp only [List.length_cons, List.length_append]
    omega
theorem prsF_text {x : Fac} (h : x.I64) : prsF x.text = some x := by
  unfold prsF
  have hr := run_words x.nums [] (x.text.length + 1) fword ⟨true, []⟩ (by decide) (by rfl) h.nums (by simp [Fac.nums]) (by
    have := words_len x.nums
    show _ < (fword ++ words x.nums).length + 1
    rw [List.length_append]; omega)
  rw [show fword ++ words x.nums = x.text from rfl] at hr
  rw [hr]
  simp only [List.nil_append, facOf_nums, if_true]
theorem prsF_back {t : List UInt8} {x : Fac} (h : prsF t = some x) : x.text = t := by
  unfold prsF at h
  split at h
  · split at h
    · split at h
      · simp only [Option.some.injEq] at h; subst h; assumption
      · cases h
    · cases h
  · cases h
/-- facts with the same text are equal -/
theorem text_inj {x y : Fac} (hx : x.I64) (hy : y.I64) (h : x.text = y.text) : x = y := by
  have h1 := prsF_text hx
  rw [h, prsF_text hy] at h1
  exact (Option.some.inj h1).symm
/-- more fuel than blanks changes nothing -/
theorem run_fuel : ∀ (k m : Nat) (s : Rf) (t : List UInt8), t.length < k → t.length < m → Rf.run k s t = Rf.run m s t
  | 0, _, _, t, h, _ => absurd h (by omega)
  | _ + 1, 0, _, t, _, h => absurd h (by omega)
  | k + 1, m + 1, s, t, h1, h2 => by
    unfold Rf.run
    cases hs : s.step (Lib.cut t [32]).1 with
    | none => rfl
    | some s' =>
      simp only
      split
      case isTrue hc =>
        have := cut_len32 t hc
        exact run_fuel k m s' _ (by omega) (by omega)
      case isFalse => rfl
end Go.Proofs.YtemkghgcdpmlbaaDoor
