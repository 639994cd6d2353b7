/- Contracts of functions and plain laws, joined: Mem, Kp, Math, Ka1, Pt0, R01, Kb1, Pt1. -/
import Derived.WalkKit
import Derived.Below
import Derived.Laws.OwnMore
import Derived.Deep.Draws
import Derived.Lib.AtoiAll
import Derived.Lib.AtoiAllCases
import Derived.Lib.ItoaNum
import Derived.Lib.ItoaLen
import Derived.Test.YtplommmegkdhdaaGreatDoorProg
import Derived.IntWalk
import Derived.BigQuiet
import Derived.Deep.QuietTactic
import Derived.Deep.RegionHeld3
import Derived.RegionTactic
import Derived.Outline
import Derived.Lib.Hide
/- Words for memory: a slice that reads as a list of elements, each of a fixed number of cells; kept over what calls do. -/
namespace Go.Proofs.YtplommmegkdhdaaGreatDoor
open Go.RowKit

/-- A slice value whose address is A reads, in the world w, below block number B, as the list xs of elements of 'size' cells each (enc: the cells of an element). -/
def Seg {α : Type} (w : World) (B : Nat) (size : Nat) (enc : α → List Value) (A : Option Addr) (xs : List α) : Prop :=
  ∀ k x, xs[k]? = some x → ∃ b off, A = some ⟨b, off, none⟩ ∧ b < B ∧ ∀ j u, (enc x)[j]? = some u → w.cell? ⟨b, off + k * size + j, none⟩ = some u

section
variable {α : Type} {w w' : World} {B B' size : Nat} {enc : α → List Value} {A : Option Addr} {xs : List α}
theorem Seg.nil (w : World) (B size : Nat) (enc : α → List Value) (A : Option Addr) : Seg w B size enc A [] := fun k x h => by simp at h
theorem Seg.some_ (h : Seg w B size enc A xs) (hk : 0 < xs.length) : ∃ b off, A = some ⟨b, off, none⟩ ∧ b < B := by
  obtain ⟨b, off, e, hb, _⟩ := h 0 _ (List.getElem?_eq_getElem hk)
  exact ⟨b, off, e, hb⟩
theorem Seg.keep (h : Seg w B size enc A xs) (hk : ∀ b o, b < B → w'.cell? ⟨b, o, none⟩ = w.cell? ⟨b, o, none⟩) : Seg w' B size enc A xs := fun k x hx => by
  obtain ⟨b, off, e, hb, hc⟩ := h k x hx
  exact ⟨b, off, e, hb, fun j u hu => (hk _ _ hb).trans (hc j u hu)⟩
theorem Seg.more (h : Seg w B size enc A xs) (hB : B ≤ B') : Seg w B' size enc A xs := fun k x hx => by
  obtain ⟨b, off, e, hb, hc⟩ := h k x hx
  exact ⟨b, off, e, by omega, hc⟩
theorem Seg.below (h : Seg w B size enc A xs) (hb : Below B w w') : Seg w' B size enc A xs := h.keep fun b o hp => hb.cell (p := ⟨b, o, none⟩) hp
end

theorem below_drewN {B : Nat} {a w : World} (h : Below B a w) (n : Nat) : Below B a (w.drewN n) := ⟨h.os, h.tape, h.output, h.size, h.block⟩
theorem below_then {w a b : World} (h : Below w.heap.size w a) (k : Below a.heap.size a b) : Below w.heap.size w b := h.trans (k.mono h.size)
theorem below_alloc {w a : World} (h : Below w.heap.size w a) (o : Obj) : Below w.heap.size w (a.alloc o) := h.alloc h.size o
theorem bcell {W w1 : World} (hb : Below W.heap.size W w1) : (∀ b o, b < W.heap.size → w1.cell? ⟨b, o, none⟩ = W.cell? ⟨b, o, none⟩) ∧ (∀ b o, b < W.heap.size → w1.frozen? ⟨b, o, none⟩ = W.frozen? ⟨b, o, none⟩) :=
  ⟨fun b o h => hb.cell (p := ⟨b, o, none⟩) h, fun b o h => hb.frozen (p := ⟨b, o, none⟩) h⟩

/-- A block known whole: none of its cells is frozen. -/
def Blk (w : World) (g : Nat) (t : TypeId) (cs : Array Value) : Prop := w.heap[g]? = some (.cells cs t (0, 0))
section
variable {w w' : World} {g : Nat} {t : TypeId} {cs : Array Value}
theorem Blk.lt (h : Blk w g t cs) : g < w.heap.size := by
  rcases Nat.lt_or_ge g w.heap.size with hlt | hge
  · exact hlt
  · unfold Blk at h; rw [Array.getElem?_eq_none hge] at h; cases h
theorem Blk.cell (h : Blk w g t cs) (i : Nat) : w.cell? ⟨g, i, none⟩ = cs[i]? := cell_of_row w g i cs t (0, 0) h
theorem Blk.frozen (h : Blk w g t cs) (i : Nat) : w.frozen? ⟨g, i, none⟩ = false := by
  unfold Blk at h
  simp [World.frozen?, h]
theorem Blk.new (w : World) (t : TypeId) (cs : Array Value) : Blk (w.alloc (.cells cs t)) w.heap.size t cs := heap_alloc_new w _
theorem Blk.drew (h : Blk w g t cs) : Blk w.drew g t cs := h
theorem Blk.drewN (h : Blk w g t cs) (n : Nat) : Blk (w.drewN n) g t cs := h
theorem Blk.alloc (h : Blk w g t cs) (o : Obj) : Blk (w.alloc o) g t cs := (Below.heap_alloc w o g h.lt).trans h
theorem Blk.set_ (h : Blk w g t cs) (i : Nat) (u : Value) : Blk (w.setCell ⟨g, i, none⟩ u) g t (cs.setIfInBounds i u) := by
  unfold Blk at h ⊢
  simp [World.setCell, Array.getElem?_modify, h]
theorem Blk.far (h : Blk w g t cs) {p : Addr} (hp : g ≠ p.block) (u : Value) : Blk (w.setCell p u) g t cs := (Below.heap_setCell w p u g hp).trans h
theorem Blk.below {B : Nat} (h : Blk w g t cs) (hb : Below B w w') (hg : g < B) : Blk w' g t cs := (hb.block g hg).trans h
theorem Blk.then_ (h : Blk w g t cs) (hb : Below w.heap.size w w') : Blk w' g t cs := h.below hb h.lt
theorem Blk.grown {row : Option Nat} (h : Blk w g t cs) (hb : w.grownBy w' row) (hg : some g ≠ row) : Blk w' g t cs := (hb.block g h.lt hg).trans h
theorem Blk.setT0 {x y u : Value} (h : Blk w g t #[x, y]) : Blk (w.setCell ⟨g, 0, none⟩ u) g t #[u, y] := h.set_ 0 u
theorem Blk.setT1 {x y u : Value} (h : Blk w g t #[x, y]) : Blk (w.setCell ⟨g, 1, none⟩ u) g t #[x, u] := h.set_ 1 u
theorem Blk.two {x y : Value} (h : Blk w g t #[x, y]) : w.cell? ⟨g, 0, none⟩ = some x ∧ w.cell? ⟨g, 1, none⟩ = some y ∧ w.frozen? ⟨g, 0, none⟩ = false ∧ w.frozen? ⟨g, 1, none⟩ = false :=
  ⟨h.cell 0, h.cell 1, h.frozen 0, h.frozen 1⟩
theorem Blk.one {x : Value} (h : Blk w g t #[x]) : w.cell? ⟨g, 0, none⟩ = some x ∧ w.frozen? ⟨g, 0, none⟩ = false := ⟨h.cell 0, h.frozen 0⟩
end
theorem ret_int {k : IntKind} {a b : Int} (h : a = b) : Ending.returned (.int k a) = .returned (.int k b) := by rw [h]
theorem ret_bool {a b : Bool} (h : a = b) : Ending.returned (.bool a) = .returned (.bool b) := by rw [h]
theorem wa1 (w : World) (o : Obj) : Below w.heap.size w (w.alloc o) := (Below.refl _ _).alloc (Nat.le_refl _) o
end Go.Proofs.YtplommmegkdhdaaGreatDoor
/- All blocks but two stay (these theorems stood in Cb2 at r3's seat). -/
namespace Go.Proofs.YtplommmegkdhdaaGreatDoor
open Go.RowKit
structure Kp (x y : Nat) (w w' : World) : Prop where
  os : w'.os = w.os
  tape : w'.tape = w.tape
  output : w'.output = w.output
  size : w.heap.size ≤ w'.heap.size
  block : ∀ k, k < w.heap.size → k ≠ x → k ≠ y → w'.heap[k]? = w.heap[k]?
section
variable {x y : Nat} {w w' w'' : World}
theorem Kp.refl (x y : Nat) (w : World) : Kp x y w w := ⟨rfl, rfl, rfl, Nat.le_refl _, fun _ _ _ _ => rfl⟩
theorem Kp.of (h : Below w.heap.size w w') : Kp x y w w' := ⟨h.os, h.tape, h.output, h.size, fun k hk _ _ => h.block k hk⟩
theorem Kp.trans (h : Kp x y w w') (h' : Kp x y w' w'') : Kp x y w w'' :=
  ⟨h'.os.trans h.os, h'.tape.trans h.tape, h'.output.trans h.output, Nat.le_trans h.size h'.size, fun k hk h1 h2 => (h'.block k (Nat.lt_of_lt_of_le hk h.size) h1 h2).trans (h.block k hk h1 h2)⟩
theorem Kp.setX (h : Kp x y w w') {o : Nat} (v : Value) : Kp x y w (w'.setCell ⟨x, o, none⟩ v) :=
  ⟨h.os, h.tape, h.output, by simpa using h.size, fun k hk h1 h2 => (Below.heap_setCell _ _ _ _ h1).trans (h.block k hk h1 h2)⟩
theorem Kp.setY (h : Kp x y w w') {o : Nat} (v : Value) : Kp x y w (w'.setCell ⟨y, o, none⟩ v) :=
  ⟨h.os, h.tape, h.output, by simpa using h.size, fun k hk h1 h2 => (Below.heap_setCell _ _ _ _ h2).trans (h.block k hk h1 h2)⟩
theorem Kp.blk {g : Nat} {t : TypeId} {cs : Array Value} (h : Kp x y w w') (hg : Blk w g t cs) (h1 : g ≠ x) (h2 : g ≠ y) : Blk w' g t cs := (h.block g hg.lt h1 h2).trans hg
theorem Kp.below {B : Nat} (h : Kp x y w w') (h1 : B ≤ x) (h2 : B ≤ y) (h3 : B ≤ w.heap.size) : Below B w w' := ⟨h.os, h.tape, h.output, h.size, fun k hk => h.block k (by omega) (by omega) (by omega)⟩
end
end Go.Proofs.YtplommmegkdhdaaGreatDoor
/- Plain facts on integers, greatest common divisors and rational numbers: what the functions of package ratio compute. No program in sight. -/
namespace Go.Proofs.YtplommmegkdhdaaGreatDoor

theorem gcd_step (x y : Int) (hx : 0 ≤ x) (hy : 0 ≤ y) : Int.gcd y (x % y) = Int.gcd x y := by
  obtain ⟨a, rfl⟩ := Int.eq_ofNat_of_zero_le hx
  obtain ⟨b, rfl⟩ := Int.eq_ofNat_of_zero_le hy
  rw [← Int.natCast_emod]
  simp only [Int.gcd, Int.natAbs_natCast]
  rw [Nat.gcd_comm a b, Nat.gcd_comm b (a % b), ← Nat.gcd_rec]

/-- the magnitude of an integer -/
def mag (n : Int) : Int := n.natAbs
theorem mag_neg {n : Int} (h : n < 0) : mag n = -n := by unfold mag; omega
theorem mag_pos {n : Int} (h : 0 ≤ n) : mag n = n := by unfold mag; omega
theorem mag_bd {n : Int} (h1 : -9223372036854775808 ≤ n) (h2 : n ≤ 9223372036854775807) : 0 ≤ mag n ∧ mag n ≤ 9223372036854775808 := by unfold mag; omega
theorem gcd_mag (a b : Int) : Int.gcd (mag a) (mag b) = Int.gcd a b := by simp [mag, Int.gcd]

/-- a ratio is valid -/
def vld (n d : Int) : Bool := decide (1 ≤ d ∧ d ≤ 1000000 ∧ -1000000000000 ≤ n ∧ n ≤ 1000000000000 ∧ Int.gcd n d = 1)
theorem vld_mk {n d : Int} (h : 1 ≤ d ∧ d ≤ 1000000 ∧ -1000000000000 ≤ n ∧ n ≤ 1000000000000 ∧ Int.gcd n d = 1) : vld n d = true := by simp [vld, h]
theorem vld_no {n d : Int} (h : ¬ (1 ≤ d ∧ d ≤ 1000000 ∧ -1000000000000 ≤ n ∧ n ≤ 1000000000000 ∧ Int.gcd n d = 1)) : vld n d = false := by simp [vld, h]
theorem vld_of {n d : Int} (h : vld n d = true) : 1 ≤ d ∧ d ≤ 1000000 ∧ -1000000000000 ≤ n ∧ n ≤ 1000000000000 ∧ Int.gcd n d = 1 := by simpa [vld] using h

/-- a rational number is within the limits of ratios -/
def inR (q : Rat) : Bool := decide (-1000000000000 ≤ q.num ∧ q.num ≤ 1000000000000 ∧ q.den ≤ 1000000)
/-- what an operation gives whose exact result is q: numerator, denominator, error -/
def oN (q : Rat) : Int := if inR q then q.num else 0
def oD (q : Rat) : Int := if inR q then q.den else 0
def oE (q : Rat) : Int := if inR q then 0 else 2
theorem oN_yes {q : Rat} (h : inR q = true) : oN q = q.num := by simp [oN, h]
theorem oD_yes {q : Rat} (h : inR q = true) : oD q = q.den := by simp [oD, h]
theorem oE_yes {q : Rat} (h : inR q = true) : oE q = 0 := by simp [oE, h]
theorem oN_no {q : Rat} (h : inR q = false) : oN q = 0 := by simp [oN, h]
theorem oD_no {q : Rat} (h : inR q = false) : oD q = 0 := by simp [oD, h]
theorem oE_no {q : Rat} (h : inR q = false) : oE q = 2 := by simp [oE, h]

theorem inR_bd {q : Rat} (h : inR q = true) : -1000000000000 ≤ q.num ∧ q.num ≤ 1000000000000 ∧ 1 ≤ (q.den : Int) ∧ (q.den : Int) ≤ 1000000 := by
  have := q.den_pos
  simp only [inR, decide_eq_true_eq] at h
  omega
theorem gcd_num_den (q : Rat) : Int.gcd q.num q.den = 1 := by
  have := q.reduced
  simpa [Int.gcd] using this
theorem inR_vld {q : Rat} (h : inR q = true) : vld q.num q.den = true := by
  have := inR_bd h
  exact vld_mk ⟨this.2.2.1, this.2.2.2, this.1, this.2.1, gcd_num_den q⟩
/-- a valid ratio is a rational number within the limits -/
theorem rat_of_vld {n d : Int} (h : vld n d = true) : ∃ q : Rat, inR q = true ∧ q.num = n ∧ (q.den : Int) = d := by
  obtain ⟨h1, h2, h3, h4, h5⟩ := vld_of h
  refine ⟨⟨n, d.toNat, by omega, ?_⟩, ?_, rfl, by simp; omega⟩
  · have : Int.gcd n d = Nat.gcd n.natAbs d.toNat := by
      simp only [Int.gcd]; congr 1; omega
    rw [this] at h5; exact h5
  · simp only [inR, decide_eq_true_eq]; omega

/-- numerator and denominator of a quotient of magnitudes with a sign -/
theorem quot_num {a b : Int} (hb : 0 < b) : (Rat.divInt a b).num = a / (Int.gcd a b : Int) := by
  rw [Rat.num_divInt, Int.sign_eq_one_of_pos hb, Int.one_mul, Int.gcd_comm]
theorem quot_den {a b : Int} (hb : 0 < b) : ((Rat.divInt a b).den : Int) = b / (Int.gcd a b : Int) := by
  rw [Rat.den_divInt, if_neg (by omega), Int.gcd_comm, Int.natCast_ediv]
  congr 1; omega
theorem sgn_num (s : Bool) {a b : Int} (hb : 0 < b) : (Rat.divInt (if s then -a else a) b).num = if s then -(a / (Int.gcd a b : Int)) else a / (Int.gcd a b : Int) := by
  cases s
  · simpa using quot_num hb
  · simp only [if_true, ← Rat.neg_divInt, Rat.neg_num, quot_num hb]
theorem sgn_den (s : Bool) {a b : Int} (hb : 0 < b) : ((Rat.divInt (if s then -a else a) b).den : Int) = b / (Int.gcd a b : Int) := by
  cases s
  · simpa using quot_den hb
  · simp only [if_true, ← Rat.neg_divInt, Rat.neg_den, quot_den hb]
/-- the quotient out of two magnitudes and the sign -/
theorem divInt_mag (p q : Int) : Rat.divInt (if (decide (p < 0) != decide (q < 0)) then -(mag p) else mag p) (mag q) = Rat.divInt p q := by
  by_cases h1 : p < 0 <;> by_cases h2 : q < 0
  · simp only [h1, h2, decide_true, bne_self_eq_false, Bool.false_eq_true, if_false, mag_neg h1, mag_neg h2, Rat.neg_divInt_neg]
  · have h2' : 0 ≤ q := by omega
    simp [h1, h2, mag_neg h1, mag_pos h2']
  · have h1' : 0 ≤ p := by omega
    simp [h1, h2, mag_pos h1', mag_neg h2, Rat.neg_divInt_neg]
  · have h1' : 0 ≤ p := by omega
    have h2' : 0 ≤ q := by omega
    simp [h1, h2, mag_pos h1', mag_pos h2']

theorem add_divInt (q r : Rat) : Rat.divInt (q.num * r.den + r.num * q.den) (q.den * r.den) = q + r := by
  rw [Rat.add_def', ← Int.natCast_mul, Rat.divInt_ofNat]
theorem sub_divInt (q r : Rat) : Rat.divInt (q.num * r.den - r.num * q.den) (q.den * r.den) = q - r := by
  rw [Rat.sub_def', ← Int.natCast_mul, Rat.divInt_ofNat]
theorem div_divInt (q r : Rat) : Rat.divInt (q.num * r.den) (q.den * r.num) = q / r := by
  rw [Rat.div_def, Rat.inv_def]
  conv => rhs; rw [← Rat.num_divInt_den q]
  rw [Rat.divInt_mul_divInt]
/-- products of what is in range fit -/
theorem mul_bd {a b : Int} {A B : Int} (h1 : -A ≤ a) (h2 : a ≤ A) (h3 : -B ≤ b) (h4 : b ≤ B) : -(A * B) ≤ a * b ∧ a * b ≤ A * B := by
  have hA : 0 ≤ A := by omega
  have hB : 0 ≤ B := by omega
  have e1 : 0 ≤ (A - a) * (B + b) := Int.mul_nonneg (by omega) (by omega)
  have e2 : 0 ≤ (A + a) * (B - b) := Int.mul_nonneg (by omega) (by omega)
  have e3 : 0 ≤ (A - a) * (B - b) := Int.mul_nonneg (by omega) (by omega)
  have e4 : 0 ≤ (A + a) * (B + b) := Int.mul_nonneg (by omega) (by omega)
  constructor <;> grind
end Go.Proofs.YtplommmegkdhdaaGreatDoor
/- Contracts and patches as plain data: which contracts are valid, and what a patch makes of one. No program in sight. -/
namespace Go.Proofs.YtplommmegkdhdaaGreatDoor

structure Uni where
  nm : ByteArray
  kind : Int
  base : Int
  f : Int × Int
  deriving DecidableEq
structure Atc where
  kind : Int
  role : Int
  give : Int
  to_ : Int
  unit : Int
  lot : Int × Int
  deriving DecidableEq
structure Cla where
  kind : Int
  role : Int
  act : Int
  need : Int
  start : List (Int × Int)
  aft : Int
  grace : Int
  bus : Bool
  fin : Bool
  pause : Int
  resume : Int
  v : Int × Int
  unit : Int
  to_ : Int
  waived : Bool
  deriving DecidableEq
structure Con where
  par : Int
  hold : List Int
  un : List Uni
  ac : List Atc
  cl : List Cla
  days : Int
  off : List Int
  deriving DecidableEq
structure Pat where
  kind : Int
  cls : List Int
  new : Cla
  days : Int
  deriving DecidableEq
/-- an index of a list with n elements -/
def isI (i : Int) (n : Nat) : Bool := decide (0 ≤ i) && decide (i < n)
theorem isI_iff {i : Int} {n : Nat} : isI i n = true ↔ 0 ≤ i ∧ i < n := by simp [isI]
def zer (r : Int × Int) : Bool := r.1 == 0 && r.2 == 1
def psv (r : Int × Int) : Bool := decide (0 < r.1) && vld r.1 r.2
def uniOk (t : List Uni) (i : Nat) (u : Uni) : Bool :=
  decide (i < 20) && !(u.nm.toList == []) && (t.take i).all (fun o => !(o.nm.toList == u.nm.toList)) && (u.kind == 1 || u.kind == 2) && vld u.f.1 u.f.2 && decide (0 < u.f.1) &&
    isI u.base t.length && (match t[u.base.toNat]? with | some b => b.kind == u.kind && b.base == u.base | none => false) && (u.base != (i : Int) || (u.f.1 == 1 && u.f.2 == 1))
/-- the units from place i on are valid -/
def unsOk (t : List Uni) : Nat → List Uni → Bool
  | _, [] => true
  | i, u :: r => uniOk t i u && unsOk t (i + 1) r
def Con.mov (c : Con) (r : Int) : Bool := isI r c.hold.length
def Con.actOk (c : Con) (a : Atc) : Bool :=
  if c.mov a.role then
    if a.kind == 1 then
      a.give == 0 && (a.to_ == -1 || c.mov a.to_) && (if a.unit == -1 then zer a.lot else isI a.unit c.un.length && psv a.lot)
    else (a.kind == 2 || a.kind == 3) && c.mov a.give && decide (0 ≤ a.to_) && decide (a.to_ < c.par) && a.unit == -1 && zer a.lot
  else a.kind == 1 && a.role == -1 && a.give == 0 && (a.to_ == -1 || c.mov a.to_) && a.unit == -1 && zer a.lot
def incO (days : Int) : Int → List Int → Bool
  | _, [] => true
  | last, d :: l => decide (last < d) && decide (d < days) && incO days d l
def Con.framed (c : Con) : Bool :=
  decide (1 ≤ c.par) && decide (1 ≤ c.days) && decide (0 < c.hold.length) && c.hold.all (fun h => decide (0 ≤ h) && decide (h < c.par)) && unsOk c.un 0 c.un && c.ac.all c.actOk && incO c.days (-1) c.off
def Con.nat (c : Con) (a : Int) : Bool := isI a c.ac.length && (match c.ac[a.toNat]? with | some x => x.kind == 1 && x.role == -1 | none => false)
def Con.kindOk (c : Con) (k : Cla) : Bool :=
  if k.kind == 4 then k.role == -1 && k.need == 1 && k.grace == 0 && !k.fin
  else c.mov k.role && !c.nat k.act && (
    if k.kind == 1 then decide (1 ≤ k.need) && decide (k.need ≤ 9) && decide (0 ≤ k.grace) && decide (k.grace ≤ 400)
    else if k.kind == 2 then k.need == 1 && k.grace == 0
    else k.kind == 3 && k.need == 1 && k.grace == 0 && !k.fin)
def condOk (n i : Nat) (s : Int × Int) : Bool := isI s.1 n && s.1 != (i : Int) && decide (1 ≤ s.2) && decide (s.2 ≤ 4)
def Con.pauseOk (c : Con) (k : Cla) : Bool := (k.pause == -1 && k.resume == -1) || (k.pause != k.resume && c.nat k.pause && c.nat k.resume)
def Con.costOk (c : Con) (k : Cla) : Bool :=
  if k.unit == -1 then zer k.v && k.to_ == -1
  else (k.kind == 1 || k.kind == 2) && isI k.unit c.un.length && (match c.un[k.unit.toNat]? with | some u => u.kind == 2 | none => false) && psv k.v && c.mov k.to_
/-- the clause k at place i is valid -/
def Con.claOk (c : Con) (i : Nat) (k : Cla) : Bool :=
  isI k.act c.ac.length && decide (1 ≤ k.aft) && decide (k.aft ≤ 400) && c.kindOk k && decide (k.start.length ≤ 8) && k.start.all (condOk c.cl.length i) && c.pauseOk k && c.costOk k
def Con.clsOk (c : Con) : Nat → List Cla → Bool
  | _, [] => true
  | i, k :: r => c.claOk i k && c.clsOk (i + 1) r
def Con.lim (c : Con) : Bool := decide (c.par ≤ 12) && decide (c.days ≤ 2000) && decide (c.hold.length ≤ 12) && decide (c.un.length ≤ 20) && decide (c.ac.length ≤ 60) && decide (c.cl.length ≤ 400)
def Con.ok (c : Con) : Bool := c.lim && c.framed && c.clsOk 0 c.cl
theorem Con.clsOk_iff (c : Con) : ∀ (l : List Cla) (i : Nat), c.clsOk i l = true ↔ ∀ j k, l[j]? = some k → c.claOk (i + j) k = true
  | [], i => by simp [Con.clsOk]
  | k :: l, i => by
    simp only [Con.clsOk, Bool.and_eq_true]
    rw [Con.clsOk_iff c l (i + 1)]
    constructor
    · rintro ⟨h1, h2⟩ j x hx
      cases j with
      | zero => simp at hx; subst hx; exact h1
      | succ j => rw [show i + (j + 1) = i + 1 + j by omega]; exact h2 j x (by simpa using hx)
    · intro h
      exact ⟨h 0 k rfl, fun j x hx => by rw [show i + 1 + j = i + (j + 1) by omega]; exact h (j + 1) x (by simpa using hx)⟩
/-- a clause does not look at other clauses: at their number alone -/
theorem Con.claOk_same {c d : Con} (h1 : c.hold = d.hold) (h2 : c.un = d.un) (h3 : c.ac = d.ac) (h4 : c.cl.length = d.cl.length) (i : Nat) (k : Cla) : c.claOk i k = d.claOk i k := by
  unfold Con.claOk Con.kindOk Con.pauseOk Con.costOk Con.nat Con.mov
  rw [h1, h2, h3, h4]
theorem Con.framed_same {c d : Con} (h0 : c.par = d.par) (h1 : c.hold = d.hold) (h2 : c.un = d.un) (h3 : c.ac = d.ac) (h4 : c.days = d.days) (h5 : c.off = d.off) : c.framed = d.framed := by
  have : c.actOk = d.actOk := by funext a; unfold Con.actOk Con.mov; rw [h0, h1, h2]
  unfold Con.framed
  rw [this, h0, h1, h2, h3, h4, h5]
def zeroC (k : Cla) : Bool := decide (k.start.length = 0) && k.kind == 0 && k.role == 0 && k.act == 0 && k.need == 0 && k.aft == 0 && k.grace == 0 && !k.bus && !k.fin && k.pause == 0 && k.resume == 0 && (k.v.1 == 0 && k.v.2 == 0) && k.unit == 0 && k.to_ == 0 && !k.waived
/-- indices, increasing -/
def incI (n : Nat) : Int → List Int → Bool
  | _, [] => true
  | last, d :: l => decide (last < d) && decide (d < n) && incI n d l
def known (k : Int) : Bool := k == 1 || k == 2 || k == 3 || k == 4 || k == 5
def fewest (k : Int) : Nat := if k == 1 then 0 else 1
def mostN (k : Int) : Nat := if k == 1 then 0 else if k == 2 || k == 3 then 1 else 400
def Pat.fits (p : Pat) (n : Nat) : Bool :=
  decide (fewest p.kind ≤ p.cls.length) && decide (p.cls.length ≤ mostN p.kind) && incI n (-1) p.cls && (p.kind == 1 || p.kind == 2 || zeroC p.new) && (if p.kind == 5 then decide (1 ≤ p.days) && decide (p.days ≤ 400) else p.days == 0)
/-- what a patch does to the clause at an index that it names -/
def Pat.one (p : Pat) (k : Cla) : Cla := if p.kind == 2 then p.new else if p.kind == 5 then { k with aft := p.days } else { k with waived := true }
def Pat.do_ (p : Pat) (l : List Cla) : List Cla := if p.kind == 1 then l ++ [p.new] else p.cls.foldl (fun l i => l.modify i.toNat p.one) l
def Con.wc (c : Con) (l : List Cla) : Con := { c with cl := l }
/-- the error of a patch: 0: none -/
def Con.apE (c : Con) (p : Pat) : Int :=
  if c.ok && known p.kind && p.fits c.cl.length then (if p.kind == 1 && c.cl.length == 400 then 3 else if (c.wc (p.do_ c.cl)).ok then 0 else 1) else 1
/-- the contract after a patch that can be applied -/
def Con.ap (c : Con) (p : Pat) : Con := c.wc (p.do_ c.cl)
end Go.Proofs.YtplommmegkdhdaaGreatDoor
/- Plain: decimal texts of numbers (these theorems stood in Rt1 at ratio's seat). -/
namespace Go.Proofs.YtplommmegkdhdaaGreatDoor

theorem pu_app : ∀ (l r : List UInt8) (acc m : Nat), Lib.parseUint10 acc l = .ok m → Lib.parseUint10 acc (l ++ r) = Lib.parseUint10 m r
  | [], r, acc, m, h => by
    simp only [Lib.parseUint10] at h
    injection h with h
    subst h; rfl
  | c :: l, r, acc, m, h => by
    simp only [List.cons_append, Lib.parseUint10] at h ⊢
    split at h
    · rename_i h1
      rw [if_pos h1]
      split at h
      · cases h
      · rename_i h2
        rw [if_neg h2]
        split at h
        · cases h
        · rename_i h3
          rw [if_neg h3]
          exact pu_app l r _ m h
    · cases h
theorem dig_byte {k : Nat} (h : k < 10) : (UInt8.ofNat (48 + k)).toNat = 48 + k := by
  show (48 + k) % 2 ^ 8 = 48 + k
  omega
theorem pu_one (acc k : Nat) (h : k < 10) (hb : acc * 10 + k < 18446744073709551616) : Lib.parseUint10 acc [UInt8.ofNat (48 + k)] = .ok (acc * 10 + k) := by
  simp only [Lib.parseUint10, dig_byte h]
  rw [if_pos (by omega), if_neg (by omega), if_neg (by omega)]
  congr 1; omega
theorem pu_dec (u : Nat) (h : u < 18446744073709551616) : Lib.parseUint10 0 (Lib.decDigits u) = .ok u := by
  induction u using Nat.strongRecOn with
  | _ u ih =>
    rw [Lib.decDigits]
    split
    · rename_i h1
      have := pu_one 0 u h1 (by omega)
      rw [this]; congr 1; omega
    · rename_i h1
      rw [pu_app _ _ _ _ (ih (u / 10) (by omega) (by omega)), pu_one _ _ (by omega) (by omega)]
      congr 1; omega
theorem dec_dig (u : Nat) : ∀ c ∈ Lib.decDigits u, 48 ≤ c.toNat ∧ c.toNat ≤ 57 := by
  induction u using Nat.strongRecOn with
  | _ u ih =>
    intro c hc
    rw [Lib.decDigits] at hc
    split at hc
    · rename_i h1
      rw [List.mem_singleton] at hc
      subst hc
      rw [dig_byte h1]; omega
    · rename_i h1
      rw [List.mem_append, List.mem_singleton] at hc
      rcases hc with hc | hc
      · exact ih (u / 10) (by omega) c hc
      · subst hc
        rw [dig_byte (by omega)]; omega
theorem dec_ne (u : Nat) : Lib.decDigits u ≠ [] := by
  rw [Lib.decDigits]
  split
  · simp
  · simp
theorem pm_dec (u : Nat) (h : u < 18446744073709551616) : Lib.parseMag (Lib.decDigits u) = .ok u := by
  unfold Lib.parseMag
  rw [if_neg (dec_ne u), pu_dec u h]
theorem atoi_itoa (n : Int) (h0 : -9223372036854775808 ≤ n) (h1 : n ≤ 9223372036854775807) : Lib.atoiAll (Lib.itoa n) = .ok n := by
  unfold Lib.itoa
  split
  · rename_i hn
    have hp := pm_dec n.natAbs (by omega)
    simp only [Lib.atoiAll]
    rw [if_pos (by right; rfl), hp]
    simp only
    rw [if_neg (by intro h; exact h.1 rfl), if_neg (by omega), if_pos (show UInt8.toNat 45 = 45 from rfl)]
    congr 1; omega
  · rename_i hn
    have hp := pm_dec n.toNat (by omega)
    have hd := dec_dig n.toNat
    cases hl : Lib.decDigits n.toNat with
    | nil => exact absurd hl (dec_ne _)
    | cons c r =>
      rw [hl] at hp hd
      have hc := hd c (List.mem_cons_self ..)
      simp only [Lib.atoiAll]
      rw [if_neg (by omega), hp]
      simp only
      rw [if_neg (by omega), if_neg (by omega), if_neg (by omega)]
      congr 1; omega
theorem itoa_no32 (n : Int) : (32 : UInt8) ∉ Lib.itoa n := by
  intro h
  unfold Lib.itoa at h
  split at h
  · rw [List.mem_cons] at h
    rcases h with h | h
    · cases h
    · have := dec_dig _ _ h
      simp at this
  · have := dec_dig _ _ h
    simp at this
theorem itoa_ne (n : Int) : Lib.itoa n ≠ [] := by
  unfold Lib.itoa
  split
  · simp
  · exact dec_ne _
end Go.Proofs.YtplommmegkdhdaaGreatDoor
/- The contracts of the functions of package ratio and of its reference: magnitudes, divisors, validity, making, adding, subtracting, dividing, comparing. -/
namespace Go.Proofs.YtplommmegkdhdaaGreatDoor
open Go.RowKit

/-- what a function hands back whose first result, a ratio, lies in a block of its own -/
theorem ret_rat {fn : Func} {a : Act} {w : World} {r t g : Nat} {x y : Value} (hres : fn.results = #[.cell r 30, .tmp t]) (hp : a.tmps.getD r undef = .pointer (some ⟨g, 0, none⟩)) (hk : Blk w g 30 #[x, y]) :
    (results fn a.tmps).run Tryz.prog w = .ok (.tuple #[.agg #[x, y], a.tmps.getD t undef]) w := by
  obtain ⟨e0, e1, _, _⟩ := hk.two
  rw [Array.getD_eq_getD_getElem?] at hp
  simp [results, hres, hp, go_sem, e0, e1]
theorem ret_rat1 {fn : Func} {a : Act} {w : World} {r g : Nat} {x y : Value} (hres : fn.results = #[.cell r 30]) (hp : a.tmps.getD r undef = .pointer (some ⟨g, 0, none⟩)) (hk : Blk w g 30 #[x, y]) :
    (results fn a.tmps).run Tryz.prog w = .ok (.agg #[x, y]) w := by
  obtain ⟨e0, e1, _, _⟩ := hk.two
  rw [Array.getD_eq_getD_getElem?] at hp
  simp [results, hres, hp, go_sem, e0, e1]

theorem wrap_sz (n : Int) (h : n < 0) (h1 : -9223372036854775808 ≤ n) : IntKind.u64.wrap (-IntKind.u64.wrap n) = -n := by
  simp only [IntKind.wrap, IntKind.bits, IntKind.signed]
  simp
  omega

theorem mag_any (n : Int) (w : World) (h1 : -9223372036854775808 ≤ n) (h2 : n ≤ 9223372036854775807) :
    Calls Tryz.prog 99 #[.int .i64 n] w fun e w' => e = .returned (.int .u64 (mag n)) ∧ w = w' := by
  by_cases h : n < 0
  · have hm := Lib.hid (mag_neg h)
    go_enter Tryz.func99, Tryz.ntmps99
    go_wp2
    go_ret
    exact ⟨ret_int (by rw [hm.out]; omega), rfl⟩
  · have hm := Lib.hid (mag_pos (Int.not_lt.1 h))
    go_enter Tryz.func99, Tryz.ntmps99
    go_wp2
    go_ret
    exact ⟨ret_int (by rw [hm.out]), rfl⟩

theorem dvs_any (b : Nat) (x y : Int) (w : World) (hx : 0 ≤ x) (hy : 0 ≤ y) (hx' : x < 18446744073709551616) (hy' : y < 18446744073709551616)
    (c0 : w.cell? ⟨b, 0, none⟩ = some (.int .u64 x)) (c1 : w.cell? ⟨b, 1, none⟩ = some (.int .u64 y)) :
    Calls Tryz.prog 98 #[.slice (some ⟨b, 0, none⟩) 2 2] w fun e w' => e = .returned (.int .u64 (Int.gcd x y)) ∧ ∃ n, w' = w.drewN n := by
  have C := Lib.hid (And.intro c0 c1)
  clear c0 c1
  go_enter Tryz.func98, Tryz.ntmps98
  go_wp2
  go_loopw [3, 8] (fun u i wr => ∃ (g : Int) (k : Nat), k ≤ 2 ∧ 0 ≤ g ∧ g < 18446744073709551616 ∧ i = .int .i64 k ∧ u = .int .u64 g ∧ Hid (g = if k = 0 then 0 else if k = 1 then x else Int.gcd x y) ∧ ∃ n, wr = w.drewN n) (fun _ i _ => (2 - intOf i).toNat)
  case atStart => exact ⟨0, 0, by omega, by omega, by omega, rfl, rfl, rfl, 0, rfl⟩
  case round =>
    obtain ⟨g, k, hk, hg, hg', rfl, rfl, hG, n, rfl⟩ := hrel
    by_cases h0 : k < 2
    · have hz : ∃ z : Int, 0 ≤ z ∧ z < 18446744073709551616 ∧ w.cell? ⟨b, k, none⟩ = some (.int .u64 z) ∧ Hid ((Int.gcd g z : Int) = if k = 0 then x else Int.gcd x y) := by
        have hG := hG.out
        match k, h0 with
        | 0, _ => simp at hG; subst hG; exact ⟨x, hx, hx', C.out.1, by simp [Hid]; omega⟩
        | 1, _ => simp at hG; subst hG; exact ⟨y, hy, hy', C.out.2, by simp [Hid]⟩
      obtain ⟨z, hz, hz', cz, hgz⟩ := hz
      go_wp2
      go_loopw [3, 5] (fun u v wr => ∃ x y : Int, 0 ≤ x ∧ 0 ≤ y ∧ x < 18446744073709551616 ∧ y < 18446744073709551616 ∧ Hid (Int.gcd x y = Int.gcd g z) ∧ u = .int .u64 x ∧ v = .int .u64 y ∧ ∃ n, wr = w.drewN n) (fun _ v _ => (intOf v).toNat)
      case atStart => exact ⟨g, z, by omega, by omega, by omega, by omega, rfl, rfl, rfl, n, rfl⟩
      case round =>
        obtain ⟨g1, z1, hg1, hz1, hg1', hz1', hG1, rfl, rfl, n1, rfl⟩ := hrel
        by_cases h1 : 0 < z1
        · have hq := Int.emod_nonneg g1 (show z1 ≠ 0 by omega)
          have hq2 := Int.emod_lt_of_pos g1 h1
          go_wp2
          go_quiet (fail)
          go_wp2
          go_roundw
          case rel => exact ⟨z1, g1 % z1, by omega, by omega, by omega, by omega, (gcd_step g1 z1 hg1 hz1).trans hG1.out, rfl, rfl, _, World.drewN_drewN ..⟩
          case measure => simp [intOf]; omega
        · go_wp2
          go_roundw
          case rel =>
            obtain rfl : z1 = 0 := by omega
            have e1 := hG1.out
            rw [Int.gcd_zero_right] at e1
            refine ⟨g1, k + 1, by omega, by omega, by omega, by go_num, rfl, ?_, _, rfl⟩
            have e2 := hgz.out
            have e3 : g1 = Int.gcd g z := by omega
            rw [Hid, e3, e2]
            by_cases hk0 : k = 0
            · simp [hk0]
            · obtain rfl : k = 1 := by omega
              simp
          case measure => simp [intOf]; omega
    · go_wp2
      go_ret
      obtain rfl : k = 2 := by omega
      exact ⟨ret_int (by have := hG.out; simpa using this), _, rfl⟩

theorem gcd_bd (x y : Int) (hy : 0 < y) : 1 ≤ (Int.gcd x y : Int) ∧ (Int.gcd x y : Int) ≤ y := by
  have h1 := Int.gcd_pos_of_ne_zero_right x (show y ≠ 0 by omega)
  have h2 := Int.le_of_dvd hy (Int.gcd_dvd_right x y)
  omega


/-- ratio.Valid at every ratio -/
theorem valid_any (n d : Int) (w : World) (hn1 : -9223372036854775808 ≤ n) (hn2 : n ≤ 9223372036854775807) (hd1 : -9223372036854775808 ≤ d) (hd2 : d ≤ 9223372036854775807) :
    Calls Tryz.prog 79 #[.agg #[.int .i64 n, .int .i64 d]] w fun e w' => e = .returned (.bool (vld n d)) ∧ Below w.heap.size w w' := by
  by_cases hr : 1 ≤ d ∧ d ≤ 1000000 ∧ -1000000000000 ≤ n ∧ n ≤ 1000000000000
  · obtain ⟨h1, h2, h3, h4⟩ := hr
    have hv : vld n d = decide ((Int.gcd (mag n) (mag d) : Int) = 1) := by
      rw [gcd_mag]; simp only [vld, h1, h2, h3, h4, true_and]; congr 1; simp; omega
    have HV := Lib.hid hv
    clear hv
    have m1 := mag_bd (n := n) (by omega) (by omega)
    have m2 := mag_bd (n := d) (by omega) (by omega)
    go_enter Tryz.func79, Tryz.ntmps79
    go_wp2_with fail
    go_region_held3 (fun w' => w'.cell? ⟨w.heap.size, 0, none⟩ = some (.int .i64 n) ∧ w'.cell? ⟨w.heap.size, 1, none⟩ = some (.int .i64 d)) (go_keep) (first | (go_at_call 99; refine (mag_any _ _ (by omega) (by omega)).mono ?_; rintro e w' ⟨rfl, rfl⟩) | (go_at_call 98; refine (dvs_any _ (mag n) (mag d) _ (by omega) (by omega) (by omega) (by omega) (by simp [go_sem]) (by simp [go_sem])).mono ?_; rintro e w' ⟨rfl, nn, rfl⟩))
    all_goals go_wp2
    go_ret
    exact ⟨ret_bool (by rw [HV.out]; simp only [Bool.beq_eq_decide_eq]), below_drewN ((wa1 _ _).alloc (by simp) _) _⟩
  · have hv := Lib.hid (vld_no (n := n) (d := d) (fun h => hr ⟨h.1, h.2.1, h.2.2.1, h.2.2.2.1⟩))
    have hc : d < 1 ∨ (1 ≤ d ∧ 1000000 < d) ∨ (1 ≤ d ∧ d ≤ 1000000 ∧ n < -1000000000000) ∨ (1 ≤ d ∧ d ≤ 1000000 ∧ -1000000000000 ≤ n ∧ 1000000000000 < n) := by omega
    clear hr
    rcases hc with h | ⟨h, h'⟩ | ⟨h, h', h''⟩ | ⟨h, h', h'', h3⟩
    all_goals
      go_enter Tryz.func79, Tryz.ntmps79
      go_wp2
      go_ret
      exact ⟨ret_bool hv.out.symm, wa1 _ _⟩

end Go.Proofs.YtplommmegkdhdaaGreatDoor
/- Contracts and patches in memory. -/
namespace Go.Proofs.YtplommmegkdhdaaGreatDoor
open Go.RowKit

abbrev I64 (n : Int) : Prop := -9223372036854775808 ≤ n ∧ n ≤ 9223372036854775807
def eI (n : Int) : List Value := [.int .i64 n]
def eU (u : Uni) : List Value := [.string u.nm, .int .i64 u.kind, .int .i64 u.base, .int .i64 u.f.1, .int .i64 u.f.2]
def eA (a : Atc) : List Value := [.int .i64 a.kind, .int .i64 a.role, .int .i64 a.give, .int .i64 a.to_, .int .i64 a.unit, .int .i64 a.lot.1, .int .i64 a.lot.2]
def eS (x : Int × Int) : List Value := [.int .i64 x.1, .int .i64 x.2]
/-- a clause and where its conditions lie -/
structure Km where
  k : Cla
  A : Option Addr
  cap : Nat
def eK (x : Km) : List Value := [.int .i64 x.k.kind, .int .i64 x.k.role, .int .i64 x.k.act, .int .i64 x.k.need, .slice x.A x.k.start.length x.cap, .int .i64 x.k.aft, .int .i64 x.k.grace, .bool x.k.bus, .bool x.k.fin, .int .i64 x.k.pause, .int .i64 x.k.resume, .int .i64 x.k.v.1, .int .i64 x.k.v.2, .int .i64 x.k.unit, .int .i64 x.k.to_, .bool x.k.waived]
theorem eI_len (n : Int) : (eI n).length = 1 := rfl
theorem eU_len (u : Uni) : (eU u).length = 5 := rfl
theorem eA_len (a : Atc) : (eA a).length = 7 := rfl
theorem eS_len (x : Int × Int) : (eS x).length = 2 := rfl
theorem eK_len (x : Km) : (eK x).length = 16 := rfl
/-- where the lists of a contract lie -/
structure Cm where
  h : Option Addr
  hc : Nat
  u : Option Addr
  uc : Nat
  a : Option Addr
  ac : Nat
  k : Option Addr
  kc : Nat
  o : Option Addr
  oc : Nat
  ks : List Km
abbrev coA (c : Con) (m : Cm) : Array Value := #[.int .i64 c.par, .slice m.h c.hold.length m.hc, .slice m.u c.un.length m.uc, .slice m.a c.ac.length m.ac, .slice m.k c.cl.length m.kc, .int .i64 c.days, .slice m.o c.off.length m.oc]
/-- a clause fits: its conditions lie in memory -/
structure KOk (w : World) (x : Km) : Prop where
  s : Seg w w.heap.size 2 eS x.A x.k.start
  v : I64 x.k.v.1 ∧ I64 x.k.v.2
  n : x.k.start.length ≤ 1000000
  c : x.k.start.length ≤ x.cap
theorem KOk.then_ {w w' : World} {x : Km} (h : KOk w x) (hb : Below w.heap.size w w') : KOk w' x := ⟨(h.s.below hb).more hb.size, h.v, h.n, h.c⟩
structure Cont (w : World) (c : Con) (m : Cm) : Prop where
  h : Seg w w.heap.size 1 eI m.h c.hold
  u : Seg w w.heap.size 5 eU m.u c.un
  a : Seg w w.heap.size 7 eA m.a c.ac
  k : Seg w w.heap.size 16 eK m.k m.ks
  o : Seg w w.heap.size 1 eI m.o c.off
  e : m.ks.map (·.k) = c.cl
  t : ∀ x ∈ m.ks, KOk w x
  bu : ∀ x ∈ c.un, I64 x.f.1 ∧ I64 x.f.2
  ba : ∀ x ∈ c.ac, I64 x.lot.1 ∧ I64 x.lot.2
  nh : c.hold.length ≤ 1000000
  nu : c.un.length ≤ 1000000
  na : c.ac.length ≤ 1000000
  nk : c.cl.length ≤ 1000000
  no : c.off.length ≤ 1000000
  ch : c.hold.length ≤ m.hc
  cu : c.un.length ≤ m.uc
  ca : c.ac.length ≤ m.ac
  ck : c.cl.length ≤ m.kc
  co : c.off.length ≤ m.oc
theorem Cont.then_ {w w' : World} {c : Con} {m : Cm} (h : Cont w c m) (hb : Below w.heap.size w w') : Cont w' c m :=
  ⟨(h.h.below hb).more hb.size, (h.u.below hb).more hb.size, (h.a.below hb).more hb.size, (h.k.below hb).more hb.size, (h.o.below hb).more hb.size, h.e, fun x hx => (h.t x hx).then_ hb, h.bu, h.ba, h.nh, h.nu, h.na, h.nk, h.no, h.ch, h.cu, h.ca, h.ck, h.co⟩
/-- the cells of an element -/
theorem segAt {α : Type} {w : World} {B size : Nat} {enc : α → List Value} {A : Option Addr} {xs : List α} {k : Nat} {x : α} (h : Seg w B size enc A xs) (hx : xs[k]? = some x) :
    ∃ b off, A = some ⟨b, off, none⟩ ∧ b < B ∧ ∀ j v, (enc x)[j]? = some v → w.cell? ⟨b, off + k * size + j, none⟩ = some v := by
  obtain ⟨b, off, e, hb, hc⟩ := h k x hx
  exact ⟨b, off, e, hb, hc⟩
theorem km_at {c : Con} {m : Cm} (e : m.ks.map (·.k) = c.cl) {i : Nat} {k : Cla} (hk : c.cl[i]? = some k) : ∃ x, m.ks[i]? = some x ∧ x.k = k := by
  rw [← e, List.getElem?_map] at hk
  cases hx : m.ks[i]? with
  | none => rw [hx] at hk; cases hk
  | some x => rw [hx] at hk; exact ⟨x, rfl, Option.some.inj hk⟩
/-- a patch in memory -/
structure Pm where
  p : Option Addr
  pc : Nat
  A : Option Addr
  cap : Nat
abbrev paA (p : Pat) (m : Pm) : Array Value := (#[.int .i64 p.kind, .slice m.p p.cls.length m.pc] ++ (eK ⟨p.new, m.A, m.cap⟩).toArray) ++ #[.int .i64 p.days]
end Go.Proofs.YtplommmegkdhdaaGreatDoor
/- Plain: the text of a patch, and what a text is parsed as. -/
namespace Go.Proofs.YtplommmegkdhdaaGreatDoor

/-- a blank and a decimal -/
def wnum (n : Int) : List UInt8 := 32 :: Lib.itoa n
def bitI (b : Bool) : Int := if b then 1 else 0
def Cla.numsA (k : Cla) : List Int := [k.kind, k.role, k.act, k.need, k.aft, k.grace, bitI k.bus, bitI k.fin, k.pause, k.resume, k.v.1, k.v.2, k.unit, k.to_, bitI k.waived, (k.start.length : Int)]
def prsI (l : List (Int × Int)) : List Int := l.flatMap fun s => [s.1, s.2]
def Pat.nums (p : Pat) : List Int := [p.kind, p.days, (p.cls.length : Int)] ++ p.cls ++ p.new.numsA ++ prsI p.new.start
def pword : List UInt8 := [112, 97, 116, 99, 104]
def Pat.text (p : Pat) : List UInt8 := if p.cls.length ≤ 400 ∧ p.new.start.length ≤ 8 then pword ++ p.nums.flatMap wnum else []

/-- a blank and a number: the number and what is left -/
def rd : List UInt8 → Option (Int × List UInt8)
  | [] => none
  | c :: t =>
    if c = 32 then
      match Lib.atoiAll (t.takeWhile (· != 32)) with
      | .ok n => if Lib.itoa n = t.takeWhile (· != 32) then some (n, t.dropWhile (· != 32)) else none
      | _ => none
    else none

/-- nothing, or a blank comes -/
def Bl (l : List UInt8) : Prop := l = [] ∨ ∃ t, l = 32 :: t
theorem Bl.nil : Bl [] := .inl rfl
theorem Bl.wnum (n : Int) (l : List UInt8) : Bl (wnum n ++ l) := .inr ⟨_, rfl⟩
theorem Bl.all : ∀ (l : List Int) {r : List UInt8} (_ : Bl r), Bl (l.flatMap YtplommmegkdhdaaGreatDoor.wnum ++ r)
  | [], _, h => h
  | n :: l, r, _ => by rw [List.flatMap_cons, List.append_assoc]; exact Bl.wnum _ _

theorem take_word {w t : List UInt8} (hw : (32 : UInt8) ∉ w) (ht : Bl t) : (w ++ t).takeWhile (· != 32) = w ∧ (w ++ t).dropWhile (· != 32) = t := by
  have hall : ∀ x ∈ w, (x != 32) = true := fun x hx => by
    have : x ≠ 32 := fun h => hw (h ▸ hx)
    simpa using this
  rw [List.takeWhile_append_of_pos hall, List.dropWhile_append_of_pos hall]
  rcases ht with rfl | ⟨t, rfl⟩ <;> simp

theorem rd_wnum {n : Int} (h : I64 n) {t : List UInt8} (ht : Bl t) : rd (wnum n ++ t) = some (n, t) := by
  have hw := take_word (itoa_no32 n) ht
  have ha := atoi_itoa n h.1 h.2
  unfold wnum
  rw [List.cons_append]
  simp only [rd]
  rw [if_pos trivial, hw.1, hw.2, ha]
  exact if_pos rfl

theorem rd_some {l : List UInt8} {n : Int} {t : List UInt8} (h : rd l = some (n, t)) : l = wnum n ++ t ∧ Bl t ∧ I64 n := by
  cases l with
  | nil => cases h
  | cons c r =>
    simp only [rd] at h
    split at h
    · rename_i hc
      split at h
      · rename_i m hm
        split at h
        · rename_i hi
          injection h with h
          injection h with h1 h2
          subst h1; subst h2; subst hc
          refine ⟨?_, ?_, Lib.atoiAll_bounds hm⟩
          · show 32 :: r = 32 :: (Lib.itoa m ++ _)
            rw [hi, List.takeWhile_append_dropWhile]
          · generalize hd : r.dropWhile (· != 32) = d
            cases d with
            | nil => exact .inl rfl
            | cons x y =>
              have : (x != 32) = false := by
                have := List.head_dropWhile_not (p := fun x : UInt8 => x != 32) (l := r) (by rw [hd]; simp)
                simpa [hd] using this
              exact .inr ⟨y, by rw [show x = 32 by simpa using this]⟩
        · cases h
      · cases h
    · cases h

/-- the reader: what is left, and whether a word was bad -/
structure Rs where
  rest : List UInt8
  bad : Bool
def Rs.num (s : Rs) : Int × Rs := match rd s.rest with
  | some (n, t) => (n, ⟨t, s.bad⟩)
  | none => (0, ⟨[], true⟩)
def Rs.upTo (s : Rs) (m : Int) : Int × Rs := if s.num.1 < 0 ∨ m < s.num.1 then (0, ⟨[], true⟩) else s.num
/-- n numbers -/
def Rs.many : Nat → Rs → List Int × Rs
  | 0, s => ([], s)
  | n + 1, s => let q := Rs.many n s; (q.1 ++ [q.2.num.1], q.2.num.2)
def Rs.pairs : Nat → Rs → List (Int × Int) × Rs
  | 0, s => ([], s)
  | n + 1, s => let q := Rs.pairs n s; (q.1 ++ [(q.2.num.1, q.2.num.2.num.1)], q.2.num.2.num.2)
end Go.Proofs.YtplommmegkdhdaaGreatDoor
