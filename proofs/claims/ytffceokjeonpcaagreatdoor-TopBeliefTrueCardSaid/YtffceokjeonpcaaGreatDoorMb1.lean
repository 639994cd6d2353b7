/- Contracts of functions and plain laws, joined: Math, Ka1, Fa1, Va1, Va2, Va3, Va4, Va5, Va6, Va7, Va8, Va9, VaA, VaB, VaC. -/

import Derived.Lib.Hide
namespace Go.Proofs.YtffceokjeonpcaaGreatDoor
universe u
theorem qzA {α : Type u} {xs : List α} {i : Nat} : xs.toArray[i]? = xs[i]? := List.getElem?_toArray
theorem qzB {α : Type u} {a : α} {i : Nat} {l : List α} : (a :: l)[i + 1]? = l[i]? := List.getElem?_cons_succ
theorem qzC {α : Type u} {a : α} {l : List α} : (a :: l)[0]? = some a := List.getElem?_cons_zero
theorem qzD {α : Type u} (a : α) : (some a).toList = [a] := Option.toList_some a
theorem qzE {α : Type u} {a : α} {l1 l2 : List α} : a :: l1 ++ l2 = a :: (l1 ++ l2) := List.cons_append
theorem qzF {α : Type u} (l1 : List α) : [] ++ l1 = l1 := List.nil_append l1
theorem qzG {α : Type u} (l : List α) (i : Nat) (a : α) : l.toArray.setIfInBounds i a = (l.set i a).toArray := List.setIfInBounds_toArray l i a
theorem qzH {α : Type u} {x : α} {xs : List α} {i : Nat} {a : α} : (x :: xs).set (i + 1) a = x :: xs.set i a := List.set_cons_succ
theorem qzI {α : Type u} {x : α} {xs : List α} {a : α} : (x :: xs).set 0 a = a :: xs := List.set_cons_zero
theorem qzJ {α : Type u} {l : List α} {i : Nat} (h : i < l.length) : l[i]? = some l[i] := List.getElem?_eq_getElem h
theorem qzK {α : Type u} {l : List α} {i : Nat} {a : α} (h : l[i]? = some a) : a ∈ l := List.mem_of_getElem? h
theorem qzL {p : Prop} (h : p) : Go.RowKit.Hid p := Go.Lib.hid h
theorem qzM {α : Type u} {l : List α} {i : Nat} {a : α} (h : l[i]? = some a) : ∃ h : i < l.length, l[i] = a := List.getElem?_eq_some_iff.1 h
theorem qzN {p : Prop} [d : Decidable p] (h : ¬ p) : decide p = false := decide_eq_false h
theorem qzO {p : Prop} [d : Decidable p] (h : p) : decide p = true := decide_eq_true h
end Go.Proofs.YtffceokjeonpcaaGreatDoor
namespace Go.Proofs.YtffceokjeonpcaaGreatDoor
theorem gcd_step (x y : Int) (hx : 0 ≤ x) (hy : 0 ≤ y) : Int.gcd y (x % y) = Int.gcd x y := by
 obtain ⟨a, rfl⟩ := Int.eq_ofNat_of_zero_le hx
 obtain ⟨b, rfl⟩ := Int.eq_ofNat_of_zero_le hy
 rw [← Int.natCast_emod]
 simp only [Int.gcd, Int.natAbs_natCast]
 rw [Nat.gcd_comm a b, Nat.gcd_comm b (a % b), ← Nat.gcd_rec]
def mag (n : Int) : Int := n.natAbs
theorem mag_neg {n : Int} (h : n < 0) : mag n = -n := by unfold mag; omega
theorem mag_pos {n : Int} (h : 0 ≤ n) : mag n = n := by unfold mag; omega
theorem mag_bd {n : Int} (h1 : -9223372036854775808 ≤ n) (h2 : n ≤ 9223372036854775807) : 0 ≤ mag n ∧ mag n ≤ 9223372036854775808 := by unfold mag; omega
theorem gcd_mag (a b : Int) : Int.gcd (mag a) (mag b) = Int.gcd a b := by simp [mag, Int.gcd]
def vld (n d : Int) : Bool := decide (1 ≤ d ∧ d ≤ 1000000 ∧ -1000000000000 ≤ n ∧ n ≤ 1000000000000 ∧ Int.gcd n d = 1)
theorem vld_no {n d : Int} (h : ¬ (1 ≤ d ∧ d ≤ 1000000 ∧ -1000000000000 ≤ n ∧ n ≤ 1000000000000 ∧ Int.gcd n d = 1)) : vld n d = false := by simp [vld, h]
def inR (q : Rat) : Bool := decide (-1000000000000 ≤ q.num ∧ q.num ≤ 1000000000000 ∧ q.den ≤ 1000000)
def oN (q : Rat) : Int := if inR q then q.num else 0
def oD (q : Rat) : Int := if inR q then q.den else 0
def oE (q : Rat) : Int := if inR q then 0 else 2
structure Uni where
 nm : ByteArray
 kind : Int
 base : Int
 f : Int × Int
 deriving DecidableEq
structure Atc where
 kind : Int
 role : Int
 give : Int
 to_ : Int
 unit : Int
 lot : Int × Int
 deriving DecidableEq
structure Cla where
 kind : Int
 role : Int
 act : Int
 need : Int
 start : List (Int × Int)
 aft : Int
 grace : Int
 bus : Bool
 fin : Bool
 pause : Int
 resume : Int
 v : Int × Int
 unit : Int
 to_ : Int
 waived : Bool
 deriving DecidableEq
structure Con where
 par : Int
 hold : List Int
 un : List Uni
 ac : List Atc
 cl : List Cla
 days : Int
 off : List Int
 deriving DecidableEq
structure Pat where
 kind : Int
 cls : List Int
 new : Cla
 days : Int
 deriving DecidableEq
def isI (i : Int) (n : Nat) : Bool := decide (0 ≤ i) && decide (i < n)
theorem xB3 {i : Int} {n : Nat} : isI i n = true ↔ 0 ≤ i ∧ i < n := by simp [isI]
def zer (r : Int × Int) : Bool := r.1 == 0 && r.2 == 1
def psv (r : Int × Int) : Bool := decide (0 < r.1) && vld r.1 r.2
def xFq (t : List Uni) (i : Nat) (u : Uni) : Bool :=
 decide (i < 20) && !(u.nm.toList == []) && (t.take i).all (fun o => !(o.nm.toList == u.nm.toList)) && (u.kind == 1 || u.kind == 2) && vld u.f.1 u.f.2 && decide (0 < u.f.1) &&
  isI u.base t.length && (match t[u.base.toNat]? with | some b => b.kind == u.kind && b.base == u.base | none => false) && (u.base != (i : Int) || (u.f.1 == 1 && u.f.2 == 1))
def xGb (t : List Uni) : Nat → List Uni → Bool
 | _, [] => true
 | i, u :: r => xFq t i u && xGb t (i + 1) r
def Con.mov (c : Con) (r : Int) : Bool := isI r c.hold.length
def Con.actOk (c : Con) (a : Atc) : Bool :=
 if c.mov a.role then
  if a.kind == 1 then
   a.give == 0 && (a.to_ == -1 || c.mov a.to_) && (if a.unit == -1 then zer a.lot else isI a.unit c.un.length && psv a.lot)
  else (a.kind == 2 || a.kind == 3) && c.mov a.give && decide (0 ≤ a.to_) && decide (a.to_ < c.par) && a.unit == -1 && zer a.lot
 else a.kind == 1 && a.role == -1 && a.give == 0 && (a.to_ == -1 || c.mov a.to_) && a.unit == -1 && zer a.lot
def incO (days : Int) : Int → List Int → Bool
 | _, [] => true
 | last, d :: l => decide (last < d) && decide (d < days) && incO days d l
def Con.framed (c : Con) : Bool :=
 decide (1 ≤ c.par) && decide (1 ≤ c.days) && decide (0 < c.hold.length) && c.hold.all (fun h => decide (0 ≤ h) && decide (h < c.par)) && xGb c.un 0 c.un && c.ac.all c.actOk && incO c.days (-1) c.off
def Con.nat (c : Con) (a : Int) : Bool := isI a c.ac.length && (match c.ac[a.toNat]? with | some x => x.kind == 1 && x.role == -1 | none => false)
def Con.kindOk (c : Con) (k : Cla) : Bool :=
 if k.kind == 4 then k.role == -1 && k.need == 1 && k.grace == 0 && !k.fin
 else c.mov k.role && !c.nat k.act && (
  if k.kind == 1 then decide (1 ≤ k.need) && decide (k.need ≤ 9) && decide (0 ≤ k.grace) && decide (k.grace ≤ 400)
  else if k.kind == 2 then k.need == 1 && k.grace == 0
  else k.kind == 3 && k.need == 1 && k.grace == 0 && !k.fin)
def xCi (n i : Nat) (s : Int × Int) : Bool := isI s.1 n && s.1 != (i : Int) && decide (1 ≤ s.2) && decide (s.2 ≤ 4)
def Con.pauseOk (c : Con) (k : Cla) : Bool := (k.pause == -1 && k.resume == -1) || (k.pause != k.resume && c.nat k.pause && c.nat k.resume)
def Con.costOk (c : Con) (k : Cla) : Bool :=
 if k.unit == -1 then zer k.v && k.to_ == -1
 else (k.kind == 1 || k.kind == 2) && isI k.unit c.un.length && (match c.un[k.unit.toNat]? with | some u => u.kind == 2 | none => false) && psv k.v && c.mov k.to_
def Con.claOk (c : Con) (i : Nat) (k : Cla) : Bool :=
 isI k.act c.ac.length && decide (1 ≤ k.aft) && decide (k.aft ≤ 400) && c.kindOk k && decide (k.start.length ≤ 8) && k.start.all (xCi c.cl.length i) && c.pauseOk k && c.costOk k
def Con.clsOk (c : Con) : Nat → List Cla → Bool
 | _, [] => true
 | i, k :: r => c.claOk i k && c.clsOk (i + 1) r
def Con.lim (c : Con) : Bool := decide (c.par ≤ 12) && decide (c.days ≤ 2000) && decide (c.hold.length ≤ 12) && decide (c.un.length ≤ 20) && decide (c.ac.length ≤ 60) && decide (c.cl.length ≤ 400)
def Con.ok (c : Con) : Bool := c.lim && c.framed && c.clsOk 0 c.cl
theorem Con.clsOk_iff (c : Con) : ∀ (l : List Cla) (i : Nat), c.clsOk i l = true ↔ ∀ j k, l[j]? = some k → c.claOk (i + j) k = true
 | [], i => by simp [Con.clsOk]
 | k :: l, i => by
  simp only [Con.clsOk, Bool.and_eq_true]
  rw [Con.clsOk_iff c l (i + 1)]
  constructor
  ·rintro ⟨h1, h2⟩ j x hx
   cases j with
   | zero => simp at hx; subst hx; exact h1
   | succ j => rw [show i + (j + 1) = i + 1 + j by omega]; exact h2 j x (by simpa using hx)
  ·intro h
   exact ⟨h 0 k rfl, fun j x hx => by rw [show i + 1 + j = i + (j + 1) by omega]; exact h (j + 1) x (by simpa using hx)⟩
def zeroC (k : Cla) : Bool := decide (k.start.length = 0) && k.kind == 0 && k.role == 0 && k.act == 0 && k.need == 0 && k.aft == 0 && k.grace == 0 && !k.bus && !k.fin && k.pause == 0 && k.resume == 0 && (k.v.1 == 0 && k.v.2 == 0) && k.unit == 0 && k.to_ == 0 && !k.waived
def incI (n : Nat) : Int → List Int → Bool
 | _, [] => true
 | last, d :: l => decide (last < d) && decide (d < n) && incI n d l
def xDd (k : Int) : Bool := k == 1 || k == 2 || k == 3 || k == 4 || k == 5
def fewest (k : Int) : Nat := if k == 1 then 0 else 1
def mostN (k : Int) : Nat := if k == 1 then 0 else if k == 2 || k == 3 then 1 else 400
def Pat.fits (p : Pat) (n : Nat) : Bool :=
 decide (fewest p.kind ≤ p.cls.length) && decide (p.cls.length ≤ mostN p.kind) && incI n (-1) p.cls && (p.kind == 1 || p.kind == 2 || zeroC p.new) && (if p.kind == 5 then decide (1 ≤ p.days) && decide (p.days ≤ 400) else p.days == 0)
def Pat.one (p : Pat) (k : Cla) : Cla := if p.kind == 2 then p.new else if p.kind == 5 then { k with aft := p.days } else { k with waived := true }
def Pat.do_ (p : Pat) (l : List Cla) : List Cla := if p.kind == 1 then l ++ [p.new] else p.cls.foldl (fun l i => l.modify i.toNat p.one) l
def Con.wc (c : Con) (l : List Cla) : Con := { c with cl := l }
def Con.apE (c : Con) (p : Pat) : Int :=
 if c.ok && xDd p.kind && p.fits c.cl.length then (if p.kind == 1 && c.cl.length == 400 then 3 else if (c.wc (p.do_ c.cl)).ok then 0 else 1) else 1
def Con.ap (c : Con) (p : Pat) : Con := c.wc (p.do_ c.cl)
structure Fac where
 ref : Int
 act : Int
 low : Int
 high : Int
 filed : Int
 sec : Bool
 deriving DecidableEq
structure Fil where
 house : Int
 facts : List Fac
 ords : List (Int × Int)
 deriving DecidableEq
def Con.facOk (c : Con) (x : Fac) : Bool :=
 decide (1 ≤ x.ref) && decide (x.ref ≤ 1000000) && decide (0 ≤ x.act) && decide (x.act < c.ac.length) && decide (0 ≤ x.low) && decide (x.low ≤ x.high) && decide (x.high < c.days) && decide (0 ≤ x.filed) && decide (x.filed ≤ c.days)
def ltF (x y : Fac) : Bool := decide (x.ref < y.ref)
def ltO (x y : Int × Int) : Bool := decide (x.1 < y.1) || (x.1 == y.1 && decide (x.2 < y.2))
def incBy {α : Type} (lt : α → α → Bool) : List α → Bool
 | [] => true
 | [_] => true
 | x :: y :: l => lt x y && incBy lt (y :: l)
def xFk (l : List Fac) (r : Int) : Bool := l.any fun x => x.ref == r
def ordOk (l : List Fac) (b : Int × Int) : Bool := xFk l b.1 && xFk l b.2 && !(b.1 == b.2)
def Fil.ok (c : Con) (f : Fil) : Bool :=
 c.ok && decide (0 ≤ f.house) && decide (f.house < c.par) && decide (f.facts.length ≤ 4000) && decide (f.ords.length ≤ 4000) &&
  f.facts.all c.facOk && incBy ltF f.facts && f.ords.all (ordOk f.facts) && incBy ltO f.ords
def lbF (l : List Fac) (r : Int) : Nat := (l.takeWhile fun y => decide (y.ref < r)).length
def lbO (l : List (Int × Int)) (b : Int × Int) : Nat := (l.takeWhile fun y => ltO y b).length
def insA {α : Type} (l : List α) (k : Nat) (x : α) : List α := l.take k ++ [x] ++ l.drop k
def Fil.putE (c : Con) (f : Fil) (x : Fac) : Int :=
 if f.ok c && c.facOk x then (if xFk f.facts x.ref then 9 else if 4000 ≤ f.facts.length then 3 else 0) else 1
def Fil.put (f : Fil) (x : Fac) : Fil := { f with facts := insA f.facts (lbF f.facts x.ref) x }
def hasOrd (l : List (Int × Int)) (b : Int × Int) : Bool := l.any fun y => y == b
def Fil.ordE (c : Con) (f : Fil) (b : Int × Int) : Int :=
 if f.ok c && !(b.1 == b.2) then (if xFk f.facts b.1 && xFk f.facts b.2 then (if hasOrd f.ords b then 9 else if 4000 ≤ f.ords.length then 3 else 0) else 14) else 1
def Fil.ord (f : Fil) (b : Int × Int) : Fil := { f with ords := insA f.ords (lbO f.ords b) b }
def Fil.part (f : Fil) (p : Fac → Bool) : Fil :=
 { f with facts := f.facts.filter p, ords := f.ords.filter fun b => xFk (f.facts.filter p) b.1 && xFk (f.facts.filter p) b.2 }
def Fil.asOf (f : Fil) (day : Int) : Fil := f.part fun x => decide (x.filed ≤ day)
def Fil.open_ (f : Fil) : Fil := f.part fun x => !x.sec
def Fil.has (f g : Fil) : Bool := g.facts.all (fun x => decide (x ∈ f.facts)) && g.ords.all (fun b => decide (b ∈ f.ords)) && f.house == g.house
structure Mk where
 st : Int
 left : Int
 got : Int
 brr : Int
 pau : Bool
deriving DecidableEq
structure Sta where
 day : Int
 hol : List Int
 used : List Bool
 marks : List Mk
deriving DecidableEq
def Mk.idle : Mk := ⟨0, 0, 0, -1, false⟩
def xA2 (is st : Int) : Bool :=
 if is = 1 then st != 0 else if is = 2 then st == 3 else if is = 3 then st == 4 else if is = 4 then st == 5 else false
def stOf (ms : List Mk) (i : Int) : Int := (ms.getD i.toNat Mk.idle).st
def rdy (c : Con) (ms : List Mk) (i : Nat) : Bool :=
 match c.cl[i]?, ms[i]? with
 | some k, some m => m.st == 0 && !k.waived && k.start.all fun s => xA2 s.2 (stOf ms s.1)
 | _, _ => false
def xCa (hol : List Int) (r : Int) : Int := hol.getD r.toNat (-1)
def live (k : Cla) (hol : List Int) : Mk := ⟨1, k.aft, 0, if k.kind = 4 then -1 else xCa hol k.role, false⟩
def xCg (c : Con) (hol : List Int) (x : List Mk × Bool) (i : Nat) : List Mk × Bool :=
 if rdy c x.1 i then match c.cl[i]? with
  | some k => (x.1.set i (live k hol), true)
  | none => x
 else x
def pass (c : Con) (hol : List Int) (ms : List Mk) : List Mk × Bool := (List.range c.cl.length).foldl (xCg c hol) (ms, false)
def xEb (c : Con) (hol : List Int) : Nat → List Mk → List Mk
 | 0, ms => ms
 | n + 1, ms => if (pass c hol ms).2 then xEb c hol n (pass c hol ms).1 else (pass c hol ms).1
def xAs (c : Con) (hol : List Int) (ms : List Mk) : List Mk := xEb c hol (c.cl.length + 1) ms
def Con.first (c : Con) : Sta :=
 ⟨0, c.hold, List.replicate c.ac.length false, xAs c c.hold (c.cl.map fun k => if k.waived then { Mk.idle with st := 5 } else Mk.idle)⟩
def Mk.runs (m : Mk) : Bool := m.st == 1 || m.st == 2
def Mk.endS (m : Mk) (st : Int) : Mk := { m with st := st, left := 0, pau := false }
def xBd (free : Bool) (k : Cla) (m : Mk) : Mk :=
 if m.runs = false ∨ m.pau = true ∨ (k.bus = true ∧ free = true) then m
 else if m.left - 1 ≠ 0 then { m with left := m.left - 1 }
 else if k.kind = 1 then (if m.st = 1 ∧ 0 < k.grace then { m with st := 2, left := k.grace } else m.endS 4)
 else if k.kind = 2 then m.endS 3
 else m.endS 5
def Sta.tick (c : Con) (s : Sta) : Sta :=
 { s with day := s.day + 1, marks := xAs c s.hol (List.zipWith (xBd (decide (s.day ∈ c.off))) c.cl s.marks) }
def xA1 (act : Int) (k : Cla) (m : Mk) : Mk :=
 if m.runs = false then m else if k.pause = act then { m with pau := true } else if k.resume = act then { m with pau := false } else m
def xAy (act doer : Int) (k : Cla) (m : Mk) : Mk :=
 if m.runs = false ∨ k.act ≠ act ∨ ¬ (k.kind = 4 ∨ m.brr = doer) then m
 else if k.kind = 1 then (if m.got + 1 = k.need then { m with got := m.got + 1 }.endS 3 else { m with got := m.got + 1 })
 else if k.kind = 2 then (if m.pau then m else m.endS 4)
 else m.endS 3
def xA9 (a : Atc) (hol : List Int) : Int := if a.role = -1 then -1 else xCa hol a.role
def xBb (a : Atc) (k : Cla) (m : Mk) : Mk := if m.runs = true ∧ k.kind ≠ 4 ∧ k.role = a.give then { m with brr := a.to_ } else m
def Sta.act (c : Con) (s : Sta) (n : Nat) : Sta :=
 match c.ac[n]? with
 | none => s
 | some a =>
  if a.kind ≠ 1 ∧ s.used.getD n false = true then s
  else
   let m1 := List.zipWith (xA1 n) c.cl s.marks
   let m2 := List.zipWith (xAy n (xA9 a s.hol)) c.cl m1
   if a.kind = 1 then { s with marks := xAs c s.hol m2 }
   else
    let h := s.hol.set a.give.toNat a.to_
    let m3 := if a.kind = 3 then List.zipWith (xBb a) c.cl m2 else m2
    { s with hol := h, used := s.used.set n true, marks := xAs c h m3 }
def Sta.step (c : Con) (s : Sta) (x : Int) : Sta := if x = -1 then s.tick c else s.act c x.toNat
def xDb (c : Con) (k : Cla) (m : Mk) : Bool :=
 !(k.waived || decide (m.left < 1) || (m.pau && k.pause == -1)) && !(m.got != 0 && (k.kind != 1 || decide (m.got < 0) || decide (k.need ≤ m.got)))
 && (if k.kind = 4 then m.brr == -1 else decide (0 ≤ m.brr) && decide (m.brr < c.par))
def xBs (c : Con) (k : Cla) (m : Mk) : Bool :=
 if m.st = 0 then !k.waived && decide (m = Mk.idle)
 else if m.st = 1 then decide (m.left ≤ k.aft) && xDb c k m
 else if m.st = 2 then k.kind == 1 && decide (m.left ≤ k.grace) && xDb c k m
 else if m.st = 3 ∨ m.st = 4 ∨ m.st = 5 then m.left == 0 && decide (0 ≤ m.got) && decide (m.got ≤ 9) && decide (-1 ≤ m.brr) && decide (m.brr < c.par) && !m.pau
 else false
def Sta.ok (c : Con) (s : Sta) : Bool :=
 c.ok && decide (0 ≤ s.day) && decide (s.day ≤ c.days) && s.hol.length == c.hold.length && s.used.length == c.ac.length && s.marks.length == c.cl.length
 && s.hol.all (fun h => decide (0 ≤ h) && decide (h < c.par)) && (List.zipWith (fun (a : Atc) u => !(u && a.kind == 1)) c.ac s.used).all id
 && (List.range s.marks.length).all fun i => match c.cl[i]?, s.marks[i]? with | some k, some m => xBs c k m && !rdy c s.marks i | _, _ => false
def Sta.stepE (c : Con) (s : Sta) (x : Int) : Int := if s.ok c = false ∨ x < -1 ∨ (c.ac.length : Int) ≤ x then 1 else if s.day = c.days then 13 else 0
def runS (c : Con) : Sta → List Int → Option (List Sta)
 | s, [] => some [s]
 | s, x :: l => if s.stepE c x = 0 then (runS c (s.step c x) l).map (s :: ·) else none
def Ext (c : Con) (hol : List Int) (ms ms' : List Mk) : Prop :=
 ms'.length = ms.length ∧ ∀ i : Nat, ms'[i]? = ms[i]? ∨ ∃ k m, c.cl[i]? = some k ∧ ms[i]? = some m ∧ m.st = 0 ∧ ms'[i]? = some (live k hol)
theorem Ext.refl (c : Con) (hol : List Int) (ms : List Mk) : Ext c hol ms ms := ⟨rfl, fun _ => .inl rfl⟩
theorem live_st (k : Cla) (hol : List Int) : (live k hol).st = 1 := rfl
theorem Ext.trans {c : Con} {hol : List Int} {a b d : List Mk} (h : Ext c hol a b) (g : Ext c hol b d) : Ext c hol a d := by
 refine ⟨g.1.trans h.1, fun i => ?_⟩
 rcases g.2 i with e | ⟨k, m, h1, h2, h3, h4⟩
 ·rcases h.2 i with e' | ⟨k, m, h1, h2, h3, h4⟩
  ·exact .inl (e.trans e')
  ·exact .inr ⟨k, m, h1, h2, h3, e.trans h4⟩
 ·rcases h.2 i with e' | ⟨k', m', h1', h2', h3', h4'⟩
  ·exact .inr ⟨k, m, h1, e' ▸ h2, h3, h4⟩
  ·rw [h2] at h4'
   cases h4'
   cases h3
theorem cond0 (is : Int) : xA2 is 0 = false := by
 unfold xA2
 repeat' split
 all_goals rfl
theorem stOf_at {ms : List Mk} {i : Nat} {m : Mk} (h : ms[i]? = some m) : stOf ms (i : Nat) = m.st := by
 unfold stOf
 rw [Int.toNat_natCast, List.getD_eq_getElem?_getD, h]
 rfl
theorem stOf_get (ms : List Mk) (j : Int) : stOf ms j = (ms[j.toNat]?.getD Mk.idle).st := by
 unfold stOf
 rw [List.getD_eq_getElem?_getD]
theorem cond_mono {c : Con} {hol : List Int} {ms ms' : List Mk} (h : Ext c hol ms ms') {is j : Int} (hc : xA2 is (stOf ms j) = true) : xA2 is (stOf ms' j) = true := by
 rw [stOf_get] at hc ⊢
 rcases h.2 j.toNat with e | ⟨k, m, h1, h2, h3, h4⟩
 ·rw [e]; exact hc
 ·rw [h2] at hc
  simp only [Option.getD_some] at hc
  rw [h3, cond0] at hc
  cases hc
theorem xDj {c : Con} {ms : List Mk} {i : Nat} : rdy c ms i = true ↔ ∃ k m, c.cl[i]? = some k ∧ ms[i]? = some m ∧ m.st = 0 ∧ k.waived = false ∧ ∀ s ∈ k.start, xA2 s.2 (stOf ms s.1) = true := by
 unfold rdy
 cases hk : c.cl[i]? with
 | none => simp
 | some k =>
  cases hm : ms[i]? with
  | none => simp
  | some m => simp [Bool.and_eq_true, and_assoc]
theorem rdy_mono {c : Con} {hol : List Int} {ms ms' : List Mk} (h : Ext c hol ms ms') {i : Nat} (hi : ms'[i]? = ms[i]?) (hr : rdy c ms i = true) : rdy c ms' i = true := by
 obtain ⟨k, m, h1, h2, h3, h4, h5⟩ := xDj.1 hr
 exact xDj.2 ⟨k, m, h1, hi.trans h2, h3, h4, fun s hs => cond_mono h (h5 s hs)⟩
def Shut (c : Con) (ms : List Mk) : Prop := ∀ i, rdy c ms i = false
theorem ext_set {c : Con} {hol : List Int} {ms L : List Mk} (h : Ext c hol ms L) (hL : Shut c L) {i : Nat} {k : Cla} (hk : c.cl[i]? = some k) (hr : rdy c ms i = true) : Ext c hol (ms.set i (live k hol)) L := by
 obtain ⟨k', m, h1, h2, h3, h4, h5⟩ := xDj.1 hr
 rw [hk] at h1
 cases h1
 have hi : i < ms.length := (qzM h2).1
 refine ⟨h.1.trans (by simp), fun j => ?_⟩
 by_cases hj : i = j
 ·subst hj
  rw [List.getElem?_set_self hi]
  rcases h.2 i with e | ⟨k'', m', g1, g2, g3, g4⟩
  ·exact absurd (hL i) (by rw [rdy_mono h e hr]; simp)
  ·rw [hk] at g1
   cases g1
   exact .inl g4
 ·rw [List.getElem?_set_ne hj]
  exact h.2 j
theorem xH4 {c : Con} {hol : List Int} {ms : List Mk} {i : Nat} {k : Cla} (hk : c.cl[i]? = some k) (hr : rdy c ms i = true) : Ext c hol ms (ms.set i (live k hol)) := by
 obtain ⟨k', m, h1, h2, h3, h4, h5⟩ := xDj.1 hr
 have hi : i < ms.length := (qzM h2).1
 refine ⟨by simp, fun j => ?_⟩
 by_cases hj : i = j
 ·subst hj
  exact .inr ⟨k, m, hk, h2, h3, List.getElem?_set_self hi⟩
 ·exact .inl (List.getElem?_set_ne hj)
theorem ext_anti {c : Con} {hol : List Int} {a b : List Mk} (h : Ext c hol a b) (g : Ext c hol b a) : a = b := by
 refine List.ext_getElem? fun i => ?_
 rcases h.2 i with e | ⟨k, m, h1, h2, h3, h4⟩
 ·exact e.symm
 ·rcases g.2 i with e | ⟨k', m', g1, g2, g3, g4⟩
  ·exact e
  ·rw [h4] at g2
   cases g2
   cases g3
def xB9 (ms : List Mk) : Nat := ms.countP fun m => m.st == 0
theorem xH2 {ms : List Mk} {i : Nat} {m m' : Mk} (h : ms[i]? = some m) (h0 : m.st = 0) (h1 : m'.st ≠ 0) : xB9 (ms.set i m') + 1 = xB9 ms := by
 unfold xB9
 obtain ⟨hi, e⟩ := qzM h
 rw [List.countP_set hi, e]
 have a : (m.st == 0) = true := by simp [h0]
 have b : (m'.st == 0) = false := by simp [h1]
 have hp : 0 < ms.countP fun m => m.st == 0 := List.countP_pos_iff.2 ⟨m, qzK h, a⟩
 simp only [a, b, if_true]
 simp
 omega
theorem start1_ok (c : Con) (hol : List Int) (ms : List Mk) (b : Bool) (i : Nat) :
  (xCg c hol (ms, b) i = (ms, b) ∧ rdy c ms i = false) ∨ ∃ k, c.cl[i]? = some k ∧ rdy c ms i = true ∧ xCg c hol (ms, b) i = (ms.set i (live k hol), true) := by
 unfold xCg
 cases hr : rdy c ms i with
 | false => exact .inl ⟨by simp, rfl⟩
 | true =>
  obtain ⟨k, m, h1, _⟩ := xDj.1 hr
  exact .inr ⟨k, h1, rfl, by simp [h1]⟩
theorem xFm (c : Con) (hol : List Int) : ∀ (l : List Nat) (ms : List Mk) (b : Bool),
  Ext c hol ms (l.foldl (xCg c hol) (ms, b)).1 ∧ (∀ L, Ext c hol ms L → Shut c L → Ext c hol (l.foldl (xCg c hol) (ms, b)).1 L) ∧
  (((l.foldl (xCg c hol) (ms, b)).2 = false → b = false ∧ (l.foldl (xCg c hol) (ms, b)).1 = ms ∧ ∀ i ∈ l, rdy c ms i = false) ∧
   ((l.foldl (xCg c hol) (ms, b)).2 = true → b = true ∨ xB9 (l.foldl (xCg c hol) (ms, b)).1 < xB9 ms)) ∧ xB9 (l.foldl (xCg c hol) (ms, b)).1 ≤ xB9 ms
 | [], ms, b => ⟨Ext.refl _ _ _, fun _ h _ => h, ⟨fun h => ⟨h, rfl, by simp⟩, fun h => .inl h⟩, Nat.le_refl _⟩
 | i :: l, ms, b => by
  rw [List.foldl_cons]
  rcases start1_ok c hol ms b i with ⟨e, hr⟩ | ⟨k, hk, hr, e⟩
  ·rw [e]
   obtain ⟨h1, h2, ⟨h3, h4⟩, h5⟩ := xFm c hol l ms b
   refine ⟨h1, h2, ⟨fun h => ?_, h4⟩, h5⟩
   obtain ⟨a1, a2, a3⟩ := h3 h
   exact ⟨a1, a2, fun j hj => by
    rcases List.mem_cons.1 hj with rfl | hj
    ·exact hr
    ·exact a3 j hj⟩
  ·rw [e]
   obtain ⟨h1, h2, ⟨h3, h4⟩, h5⟩ := xFm c hol l (ms.set i (live k hol)) true
   obtain ⟨k', m, g1, g2, g3, _⟩ := xDj.1 hr
   have hi := xH2 (m' := live k hol) g2 g3 (by rw [live_st]; decide)
   refine ⟨(xH4 hk hr).trans h1, fun L hL hS => h2 L (ext_set hL hS hk hr) hS, ⟨fun h => ?_, fun _ => .inr ?_⟩, ?_⟩
   ·have := (h3 h).1
    cases this
   ·omega
   ·omega
theorem rdy_out {c : Con} {ms : List Mk} {i : Nat} (h : c.cl.length ≤ i) : rdy c ms i = false := by
 cases hr : rdy c ms i with
 | false => rfl
 | true =>
  obtain ⟨k, m, h1, _⟩ := xDj.1 hr
  have := (qzM h1).1
  omega
theorem xEa (c : Con) (hol : List Int) : ∀ (n : Nat) (ms : List Mk), xB9 ms < n →
  Ext c hol ms (xEb c hol n ms) ∧ (∀ L, Ext c hol ms L → Shut c L → Ext c hol (xEb c hol n ms) L) ∧ Shut c (xEb c hol n ms)
 | 0, ms, h => absurd h (by omega)
 | n + 1, ms, h => by
  obtain ⟨h1, h2, ⟨h3, h4⟩, h5⟩ := xFm c hol (List.range c.cl.length) ms false
  unfold xEb
  cases hp : (pass c hol ms).2 with
  | true =>
   have hlt : xB9 (pass c hol ms).1 < xB9 ms := (h4 hp).resolve_left (by decide)
   obtain ⟨g1, g2, g3⟩ := xEa c hol n (pass c hol ms).1 (by omega)
   simp only [if_true]
   exact ⟨Ext.trans h1 g1, fun L hL hS => g2 L (h2 L hL hS) hS, g3⟩
  | false =>
   obtain ⟨_, e, hr⟩ := h3 hp
   have e' : (pass c hol ms).1 = ms := e
   simp only [Bool.false_eq_true, if_false]
   rw [e']
   refine ⟨Ext.refl _ _ _, fun _ h _ => h, fun i => ?_⟩
   by_cases hi : i < c.cl.length
   ·exact hr i (List.mem_range.2 hi)
   ·exact rdy_out (by omega)
theorem xDq (ms : List Mk) : xB9 ms ≤ ms.length := List.countP_le_length
theorem xIo {c : Con} {hol : List Int} {ms L : List Mk} (hl : ms.length = c.cl.length) (h : Ext c hol ms L) (hS : Shut c L) (hmin : ∀ L', Ext c hol ms L' → Shut c L' → Ext c hol L L') : L = xAs c hol ms := by
 obtain ⟨h1, h2, h3⟩ := xEa c hol (c.cl.length + 1) ms (by have := xDq ms; omega)
 exact ext_anti (hmin _ h1 h3) (h2 L h hS)
theorem xC8 {c : Con} {hol : List Int} {ms : List Mk} (hl : ms.length = c.cl.length) : Shut c (xAs c hol ms) ∧ Ext c hol ms (xAs c hol ms) := by
 obtain ⟨h1, h2, h3⟩ := xEa c hol (c.cl.length + 1) ms (by have := xDq ms; omega)
 exact ⟨h3, h1⟩
structure Out where
 st : Int
 from_ : Int
 to_ : Int
 got : Int
 brr : Int
deriving DecidableEq
structure Cnt where
 days : Int
 pau : Bool
deriving DecidableEq
def Out.runs (o : Out) : Bool := decide (0 ≤ o.from_) && decide (o.to_ < 0)
def mkOf (k : Cla) (o : Out) (n : Cnt) : Mk :=
 if o.st = 1 then ⟨1, k.aft - n.days, o.got, o.brr, n.pau⟩
 else if o.st = 2 then ⟨2, k.aft + k.grace - n.days, o.got, o.brr, n.pau⟩
 else ⟨o.st, 0, o.got, o.brr, false⟩
structure InvO (k : Cla) (o : Out) (n : Cnt) : Prop where
 run : o.runs = true ↔ (o.st = 1 ∨ o.st = 2)
 l1 : o.st = 1 → 0 ≤ n.days ∧ n.days < k.aft
 l2 : o.st = 2 → k.aft ≤ n.days ∧ n.days < k.aft + k.grace ∧ k.kind = 1
 l0 : o.st = 0 → n.days = 0 ∧ n.pau = false ∧ o.got = 0 ∧ o.brr = -1
structure KGood (k : Cla) : Prop where
 kd : k.kind = 1 ∨ k.kind = 2 ∨ k.kind = 3 ∨ k.kind = 4
 g0 : 0 ≤ k.grace
 g1 : k.kind ≠ 1 → k.grace = 0
 a1 : 1 ≤ k.aft
def xB7 (free : Bool) (steps : Int) (k : Cla) (o : Out) (n : Cnt) : Out × Cnt :=
 if o.runs = false ∨ n.pau = true ∨ (k.bus = true ∧ free = true) then (o, n)
 else if n.days + 1 < k.aft then (o, ⟨n.days + 1, n.pau⟩)
 else if n.days + 1 < k.aft + k.grace then ({ o with st := 2 }, ⟨n.days + 1, n.pau⟩)
 else ({ o with st := if k.kind = 1 then 4 else if k.kind = 2 then 3 else 5, to_ := steps }, ⟨n.days + 1, n.pau⟩)
theorem xIy {k : Cla} {o : Out} {n : Cnt} (h : InvO k o n) : (mkOf k o n).runs = o.runs := by
 unfold mkOf Mk.runs
 cases hr : o.runs with
 | true =>
  rcases h.run.1 hr with e | e <;> simp [e]
 | false =>
  have h1 : o.st ≠ 1 := fun e => by rw [h.run.2 (.inl e)] at hr; cases hr
  have h2 : o.st ≠ 2 := fun e => by rw [h.run.2 (.inr e)] at hr; cases hr
  simp [h1, h2]
theorem tick_mk {k : Cla} {o : Out} {n : Cnt} {free : Bool} {steps : Int} (hk : KGood k) (hs : 0 ≤ steps) (h : InvO k o n) :
  mkOf k (xB7 free steps k o n).1 (xB7 free steps k o n).2 = xBd free k (mkOf k o n) ∧ InvO k (xB7 free steps k o n).1 (xB7 free steps k o n).2 := by
 have hm := xIy h
 have hp : (mkOf k o n).runs = true → (mkOf k o n).pau = n.pau := fun hr => by
  rw [hm] at hr
  unfold mkOf
  rcases h.run.1 hr with e | e <;> simp [e]
 unfold xB7 xBd
 by_cases hc : o.runs = false ∨ n.pau = true ∨ (k.bus = true ∧ free = true)
 ·rw [if_pos hc]
  refine ⟨?_, h⟩
  rw [if_pos]
  rw [hm]
  cases hr : o.runs with
  | false => exact .inl rfl
  | true =>
   rw [hp (hm.trans hr)]
   rw [hr] at hc
   rcases hc with hc | hc | hc
   ·cases hc
   ·exact .inr (.inl hc)
   ·exact .inr (.inr hc)
 ·have hr : o.runs = true := by
   cases hr : o.runs with
   | true => rfl
   | false => exact absurd (.inl hr) hc
  have hc2 : ¬ ((mkOf k o n).runs = false ∨ (mkOf k o n).pau = true ∨ (k.bus = true ∧ free = true)) := by rw [hm, hp (hm.trans hr)]; exact hc
  rw [if_neg hc, if_neg hc2]
  clear hc hc2 hm hp
  have hru := h.run
  have hg := hk.g1
  have hkd := hk.kd
  have h0 := hk.g0
  obtain ⟨s0, f0, t0, g0, b0⟩ := o
  obtain ⟨d0, p0⟩ := n
  simp only at hru
  have hrun := hru.1 hr
  have hfr : 0 ≤ f0 ∧ t0 < 0 := by simpa [Out.runs] using hr
  have l1 := h.l1
  have l2 := h.l2
  simp only at l1 l2
  rcases hrun with e | e
  ·subst e
   have h1 := l1 rfl
   by_cases ha : d0 + 1 < k.aft
   ·rw [if_pos ha]
    have hd : ¬ (k.aft - d0 - 1 = 0) := by omega
    refine ⟨?_, ⟨by simp [Out.runs, hfr], fun _ => ⟨by show 0 ≤ d0 + 1; omega, ha⟩, fun e => by simp at e, fun e => by simp at e⟩⟩
    simp [mkOf, hd]
    omega
   ·rw [if_neg ha]
    have hd : k.aft - d0 - 1 = 0 := by omega
    by_cases hb : d0 + 1 < k.aft + k.grace
    ·rw [if_pos hb]
     have hk1 : k.kind = 1 := by
      by_cases e : k.kind = 1
      ·exact e
      ·have := hg e; omega
     have hgp : 0 < k.grace := by omega
     refine ⟨?_, ⟨by simp [Out.runs, hfr], fun e => by simp at e, fun _ => ⟨by show k.aft ≤ d0 + 1; omega, hb, hk1⟩, fun e => by simp at e⟩⟩
     simp [mkOf, hd, hk1, hgp]
     omega
    ·rw [if_neg hb]
     have hgz : k.grace = 0 := by omega
     have hst : ¬ (steps < 0) := by omega
     rcases hkd with e | e | e | e <;>
      exact ⟨by simp [mkOf, hd, e, hgz, Mk.endS], ⟨by simp [Out.runs, e, hst], fun e' => by simp [e] at e', fun e' => by simp [e] at e', fun e' => by simp [e] at e'⟩⟩
  ·subst e
   have h2 := l2 rfl
   have hst : ¬ (steps < 0) := by omega
   rw [if_neg (show ¬ (d0 + 1 < k.aft) by omega)]
   by_cases hb : d0 + 1 < k.aft + k.grace
   ·rw [if_pos hb]
    have hd : ¬ (k.aft + k.grace - d0 - 1 = 0) := by omega
    refine ⟨?_, ⟨by simp [Out.runs, hfr], fun e => by simp at e, fun _ => ⟨by show k.aft ≤ d0 + 1; omega, hb, h2.2.2⟩, fun e => by simp at e⟩⟩
    simp [mkOf, hd]
    omega
   ·rw [if_neg hb]
    have hd : k.aft + k.grace - d0 - 1 = 0 := by omega
    exact ⟨by simp [mkOf, hd, h2.2.2, Mk.endS], ⟨by simp [Out.runs, h2.2.2, hst], fun e' => by simp [h2.2.2] at e', fun e' => by simp [h2.2.2] at e', fun e' => by simp [h2.2.2] at e'⟩⟩
def xAr (doer steps : Int) (k : Cla) (o : Out) (n : Cnt) : Out :=
 if k.kind ≠ 4 ∧ o.brr ≠ doer then o
 else if k.kind = 1 then (if o.got + 1 < k.need then { o with got := o.got + 1 } else { o with got := o.got + 1, st := 3, to_ := steps })
 else if k.kind = 2 then (if n.pau = true then o else { o with st := 4, to_ := steps })
 else { o with st := 3, to_ := steps }
def actO (act doer steps : Int) (takes : Bool) (k : Cla) (o : Out) (n : Cnt) : Out × Cnt :=
 if o.runs = false then (o, n)
 else (if takes = true ∧ k.act = act then xAr doer steps k o n else o, ⟨n.days, if k.resume = act then false else if k.pause = act then true else n.pau⟩)
structure KPause (k : Cla) (act : Int) : Prop where
 own : k.kind ≠ 4 → k.act = act → k.pause ≠ act ∧ k.resume ≠ act
 two : k.pause = act → k.resume ≠ act
theorem act_mk {k : Cla} {o : Out} {n : Cnt} {act doer steps : Int} (hk : KGood k) (hp : KPause k act) (hs : 0 ≤ steps) (h : InvO k o n) (hg : o.runs = true → k.kind = 1 → o.got < k.need) :
  mkOf k (actO act doer steps true k o n).1 (actO act doer steps true k o n).2 = xAy act doer k (xA1 act k (mkOf k o n)) ∧ InvO k (actO act doer steps true k o n).1 (actO act doer steps true k o n).2 ∧
   ((actO act doer steps true k o n).1.runs = true → k.kind = 1 → (actO act doer steps true k o n).1.got < k.need) := by
 have hm := xIy h
 cases hr : o.runs with
 | false =>
  have e : actO act doer steps true k o n = (o, n) := by unfold actO; rw [if_pos hr]
  have e2 : xA1 act k (mkOf k o n) = mkOf k o n := by unfold xA1; rw [if_pos (hm.trans hr)]
  have e3 : xAy act doer k (mkOf k o n) = mkOf k o n := by unfold xAy; rw [if_pos (.inl (hm.trans hr))]
  rw [e, e2, e3]
  exact ⟨rfl, h, hg⟩
 | true =>
  have eA : actO act doer steps true k o n = (if k.act = act then xAr doer steps k o n else o, ⟨n.days, if k.resume = act then false else if k.pause = act then true else n.pau⟩) := by
   unfold actO
   rw [if_neg (by rw [hr]; decide)]
   simp
  rw [eA]
  clear eA
  have hru := h.run
  have l1 := h.l1
  have l2 := h.l2
  have hgg := hg hr
  have ho := hp.own
  have ht := hp.two
  have hkd := hk.kd
  have hst : ¬ (steps < 0) := by omega
  obtain ⟨s0, f0, t0, g0, b0⟩ := o
  obtain ⟨d0, p0⟩ := n
  have hfr : 0 ≤ f0 ∧ t0 < 0 := by simpa [Out.runs] using hr
  simp only at hru l1 l2 hgg
  have hgn : k.kind = 1 → (¬ (g0 + 1 < k.need) ↔ g0 + 1 = k.need) := fun e => by have := hgg e; omega
  rcases hru.1 hr with e | e <;> subst e
  all_goals
   by_cases ha : k.act = act
   ·by_cases h4 : k.kind = 4
    ·by_cases hP : k.pause = act <;> by_cases hR : k.resume = act <;>
      refine ⟨by simp [xAr, mkOf, xA1, xAy, Mk.runs, Mk.endS, ha, h4, hP, hR], ⟨by simp [xAr, ha, h4, Out.runs, hst], by simp [xAr, ha, h4], by simp [xAr, ha, h4], by simp [xAr, ha, h4]⟩, by simp [h4]⟩
    ·obtain ⟨hP, hR⟩ := ho h4 ha
     by_cases hb : b0 = doer
     ·by_cases h1 : k.kind = 1
      ·by_cases hn : g0 + 1 < k.need
       ·have hn' : ¬ (g0 + 1 = k.need) := by omega
        refine ⟨by simp [xAr, mkOf, xA1, xAy, Mk.runs, ha, hP, hR, hb, h1, hn, hn'], ⟨by simp [xAr, ha, hb, h1, hn, Out.runs, hfr], by first | (simp [xAr, ha, hb, h1, hn]; done) | (simp at l1; done) | simpa [xAr, ha, h4, hb, h1, hn] using l1, by first | (simp [xAr, ha, hb, h1, hn]; done) | (simp at l2; done) | simpa [xAr, ha, h4, hb, h1, hn] using l2, by simp [xAr, ha, hb, h1, hn]⟩, by simp [xAr, ha, hb, h1, hn]⟩
       ·have hn' : g0 + 1 = k.need := (hgn h1).1 hn
        refine ⟨by simp [xAr, mkOf, xA1, xAy, Mk.runs, Mk.endS, ha, hP, hR, hb, h1, hn'], ⟨by simp [xAr, ha, hb, h1, hn, Out.runs, hst], by simp [xAr, ha, hb, h1, hn], by simp [xAr, ha, hb, h1, hn], by simp [xAr, ha, hb, h1, hn]⟩, by simp [xAr, ha, hb, h1, hn, Out.runs, hst]⟩
      ·by_cases h2 : k.kind = 2
       ·cases p0
        ·refine ⟨by simp [xAr, mkOf, xA1, xAy, Mk.runs, Mk.endS, ha, hP, hR, hb, h2], ⟨by simp [xAr, ha, hb, h2, Out.runs, hst], by simp [xAr, ha, hb, h2], by simp [xAr, ha, hb, h2], by simp [xAr, ha, hb, h2]⟩, fun _ e => absurd e h1⟩
        ·refine ⟨by simp [xAr, mkOf, xA1, xAy, Mk.runs, ha, hP, hR, hb, h2], ⟨by simp [xAr, ha, hb, h2, Out.runs, hfr], by first | (simp [xAr, ha, hb, h2]; done) | (simp at l1; done) | simpa [xAr, ha, h4, hb, h1, h2] using l1, by first | (simp [xAr, ha, hb, h2]; done) | (simp [h2] at l2; done) | simpa [xAr, ha, h4, hb, h1, h2] using l2, by simp [xAr, ha, hb, h2]⟩, fun _ e => absurd e h1⟩
       ·refine ⟨by simp [xAr, mkOf, xA1, xAy, Mk.runs, Mk.endS, ha, h4, hP, hR, hb, h1, h2], ⟨by simp [xAr, ha, h4, hb, h1, h2, Out.runs, hst], by simp [xAr, ha, h4, hb, h1, h2], by simp [xAr, ha, h4, hb, h1, h2], by simp [xAr, ha, h4, hb, h1, h2]⟩, fun _ e => absurd e h1⟩
     ·refine ⟨by simp [xAr, mkOf, xA1, xAy, Mk.runs, ha, h4, hP, hR, hb], ⟨by simp [xAr, ha, h4, hb, Out.runs, hfr], by first | (simp [xAr, ha, h4, hb]; done) | (simp at l1; done) | simpa [xAr, ha, h4, hb] using l1, by first | (simp [xAr, ha, h4, hb]; done) | (simp at l2; done) | simpa [xAr, ha, h4, hb] using l2, by simp [xAr, ha, h4, hb]⟩, by simpa [xAr, ha, h4, hb] using fun _ => hgg⟩
   ·by_cases hP : k.pause = act <;> by_cases hR : k.resume = act <;>
     first
     | exact absurd hR (ht hP)
     | refine ⟨by simp [mkOf, xA1, xAy, Mk.runs, ha, hP, hR], ⟨by simp [ha, Out.runs, hfr], by first | (simp [ha]; done) | (simp at l1; done) | simpa [ha] using l1, by first | (simp [ha]; done) | (simp at l2; done) | simpa [ha] using l2, by simp [ha]⟩, by simpa [ha] using fun _ => hgg⟩
structure Rd where
 steps : Int
 day : Int
 hol : List Int
 hap : List Bool
 oc : List (Out × Cnt)
def mkP (k : Cla) (p : Out × Cnt) : Mk := mkOf k p.1 p.2
def Rd.marks (c : Con) (r : Rd) : List Mk := List.zipWith mkP c.cl r.oc
def xBe (steps : Int) (m : Mk) (p : Out × Cnt) : Out × Cnt := if m.st = 1 ∧ p.1.st = 0 then ({ p.1 with st := 1, from_ := steps, brr := m.brr }, p.2) else p
def Rd.startR (c : Con) (r : Rd) : Rd := { r with oc := List.zipWith (xBe r.steps) (xAs c r.hol (r.marks c)) r.oc }
def Con.read0 (c : Con) : Rd :=
 Rd.startR c ⟨0, 0, c.hold, List.replicate c.ac.length false, c.cl.map fun k => if k.waived then (⟨5, -1, 0, 0, -1⟩, ⟨0, false⟩) else (⟨0, -1, -1, 0, -1⟩, ⟨0, false⟩)⟩
def xBr (free : Bool) (steps : Int) (k : Cla) (p : Out × Cnt) : Out × Cnt := xB7 free steps k p.1 p.2
def Rd.tick (c : Con) (r : Rd) : Rd :=
 Rd.startR c { r with steps := r.steps + 1, day := r.day + 1, oc := List.zipWith (xBr (decide (r.day ∈ c.off)) (r.steps + 1)) c.cl r.oc }
def actP (act doer steps : Int) (takes : Bool) (k : Cla) (p : Out × Cnt) : Out × Cnt := actO act doer steps takes k p.1 p.2
def xBa (a : Atc) (k : Cla) (p : Out × Cnt) : Out × Cnt := if p.1.runs = true ∧ k.kind ≠ 4 ∧ k.role = a.give then ({ p.1 with brr := a.to_ }, p.2) else p
def Rd.act (c : Con) (r : Rd) (n : Nat) : Rd :=
 match c.ac[n]? with
 | none => r
 | some a =>
  let takes := a.kind == 1 || !r.hap.getD n false
  let oc1 := List.zipWith (actP n (xA9 a r.hol) (r.steps + 1) takes) c.cl r.oc
  let hap := r.hap.set n true
  if takes = false ∨ a.kind = 1 then Rd.startR c { r with steps := r.steps + 1, hap := hap, oc := oc1 }
  else Rd.startR c { r with steps := r.steps + 1, hap := hap, hol := r.hol.set a.give.toNat a.to_, oc := if a.kind = 3 then List.zipWith (xBa a) c.cl oc1 else oc1 }
def Rd.step (c : Con) (r : Rd) (x : Int) : Rd := if x = -1 then r.tick c else r.act c x.toNat
structure RInv (c : Con) (r : Rd) : Prop where
 len : r.oc.length = c.cl.length
 s0 : 0 ≤ r.steps
 inv : ∀ (i : Nat) k p, c.cl[i]? = some k → r.oc[i]? = some p → InvO k p.1 p.2 ∧ (p.1.runs = true → k.kind = 1 → p.1.got < k.need) ∧ (p.1.st = 0 → p.1.to_ < 0)
theorem xB6 {c : Con} {r : Rd} {i : Nat} {k : Cla} {p : Out × Cnt} (hk : c.cl[i]? = some k) (hp : r.oc[i]? = some p) : (r.marks c)[i]? = some (mkOf k p.1 p.2) := by
 unfold Rd.marks
 rw [List.getElem?_zipWith, hk, hp]
 rfl
theorem xBw {c : Con} {r : Rd} (h : r.oc.length = c.cl.length) : (r.marks c).length = c.cl.length := by
 unfold Rd.marks
 rw [List.length_zipWith, h, Nat.min_self]
theorem xHt {k : Cla} {o : Out} {n : Cnt} : (mkOf k o n).st = o.st := by
 unfold mkOf
 split
 ·next h => exact h.symm
 ·split
  ·next h => exact h.symm
  ·rfl
theorem xBn {c : Con} {r : Rd} (h : RInv c r) (hg : ∀ k ∈ c.cl, KGood k) (hn : ∀ k ∈ c.cl, k.kind = 1 → 0 < k.need) : (r.startR c).marks c = xAs c r.hol (r.marks c) ∧ RInv c (r.startR c) := by
 have hml := xBw h.len
 obtain ⟨hS, hE⟩ := xC8 (hol := r.hol) (ms := r.marks c) hml
 have hsl : (xAs c r.hol (r.marks c)).length = c.cl.length := hE.1.trans hml
 have hlen : (r.startR c).oc.length = c.cl.length := by
  show (List.zipWith _ _ _).length = _
  rw [List.length_zipWith, hsl, h.len, Nat.min_self]
 have key : ∀ (i : Nat) k p, c.cl[i]? = some k → r.oc[i]? = some p → ∃ m, (xAs c r.hol (r.marks c))[i]? = some m ∧ (r.startR c).oc[i]? = some (xBe r.steps m p) ∧
   mkOf k (xBe r.steps m p).1 (xBe r.steps m p).2 = m ∧ InvO k (xBe r.steps m p).1 (xBe r.steps m p).2 ∧ ((xBe r.steps m p).1.runs = true → k.kind = 1 → (xBe r.steps m p).1.got < k.need) ∧ ((xBe r.steps m p).1.st = 0 → (xBe r.steps m p).1.to_ < 0) := by
  intro i k p hk hp
  obtain ⟨hI, hG, hT⟩ := h.inv i k p hk hp
  have hma := xB6 hk hp
  have hi : i < (xAs c r.hol (r.marks c)).length := by rw [hsl]; exact (qzM hk).1
  obtain ⟨m, hm⟩ : ∃ m, (xAs c r.hol (r.marks c))[i]? = some m := ⟨_, qzJ hi⟩
  refine ⟨m, hm, ?_, ?_⟩
  ·show (List.zipWith (xBe r.steps) _ _)[i]? = _
   rw [List.getElem?_zipWith, hm, hp]
  ·rcases hE.2 i with e | ⟨k', m', g1, g2, g3, g4⟩
   ·rw [hm, hma] at e
    cases e
    have hno : ¬ ((mkOf k p.1 p.2).st = 1 ∧ p.1.st = 0) := by rw [xHt]; rintro ⟨a, b⟩; omega
    have e1 : xBe r.steps (mkOf k p.1 p.2) p = p := by unfold xBe; rw [if_neg hno]
    rw [e1]
    exact ⟨rfl, hI, hG, hT⟩
   ·rw [hk] at g1
    cases g1
    rw [hma] at g2
    cases g2
    rw [xHt] at g3
    rw [hm] at g4
    cases g4
    obtain ⟨l1, l2, l3, l4⟩ := hI.l0 g3
    have e1 : xBe r.steps (live k r.hol) p = ({ p.1 with st := 1, from_ := r.steps, brr := (live k r.hol).brr }, p.2) := by unfold xBe; rw [if_pos ⟨rfl, g3⟩]
    rw [e1]
    have hnr : p.1.runs = false := by
     cases hr : p.1.runs with
     | false => rfl
     | true => rcases hI.run.1 hr with e | e <;> omega
    have hgk := hg k (qzK hk)
    have ht := hT g3
    have hs0 := h.s0
    refine ⟨?_, ⟨?_, ?_, ?_, ?_⟩, ?_, ?_⟩
    ·simp [mkOf, live, l1, l2, l3]
    ·simp [Out.runs, hs0, ht]
    ·intro _
     have := hgk.a1
     show 0 ≤ p.2.days ∧ p.2.days < k.aft
     omega
    ·intro e; simp at e
    ·intro e; simp at e
    ·intro _ e
     show p.1.got < k.need
     have := hn k (qzK hk) e
     omega
    ·intro e; simp at e
 refine ⟨?_, ⟨hlen, h.s0, fun i k p hk hp => ?_⟩⟩
 ·refine List.ext_getElem? fun i => ?_
  by_cases hi : i < c.cl.length
  ·obtain ⟨k, hk⟩ : ∃ k, c.cl[i]? = some k := ⟨_, qzJ hi⟩
   obtain ⟨p, hp⟩ : ∃ p, r.oc[i]? = some p := ⟨_, qzJ (by rw [h.len]; exact hi)⟩
   obtain ⟨m, k1, k2, k3, _⟩ := key i k p hk hp
   rw [k1, xB6 hk k2, k3]
  ·rw [List.getElem?_eq_none (by rw [xBw hlen]; omega), List.getElem?_eq_none (by rw [hsl]; omega)]
 ·obtain ⟨q, hq⟩ : ∃ q, r.oc[i]? = some q := ⟨_, qzJ (by rw [h.len]; exact (qzM hk).1)⟩
  obtain ⟨m, k1, k2, k3, k4⟩ := key i k q hk hq
  rw [k2] at hp
  cases hp
  exact k4
structure CGood (c : Con) : Prop where
 k : ∀ k ∈ c.cl, KGood k
 n : ∀ k ∈ c.cl, k.kind = 1 → 0 < k.need
theorem xCn {c : Con} {r : Rd} {f : Cla → Out × Cnt → Out × Cnt} {g : Cla → Mk → Mk} (r' : Rd) (ho : r'.oc = List.zipWith f c.cl r.oc) (hs : 0 ≤ r'.steps) (h : RInv c r)
  (hf : ∀ k p, k ∈ c.cl → InvO k p.1 p.2 → (p.1.runs = true → k.kind = 1 → p.1.got < k.need) → (p.1.st = 0 → p.1.to_ < 0) →
   mkP k (f k p) = g k (mkP k p) ∧ InvO k (f k p).1 (f k p).2 ∧ ((f k p).1.runs = true → k.kind = 1 → (f k p).1.got < k.need) ∧ ((f k p).1.st = 0 → (f k p).1.to_ < 0)) :
  r'.marks c = List.zipWith g c.cl (r.marks c) ∧ RInv c r' := by
 have hl : r'.oc.length = c.cl.length := by rw [ho, List.length_zipWith, h.len, Nat.min_self]
 have key : ∀ (i : Nat) k, c.cl[i]? = some k → ∃ p, r.oc[i]? = some p ∧ r'.oc[i]? = some (f k p) ∧ mkP k (f k p) = g k (mkP k p) ∧ InvO k (f k p).1 (f k p).2 ∧ ((f k p).1.runs = true → k.kind = 1 → (f k p).1.got < k.need) ∧ ((f k p).1.st = 0 → (f k p).1.to_ < 0) := by
  intro i k hk
  obtain ⟨p, hp⟩ : ∃ p, r.oc[i]? = some p := ⟨_, qzJ (by rw [h.len]; exact (qzM hk).1)⟩
  obtain ⟨a, b, d⟩ := h.inv i k p hk hp
  exact ⟨p, hp, by rw [ho, List.getElem?_zipWith, hk, hp], hf k p (qzK hk) a b d⟩
 refine ⟨?_, ⟨hl, hs, fun i k p hk hp => ?_⟩⟩
 ·refine List.ext_getElem? fun i => ?_
  by_cases hi : i < c.cl.length
  ·obtain ⟨k, hk⟩ : ∃ k, c.cl[i]? = some k := ⟨_, qzJ hi⟩
   obtain ⟨p, k1, k2, k3, _⟩ := key i k hk
   rw [xB6 hk k2, List.getElem?_zipWith, hk, xB6 hk k1]
   exact congrArg some k3
  ·rw [List.getElem?_eq_none (by rw [xBw hl]; omega), List.getElem?_eq_none (by rw [List.length_zipWith, xBw h.len, Nat.min_self]; omega)]
 ·obtain ⟨q, k1, k2, k3, k4, k5, k6⟩ := key i k hk
  rw [k2] at hp
  cases hp
  exact ⟨k4, k5, k6⟩
theorem xG3 (free : Bool) (steps : Int) (k : Cla) (o : Out) (n : Cnt) (_hk : KGood k) (_hs : 0 ≤ steps) (h : InvO k o n) (hg : o.runs = true → k.kind = 1 → o.got < k.need) (ht : o.st = 0 → o.to_ < 0) :
  ((xB7 free steps k o n).1.runs = true → k.kind = 1 → (xB7 free steps k o n).1.got < k.need) ∧ ((xB7 free steps k o n).1.st = 0 → (xB7 free steps k o n).1.to_ < 0) := by
 unfold xB7
 by_cases h1 : o.runs = false ∨ n.pau = true ∨ (k.bus = true ∧ free = true)
 ·rw [if_pos h1]
  exact ⟨hg, ht⟩
 ·rw [if_neg h1]
  have hr : o.runs = true := by
   cases hr : o.runs with
   | true => rfl
   | false => exact absurd (.inl hr) h1
  have h0 : o.st ≠ 0 := fun e => by rcases h.run.1 hr with e2 | e2 <;> omega
  split
  ·exact ⟨fun _ => hg hr, fun e => absurd e h0⟩
  ·split
   ·exact ⟨fun _ => hg hr, fun e => by simp at e⟩
   ·refine ⟨fun _ => hg hr, fun e => ?_⟩
    exfalso
    revert e
    show (if k.kind = 1 then (4 : Int) else if k.kind = 2 then 3 else 5) = 0 → False
    split
    ·simp
    ·split <;> simp
structure Rel (c : Con) (r : Rd) (s : Sta) : Prop where
 day : s.day = r.day
 hol : s.hol = r.hol
 marks : s.marks = r.marks c
 used : s.used = List.zipWith (fun (a : Atc) h => h && a.kind != 1) c.ac r.hap
 hap : r.hap.length = c.ac.length
theorem tick_rel {c : Con} {r : Rd} {s : Sta} (hc : CGood c) (h : RInv c r) (hr : Rel c r s) : Rel c (r.tick c) (s.tick c) ∧ RInv c (r.tick c) := by
 obtain ⟨h1, h2⟩ := xCn (f := xBr (decide (r.day ∈ c.off)) (r.steps + 1)) (g := xBd (decide (r.day ∈ c.off)))
  { r with steps := r.steps + 1, day := r.day + 1, oc := List.zipWith (xBr (decide (r.day ∈ c.off)) (r.steps + 1)) c.cl r.oc } rfl (by have := h.s0; show 0 ≤ r.steps + 1; omega) h
  (fun k p hk hi hg ht => by
   have hs : 0 ≤ r.steps + 1 := by have := h.s0; omega
   obtain ⟨a, b⟩ := tick_mk (free := decide (r.day ∈ c.off)) (hc.k k hk) hs hi
   obtain ⟨d, e⟩ := xG3 (decide (r.day ∈ c.off)) (r.steps + 1) k p.1 p.2 (hc.k k hk) hs hi hg ht
   exact ⟨a, b, d, e⟩)
 obtain ⟨h3, h4⟩ := xBn h2 hc.k hc.n
 refine ⟨⟨?_, hr.hol, ?_, hr.used, hr.hap⟩, h4⟩
 ·show s.day + 1 = r.day + 1
  rw [hr.day]
 ·show xAs c s.hol (List.zipWith (xBd (decide (s.day ∈ c.off))) c.cl s.marks) = _
  rw [hr.day, hr.hol, hr.marks]
  refine Eq.trans ?_ h3.symm
  rw [h1]
theorem shut_ext {c : Con} {hol : List Int} {ms L : List Mk} (hS : Shut c ms) (h : Ext c hol ms L) (hL : ∀ L', Ext c hol ms L' → Shut c L' → Ext c hol L L') : L = ms := ext_anti (hL ms (Ext.refl _ _ _) hS) h
theorem xDf {c : Con} {hol : List Int} {ms : List Mk} (hl : ms.length = c.cl.length) (hS : Shut c ms) : xAs c hol ms = ms := by
 obtain ⟨h1, h2, h3⟩ := xEa c hol (c.cl.length + 1) ms (by have := xDq ms; omega)
 exact shut_ext hS h1 h2
def CPause (c : Con) : Prop := ∀ (n : Nat) a, c.ac[n]? = some a → ∀ k ∈ c.cl, KPause k (n : Int) ∧ (a.kind ≠ 1 → k.pause ≠ (n : Int) ∧ k.resume ≠ (n : Int))
theorem actO_to {act doer steps : Int} {takes : Bool} {k : Cla} {o : Out} {n : Cnt} (h : InvO k o n) (ht : o.st = 0 → o.to_ < 0) : (actO act doer steps takes k o n).1.st = 0 → (actO act doer steps takes k o n).1.to_ < 0 := by
 unfold actO
 cases hr : o.runs with
 | false => rw [if_pos rfl]; exact ht
 | true =>
  have h0 : o.st ≠ 0 := fun e => by rcases h.run.1 hr with e2 | e2 <;> omega
  rw [if_neg (by decide)]
  intro e
  exfalso
  revert e
  show (if takes = true ∧ k.act = act then xAr doer steps k o n else o).st = 0 → False
  split
  ·unfold xAr
   repeat' split
   all_goals first | exact fun e => h0 e | simp
  ·exact h0
theorem zip_zip {α : Type} {f g : Cla → α → α} : ∀ (l : List Cla) (ms : List α), List.zipWith f l (List.zipWith g l ms) = List.zipWith (fun k m => f k (g k m)) l ms
 | [], ms => by simp
 | k :: l, [] => by simp
 | k :: l, m :: ms => by simp [zip_zip l ms]
theorem xIb {α β γ : Type} (f : α → β → γ) : ∀ (l : List α) (m : List β) (n : Nat) (a : α) (b : β), l[n]? = some a → List.zipWith f l (m.set n b) = (List.zipWith f l m).set n (f a b)
 | [], m, n, a, b, h => by simp at h
 | x :: l, [], n, a, b, h => by simp
 | x :: l, y :: m, 0, a, b, h => by
  simp only [qzC, Option.some.injEq] at h
  subst h
  simp
 | x :: l, y :: m, n + 1, a, b, h => by
  simp only [qzB] at h
  simp [xIb f l m n a b h]
theorem xHn {k : Cla} {p : Out × Cnt} {a : Atc} (h : InvO k p.1 p.2) (hg : p.1.runs = true → k.kind = 1 → p.1.got < k.need) (ht : p.1.st = 0 → p.1.to_ < 0) :
  mkP k (xBa a k p) = xBb a k (mkP k p) ∧ InvO k (xBa a k p).1 (xBa a k p).2 ∧ ((xBa a k p).1.runs = true → k.kind = 1 → (xBa a k p).1.got < k.need) ∧ ((xBa a k p).1.st = 0 → (xBa a k p).1.to_ < 0) := by
 have hm : (mkP k p).runs = p.1.runs := xIy h
 unfold xBa xBb
 rw [hm]
 by_cases hc : p.1.runs = true ∧ k.kind ≠ 4 ∧ k.role = a.give
 ·rw [if_pos hc, if_pos hc]
  obtain ⟨o, n⟩ := p
  refine ⟨?_, ⟨h.run, h.l1, h.l2, fun e => ?_⟩, hg, ht⟩
  ·show mkOf k { o with brr := a.to_ } n = { mkOf k o n with brr := a.to_ }
   rcases h.run.1 hc.1 with e | e
   ·simp only at e; simp [mkOf, e]
   ·simp only at e; simp [mkOf, e]
  ·exfalso
   have e' : o.st = 0 := e
   rcases h.run.1 hc.1 with e2 | e2
   ·simp only at e2; omega
   ·simp only at e2; omega
 ·rw [if_neg hc, if_neg hc]
  exact ⟨rfl, h, hg, ht⟩
theorem used_set {c : Con} {n : Nat} {a : Atc} {hap : List Bool} (ha : c.ac[n]? = some a) : List.zipWith (fun (a : Atc) h => h && a.kind != 1) c.ac (hap.set n true) = (List.zipWith (fun (a : Atc) h => h && a.kind != 1) c.ac hap).set n (a.kind != 1) := by
 rw [xIb (fun (a : Atc) h => h && a.kind != 1) c.ac hap n a true ha]
 simp
theorem used_at {c : Con} {n : Nat} {a : Atc} {hap : List Bool} (ha : c.ac[n]? = some a) (hl : hap.length = c.ac.length) : (List.zipWith (fun (a : Atc) h => h && a.kind != 1) c.ac hap).getD n false = (hap.getD n false && a.kind != 1) := by
 have hn : n < hap.length := by rw [hl]; exact (qzM ha).1
 rw [List.getD_eq_getElem?_getD, List.getElem?_zipWith, ha, List.getD_eq_getElem?_getD, qzJ hn]
 rfl
theorem set_same {l : List Bool} {n : Nat} (h : l.getD n false = true) : l.set n true = l := by
 refine List.ext_getElem? fun i => ?_
 by_cases e : n = i
 ·subst e
  rw [List.getD_eq_getElem?_getD] at h
  cases hl : l[n]? with
  | none => rw [hl] at h; simp at h
  | some b =>
   rw [hl] at h
   simp only [Option.getD_some] at h
   subst h
   rw [List.getElem?_set_self (qzM hl).1]
 ·rw [List.getElem?_set_ne e]
theorem set_false {l : List Bool} {n : Nat} (h : l.getD n false = false) : l.set n false = l := by
 refine List.ext_getElem? fun i => ?_
 by_cases e : n = i
 ·subst e
  rw [List.getD_eq_getElem?_getD] at h
  cases hl : l[n]? with
  | none => rw [List.getElem?_eq_none (by simpa using hl)]
  | some b =>
   rw [hl] at h
   simp only [Option.getD_some] at h
   subst h
   rw [List.getElem?_set_self (qzM hl).1]
 ·rw [List.getElem?_set_ne e]
theorem act_rel {c : Con} {r : Rd} {s : Sta} {n : Nat} (hc : CGood c) (hp : CPause c) (h : RInv c r) (hS : Shut c (r.marks c)) (hr : Rel c r s) (hn : n < c.ac.length) : Rel c (r.act c n) (s.act c n) ∧ RInv c (r.act c n) := by
 obtain ⟨a, ha⟩ : ∃ a, c.ac[n]? = some a := ⟨_, qzJ hn⟩
 have hs1 : 0 ≤ r.steps + 1 := by have := h.s0; omega
 have hu : s.used.getD n false = (r.hap.getD n false && a.kind != 1) := by rw [hr.used]; exact used_at ha hr.hap
 unfold Rd.act Sta.act
 rw [ha]
 simp only
 by_cases ht : a.kind ≠ 1 ∧ r.hap.getD n false = true
 ·
  have htk : (a.kind == 1 || !r.hap.getD n false) = false := by rw [ht.2]; simp [ht.1]
  have hus : a.kind ≠ 1 ∧ s.used.getD n false = true := ⟨ht.1, by rw [hu, ht.2]; simp [ht.1]⟩
  rw [if_pos hus, htk, if_pos (.inl rfl)]
  have he : List.zipWith (actP (n : Int) (xA9 a r.hol) (r.steps + 1) false) c.cl r.oc = r.oc := by
   refine List.ext_getElem? fun i => ?_
   by_cases hi : i < c.cl.length
   ·obtain ⟨k, hk⟩ : ∃ k, c.cl[i]? = some k := ⟨_, qzJ hi⟩
    obtain ⟨p, hpi⟩ : ∃ p, r.oc[i]? = some p := ⟨_, qzJ (by rw [h.len]; exact hi)⟩
    rw [List.getElem?_zipWith, hk, hpi]
    obtain ⟨q1, q2⟩ := (hp n a ha k (qzK hk)).2 ht.1
    show some (actO (n : Int) (xA9 a r.hol) (r.steps + 1) false k p.1 p.2) = some p
    unfold actO
    split
    ·rfl
    ·simp
   ·rw [List.getElem?_eq_none (by rw [List.length_zipWith, h.len, Nat.min_self]; omega), List.getElem?_eq_none (by rw [h.len]; omega)]
  rw [he, set_same ht.2]
  have h2 : RInv c { r with steps := r.steps + 1, hap := r.hap, oc := r.oc } := ⟨h.len, hs1, h.inv⟩
  obtain ⟨h3, h4⟩ := xBn h2 hc.k hc.n
  refine ⟨⟨hr.day, hr.hol, ?_, hr.used, hr.hap⟩, h4⟩
  rw [h3]
  show s.marks = xAs c r.hol (r.marks c)
  rw [xDf (xBw h.len) hS]
  exact hr.marks
 ·have htk : (a.kind == 1 || !r.hap.getD n false) = true := by
   by_cases h1 : a.kind = 1
   ·simp [h1]
   ·have : r.hap.getD n false = false := by
     cases hb : r.hap.getD n false with
     | false => rfl
     | true => exact absurd ⟨h1, hb⟩ ht
    rw [this]; simp
  have hus : ¬ (a.kind ≠ 1 ∧ s.used.getD n false = true) := fun ⟨x, y⟩ => ht ⟨x, by rw [hu] at y; simp at y; exact y.1⟩
  rw [if_neg hus, htk]
  obtain ⟨z1, z2⟩ := xCn (f := actP (n : Int) (xA9 a r.hol) (r.steps + 1) true) (g := fun k m => xAy (n : Int) (xA9 a r.hol) k (xA1 (n : Int) k m))
   { r with steps := r.steps + 1, hap := r.hap.set n true, oc := List.zipWith (actP (n : Int) (xA9 a r.hol) (r.steps + 1) true) c.cl r.oc } rfl hs1 h
   (fun k p hk hi hg ht => by
    obtain ⟨x1, x2, x3⟩ := act_mk (doer := xA9 a r.hol) (hc.k k hk) (hp n a ha k hk).1 hs1 hi hg
    exact ⟨x1, x2, x3, actO_to hi ht⟩)
  have hm2 : List.zipWith (xAy (n : Int) (xA9 a s.hol)) c.cl (List.zipWith (xA1 (n : Int)) c.cl s.marks) = List.zipWith (fun k m => xAy (n : Int) (xA9 a r.hol) k (xA1 (n : Int) k m)) c.cl (r.marks c) := by
   rw [zip_zip, hr.hol, hr.marks]
  by_cases h1 : a.kind = 1
  ·rw [if_pos (.inr h1), if_pos h1]
   obtain ⟨h3, h4⟩ := xBn z2 hc.k hc.n
   refine ⟨⟨hr.day, hr.hol, ?_, ?_, ?_⟩, h4⟩
   ·rw [h3, z1, hm2]
    show xAs c s.hol _ = xAs c r.hol _
    rw [hr.hol]
   ·show s.used = List.zipWith _ c.ac (r.hap.set n true)
    rw [used_set ha, ← hr.used]
    have e : (a.kind != 1) = false := by simp [h1]
    rw [e, set_false (by rw [hu, e]; simp)]
   ·show (r.hap.set n true).length = _
    rw [List.length_set]; exact hr.hap
  ·rw [if_neg (by simp [h1]), if_neg h1]
   have hus2 : (s.used.set n true) = List.zipWith (fun (a : Atc) h => h && a.kind != 1) c.ac (r.hap.set n true) := by
    rw [used_set ha, ← hr.used]
    have e : (a.kind != 1) = true := by simp [h1]
    rw [e]
   by_cases h3k : a.kind = 3
   ·obtain ⟨y1, y2⟩ := xCn (f := xBa a) (g := xBb a)
     { r with steps := r.steps + 1, hap := r.hap.set n true, hol := r.hol.set a.give.toNat a.to_, oc := List.zipWith (xBa a) c.cl (List.zipWith (actP (n : Int) (xA9 a r.hol) (r.steps + 1) true) c.cl r.oc) } rfl hs1 z2
     (fun k p hk hi hg ht => xHn hi hg ht)
    rw [if_pos h3k, if_pos h3k]
    obtain ⟨h3, h4⟩ := xBn y2 hc.k hc.n
    refine ⟨⟨hr.day, ?_, ?_, hus2, ?_⟩, h4⟩
    ·show s.hol.set _ _ = r.hol.set _ _
     rw [hr.hol]
    ·rw [h3, y1, z1, hm2]
     show xAs c (s.hol.set _ _) _ = xAs c (r.hol.set _ _) _
     rw [hr.hol]
    ·show (r.hap.set n true).length = _
     rw [List.length_set]; exact hr.hap
   ·rw [if_neg h3k, if_neg h3k]
    have z3 : RInv c { r with steps := r.steps + 1, hap := r.hap.set n true, hol := r.hol.set a.give.toNat a.to_, oc := List.zipWith (actP (n : Int) (xA9 a r.hol) (r.steps + 1) true) c.cl r.oc } := ⟨z2.len, z2.s0, z2.inv⟩
    obtain ⟨h3, h4⟩ := xBn z3 hc.k hc.n
    refine ⟨⟨hr.day, ?_, ?_, hus2, ?_⟩, h4⟩
    ·show s.hol.set _ _ = r.hol.set _ _
     rw [hr.hol]
    ·rw [h3]
     show xAs c (s.hol.set _ _) _ = xAs c (r.hol.set _ _) _
     rw [hm2, hr.hol]
     exact congrArg _ z1.symm
    ·show (r.hap.set n true).length = _
     rw [List.length_set]; exact hr.hap
def out0 (k : Cla) : Out × Cnt := if k.waived then (⟨5, -1, 0, 0, -1⟩, ⟨0, false⟩) else (⟨0, -1, -1, 0, -1⟩, ⟨0, false⟩)
def Con.base (c : Con) : Rd := ⟨0, 0, c.hold, List.replicate c.ac.length false, c.cl.map out0⟩
theorem read0_eq (c : Con) : c.read0 = Rd.startR c c.base := rfl
theorem xE7 {c : Con} (_hc : CGood c) : RInv c c.base := by
 refine ⟨by simp [Con.base], by simp [Con.base], fun i k p hk hp => ?_⟩
 have e : p = out0 k := by
  have : c.base.oc[i]? = (c.cl[i]?).map out0 := by simp [Con.base]
  rw [this, hk] at hp
  exact (Option.some.inj hp).symm
 subst e
 unfold out0
 split
 ·exact ⟨⟨by simp [Out.runs], by simp, by simp, by simp⟩, by simp [Out.runs], by simp⟩
 ·exact ⟨⟨by simp [Out.runs], by simp, by simp, by simp⟩, by simp [Out.runs], by simp⟩
theorem base_marks (c : Con) : c.base.marks c = c.cl.map fun k => if k.waived then { Mk.idle with st := 5 } else Mk.idle := by
 refine List.ext_getElem? fun i => ?_
 rw [List.getElem?_map]
 cases hk : c.cl[i]? with
 | none =>
  refine List.getElem?_eq_none ?_
  have := List.getElem?_eq_none_iff.1 hk
  rw [xBw (by simp [Con.base])]
  exact this
 | some k =>
  have hp : c.base.oc[i]? = some (out0 k) := by simp [Con.base, hk]
  rw [xB6 hk hp]
  unfold out0
  cases hw : k.waived <;> simp [mkOf, Mk.idle, hw]
theorem first_rel {c : Con} (hc : CGood c) : Rel c c.read0 c.first ∧ RInv c c.read0 := by
 obtain ⟨h1, h2⟩ := xBn (xE7 hc) hc.k hc.n
 refine ⟨⟨rfl, rfl, ?_, ?_, ?_⟩, h2⟩
 ·rw [read0_eq, h1, base_marks]
  rfl
 ·show List.replicate c.ac.length false = List.zipWith _ c.ac (List.replicate c.ac.length false)
  refine List.ext_getElem? fun i => ?_
  by_cases hi : i < c.ac.length
  ·rw [List.getElem?_zipWith, List.getElem?_replicate, if_pos hi, qzJ hi]
   rfl
  ·rw [List.getElem?_eq_none (by simp; omega), List.getElem?_eq_none (by simp; omega)]
 ·show (List.replicate c.ac.length false).length = _
  simp
theorem xCp {c : Con} {r : Rd} (hc : CGood c) (h : RInv c r) : Shut c ((r.startR c).marks c) := by
 rw [(xBn h hc.k hc.n).1]
 exact (xC8 (xBw h.len)).1
def xGh (c : Con) : Rd → List Int → List Rd
 | r, [] => [r]
 | r, x :: l => r :: xGh c (r.step c x) l
structure SOk (c : Con) (s : Sta) : Prop where
 vc : c.ok = true
 d0 : 0 ≤ s.day
 d1 : s.day ≤ c.days
 h : s.hol.length = c.hold.length
 u : s.used.length = c.ac.length
 m : s.marks.length = c.cl.length
 hr : ∀ x ∈ s.hol, 0 ≤ x ∧ x < c.par
 ur : ∀ (i : Nat) a b, c.ac[i]? = some a → s.used[i]? = some b → ¬ (b = true ∧ a.kind = 1)
 mr : ∀ (i : Nat) k x, c.cl[i]? = some k → s.marks[i]? = some x → xBs c k x = true
 sh : Shut c s.marks
theorem xF7 {α β : Type} {f : α → β → Bool} {l : List α} {m : List β} : (List.zipWith f l m).all id = true ↔ ∀ (i : Nat) a b, l[i]? = some a → m[i]? = some b → f a b = true := by
 rw [List.all_eq_true]
 constructor
 ·intro h i a b ha hb
  exact h _ (qzK (i := i) (by rw [List.getElem?_zipWith, ha, hb]))
 ·intro h x hx
  obtain ⟨i, hi⟩ := List.getElem?_of_mem hx
  rw [List.getElem?_zipWith] at hi
  cases ha : l[i]? with
  | none => rw [ha] at hi; simp at hi
  | some a =>
   cases hb : m[i]? with
   | none => rw [ha, hb] at hi; simp at hi
   | some b =>
    rw [ha, hb] at hi
    simp only [Option.some.injEq] at hi
    rw [← hi]
    exact h i a b ha hb
theorem xDu {c : Con} {s : Sta} : s.ok c = true ↔ SOk c s := by
 unfold Sta.ok
 simp only [Bool.and_eq_true, decide_eq_true_eq, beq_iff_eq, List.all_eq_true, List.mem_range]
 constructor
 ·rintro ⟨⟨⟨⟨⟨⟨⟨⟨h1, h2⟩, h3⟩, h4⟩, h5⟩, h6⟩, h7⟩, h8⟩, h9⟩
  refine ⟨h1, h2, h3, h4, h5, h6, h7, ?_, ?_, ?_⟩
  ·intro i a b ha hb ⟨e1, e2⟩
   have := (xF7 (f := fun (a : Atc) u => !(u && a.kind == 1)).1 (by rw [List.all_eq_true]; exact h8)) i a b ha hb
   rw [e1, e2] at this
   simp at this
  ·intro i k x hk hx
   have := h9 i (qzM hx).1
   rw [hk, hx] at this
   simp only [Bool.and_eq_true] at this
   exact this.1
  ·intro i
   by_cases hi : i < s.marks.length
   ·have := h9 i hi
    obtain ⟨k, hk⟩ : ∃ k, c.cl[i]? = some k := ⟨_, qzJ (by omega)⟩
    obtain ⟨x, hx⟩ : ∃ x, s.marks[i]? = some x := ⟨_, qzJ hi⟩
    rw [hk, hx] at this
    simp only [Bool.and_eq_true] at this
    simpa using this.2
   ·exact rdy_out (by omega)
 ·rintro ⟨h1, h2, h3, h4, h5, h6, h7, h8, h9, h10⟩
  refine ⟨⟨⟨⟨⟨⟨⟨⟨h1, h2⟩, h3⟩, h4⟩, h5⟩, h6⟩, h7⟩, ?_⟩, ?_⟩
  ·rw [← List.all_eq_true]
   refine xF7.2 fun i a b ha hb => ?_
   have := h8 i a b ha hb
   cases b
   ·rfl
   ·simp only [true_and] at this
    simp [this]
  ·intro i hi
   obtain ⟨k, hk⟩ : ∃ k, c.cl[i]? = some k := ⟨_, qzJ (by omega)⟩
   obtain ⟨x, hx⟩ : ∃ x, s.marks[i]? = some x := ⟨_, qzJ hi⟩
   rw [hk, hx]
   simp only [Bool.and_eq_true]
   exact ⟨h9 i k x hk hx, by rw [h10 i]; rfl⟩
structure KV (c : Con) (k : Cla) : Prop where
 kd : k.kind = 1 ∨ k.kind = 2 ∨ k.kind = 3 ∨ k.kind = 4
 g0 : 0 ≤ k.grace
 g1 : k.kind ≠ 1 → k.grace = 0
 a1 : 1 ≤ k.aft
 n1 : 1 ≤ k.need ∧ k.need ≤ 9
 r : k.kind ≠ 4 → 0 ≤ k.role ∧ k.role < c.hold.length
 na : k.kind ≠ 4 → c.nat k.act = false
 p : (k.pause = -1 ∧ k.resume = -1) ∨ (k.pause ≠ k.resume ∧ c.nat k.pause = true ∧ c.nat k.resume = true)
theorem claOk_kv {c : Con} {i : Nat} {k : Cla} (h : c.claOk i k = true) : KV c k := by
 unfold Con.claOk at h
 simp only [Bool.and_eq_true, decide_eq_true_eq] at h
 obtain ⟨⟨⟨⟨⟨⟨⟨h1, h2⟩, h3⟩, h4⟩, h5⟩, h6⟩, h7⟩, h8⟩ := h
 have hp : (k.pause = -1 ∧ k.resume = -1) ∨ (k.pause ≠ k.resume ∧ c.nat k.pause = true ∧ c.nat k.resume = true) := by
  unfold Con.pauseOk at h7
  simp only [Bool.or_eq_true, Bool.and_eq_true, beq_iff_eq, bne_iff_ne] at h7
  rcases h7 with h7 | ⟨⟨a, b⟩, d⟩
  ·exact .inl h7
  ·exact .inr ⟨a, b, d⟩
 unfold Con.kindOk at h4
 by_cases k4 : k.kind = 4
 ·rw [if_pos (by simp [k4])] at h4
  simp only [Bool.and_eq_true, beq_iff_eq] at h4
  exact ⟨.inr (.inr (.inr k4)), by omega, fun _ => h4.1.2, h2, by omega, fun h => absurd k4 h, fun h => absurd k4 h, hp⟩
 ·rw [if_neg (by simp [k4])] at h4
  simp only [Bool.and_eq_true, Bool.not_eq_true'] at h4
  obtain ⟨⟨a1, a2⟩, a3⟩ := h4
  have hr : 0 ≤ k.role ∧ k.role < c.hold.length := xB3.1 a1
  by_cases k1 : k.kind = 1
  ·rw [if_pos (by simp [k1])] at a3
   simp only [Bool.and_eq_true, decide_eq_true_eq] at a3
   exact ⟨.inl k1, by omega, fun h => absurd k1 h, h2, by omega, fun _ => hr, fun _ => a2, hp⟩
  ·rw [if_neg (by simp [k1])] at a3
   by_cases k2 : k.kind = 2
   ·rw [if_pos (by simp [k2])] at a3
    simp only [Bool.and_eq_true, beq_iff_eq] at a3
    exact ⟨.inr (.inl k2), by omega, fun _ => a3.2, h2, by omega, fun _ => hr, fun _ => a2, hp⟩
   ·rw [if_neg (by simp [k2])] at a3
    simp only [Bool.and_eq_true, beq_iff_eq] at a3
    exact ⟨.inr (.inr (.inl a3.1.1.1)), by omega, fun _ => a3.1.2, h2, by omega, fun _ => hr, fun _ => a2, hp⟩
theorem xDa {c : Con} (h : c.ok = true) {k : Cla} (hk : k ∈ c.cl) : KV c k := by
 unfold Con.ok at h
 simp only [Bool.and_eq_true] at h
 obtain ⟨i, hi⟩ := List.getElem?_of_mem hk
 exact claOk_kv ((c.clsOk_iff c.cl 0).1 h.2 i k hi)
theorem xCe {c : Con} (h : c.ok = true) : CGood c :=
 ⟨fun k hk => by have := xDa h hk; exact ⟨this.kd, this.g0, this.g1, this.a1⟩, fun k hk _ => by have := (xDa h hk).n1; omega⟩
theorem nat_at {c : Con} {n : Nat} {a : Atc} (ha : c.ac[n]? = some a) : c.nat (n : Int) = (a.kind == 1 && a.role == -1) := by
 unfold Con.nat
 have : isI (n : Int) c.ac.length = true := xB3.2 ⟨by omega, by have := (qzM ha).1; omega⟩
 rw [this, Int.toNat_natCast, ha]
 rfl
theorem xEg {c : Con} (h : c.ok = true) : CPause c := by
 intro n a ha k hk
 have hv := xDa h hk
 refine ⟨⟨fun h4 e => ?_, fun e => ?_⟩, fun h1 => ?_⟩
 ·have hn := hv.na h4
  rw [e] at hn
  rcases hv.p with ⟨p1, p2⟩ | ⟨_, p2, p3⟩
  ·omega
  ·exact ⟨(fun e2 => by rw [e2, hn] at p2; cases p2), (fun e2 => by rw [e2, hn] at p3; cases p3)⟩
 ·rcases hv.p with ⟨p1, p2⟩ | ⟨p1, _, _⟩
  ·omega
  ·rw [← e]; exact fun e2 => p1 e2.symm
 ·have hn := nat_at ha
  rw [show (a.kind == 1) = false by simp [h1], Bool.false_and] at hn
  rcases hv.p with ⟨p1, p2⟩ | ⟨_, p2, p3⟩
  ·exact ⟨by omega, by omega⟩
  ·exact ⟨(fun e2 => by rw [e2, hn] at p2; cases p2), (fun e2 => by rw [e2, hn] at p3; cases p3)⟩
theorem ok_act {c : Con} (h : c.ok = true) {a : Atc} (ha : a ∈ c.ac) : (a.kind = 1 ∨ a.kind = 2 ∨ a.kind = 3) ∧ (a.role = -1 ∨ (0 ≤ a.role ∧ a.role < c.hold.length)) ∧ (a.kind ≠ 1 → 0 ≤ a.give ∧ a.give < c.hold.length ∧ 0 ≤ a.to_ ∧ a.to_ < c.par) := by
 unfold Con.ok Con.framed at h
 simp only [Bool.and_eq_true, List.all_eq_true] at h
 have h2 := h.1.2.1.2 a ha
 unfold Con.actOk at h2
 by_cases hm : c.mov a.role = true
 ·rw [if_pos hm] at h2
  have hr := xB3.1 hm
  by_cases h1 : a.kind = 1
  ·exact ⟨.inl h1, .inr hr, fun h => absurd h1 h⟩
  ·rw [if_neg (by simp [h1])] at h2
   simp only [Bool.and_eq_true, Bool.or_eq_true, beq_iff_eq, decide_eq_true_eq] at h2
   obtain ⟨⟨⟨⟨⟨g1, g2⟩, g3⟩, g4⟩, _⟩, _⟩ := h2
   have := xB3.1 g2
   exact ⟨.inr g1, .inr hr, fun _ => ⟨this.1, this.2, g3, g4⟩⟩
 ·rw [if_neg hm] at h2
  simp only [Bool.and_eq_true, beq_iff_eq] at h2
  obtain ⟨⟨⟨⟨⟨g1, g2⟩, g3⟩, _⟩, _⟩, _⟩ := h2
  exact ⟨.inl g1, .inl g2, fun h => absurd g1 h⟩
theorem xA8 {c : Con} {k : Cla} {m : Mk} : xBs c k m = true ↔
  (m.st = 0 ∧ k.waived = false ∧ m = Mk.idle) ∨
  ((m.st = 1 ∧ m.left ≤ k.aft ∨ m.st = 2 ∧ k.kind = 1 ∧ m.left ≤ k.grace) ∧ k.waived = false ∧ 1 ≤ m.left ∧ (m.pau = true → k.pause ≠ -1) ∧ (m.got = 0 ∨ (k.kind = 1 ∧ 0 ≤ m.got ∧ m.got < k.need)) ∧ (k.kind = 4 → m.brr = -1) ∧ (k.kind ≠ 4 → 0 ≤ m.brr ∧ m.brr < c.par)) ∨
  ((m.st = 3 ∨ m.st = 4 ∨ m.st = 5) ∧ m.left = 0 ∧ 0 ≤ m.got ∧ m.got ≤ 9 ∧ -1 ≤ m.brr ∧ m.brr < c.par ∧ m.pau = false) := by
 have hrun : xDb c k m = true ↔ k.waived = false ∧ 1 ≤ m.left ∧ (m.pau = true → k.pause ≠ -1) ∧ (m.got = 0 ∨ (k.kind = 1 ∧ 0 ≤ m.got ∧ m.got < k.need)) ∧ (k.kind = 4 → m.brr = -1) ∧ (k.kind ≠ 4 → 0 ≤ m.brr ∧ m.brr < c.par) := by
  unfold xDb
  by_cases h4 : k.kind = 4
  ·rw [if_pos h4]
   have h1 : (k.kind != 1) = true := by simp [h4]
   rw [h1]
   simp only [Bool.and_eq_true, Bool.not_eq_true', Bool.or_eq_false_iff, Bool.and_eq_false_iff, decide_eq_false_iff_not, beq_iff_eq, bne_eq_false_iff_eq, beq_eq_false_iff_ne, Bool.true_or]
   constructor
   ·rintro ⟨⟨⟨⟨a, b⟩, d⟩, e⟩, f⟩
    refine ⟨a, by omega, fun hp => ?_, ?_, fun _ => f, fun h => absurd h4 h⟩
    ·rcases d with d | d
     ·rw [hp] at d; cases d
     ·exact d
    ·rcases e with e | e
     ·exact .inl e
     ·cases e
   ·rintro ⟨a, b, d, e, f, _⟩
    refine ⟨⟨⟨⟨a, by omega⟩, ?_⟩, ?_⟩, f h4⟩
    ·cases hp : m.pau
     ·exact .inl rfl
     ·exact .inr (d hp)
    ·rcases e with e | ⟨e, _⟩
     ·exact .inl e
     ·omega
  ·rw [if_neg h4]
   simp only [Bool.and_eq_true, Bool.not_eq_true', Bool.or_eq_false_iff, Bool.and_eq_false_iff, decide_eq_false_iff_not, bne_eq_false_iff_eq, beq_eq_false_iff_ne, decide_eq_true_eq]
   constructor
   ·rintro ⟨⟨⟨⟨a, b⟩, d⟩, e⟩, f⟩
    refine ⟨a, by omega, fun hp => ?_, ?_, fun h => absurd h h4, fun _ => f⟩
    ·rcases d with d | d
     ·rw [hp] at d; cases d
     ·exact d
    ·rcases e with e | ⟨⟨e, e2⟩, e3⟩
     ·exact .inl e
     ·exact .inr ⟨e, by omega, by omega⟩
   ·rintro ⟨a, b, d, e, _, f⟩
    refine ⟨⟨⟨⟨a, by omega⟩, ?_⟩, ?_⟩, f h4⟩
    ·cases hp : m.pau
     ·exact .inl rfl
     ·exact .inr (d hp)
    ·rcases e with e | ⟨e, e2, e3⟩
     ·exact .inl e
     ·exact .inr ⟨⟨e, by omega⟩, by omega⟩
 unfold xBs
 by_cases h0 : m.st = 0
 ·rw [if_pos h0]
  simp [h0]
 ·rw [if_neg h0]
  by_cases h1 : m.st = 1
  ·rw [if_pos h1, Bool.and_eq_true, hrun, decide_eq_true_eq]
   simp [h1]
  ·rw [if_neg h1]
   by_cases h2 : m.st = 2
   ·rw [if_pos h2, Bool.and_eq_true, Bool.and_eq_true, hrun, decide_eq_true_eq, beq_iff_eq]
    simp [h2]
   ·rw [if_neg h2]
    by_cases h3 : m.st = 3 ∨ m.st = 4 ∨ m.st = 5
    ·rw [if_pos h3]
     simp only [Bool.and_eq_true, decide_eq_true_eq, beq_iff_eq, Bool.not_eq_true']
     constructor
     ·rintro ⟨⟨⟨⟨⟨a, b⟩, d⟩, e⟩, f⟩, g⟩
      exact .inr (.inr ⟨h3, a, b, d, e, f, g⟩)
     ·rintro (⟨h, _⟩ | ⟨⟨h, _⟩ | ⟨h, _⟩, _⟩ | ⟨_, a, b, d, e, f, g⟩)
      ·exact absurd h h0
      ·exact absurd h h1
      ·exact absurd h h2
      ·exact ⟨⟨⟨⟨⟨a, b⟩, d⟩, e⟩, f⟩, g⟩
    ·rw [if_neg h3]
     simp [h0, h1, h2]
     intro h
     exact absurd h (by simpa using h3)
theorem live_ok {c : Con} {k : Cla} {hol : List Int} (hv : KV c k) (hw : k.waived = false) (hl : hol.length = c.hold.length) (hr : ∀ x ∈ hol, 0 ≤ x ∧ x < c.par) : xBs c k (live k hol) = true := by
 rw [xA8]
 refine .inr (.inl ⟨.inl ⟨rfl, Int.le_refl _⟩, hw, hv.a1, (fun h => by cases h), .inl rfl, fun h4 => by simp [live, h4], fun h4 => ?_⟩)
 have h := hv.r h4
 have e : (live k hol).brr = xCa hol k.role := by simp [live, h4]
 rw [e]
 unfold xCa
 rw [List.getD_eq_getElem?_getD, qzJ (by omega)]
 exact hr _ (List.getElem_mem _)
theorem tick1_ok {c : Con} {k : Cla} {m : Mk} {free : Bool} (hv : KV c k) (hp : 1 ≤ c.par) (h : xBs c k m = true) : xBs c k (xBd free k m) = true := by
 unfold xBd
 split
 ·exact h
 next h1 =>
 have hrn : m.runs = true := by
  cases hr : m.runs with
  | true => rfl
  | false => exact absurd (.inl hr) h1
 have hpn : m.pau = false := by
  cases hr : m.pau with
  | false => rfl
  | true => exact absurd (.inr (.inl hr)) h1
 have hn := hv.n1
 have hg0 := hv.g0
 rw [xA8] at h ⊢
 simp only [Mk.runs, Bool.or_eq_true, beq_iff_eq] at hrn
 rcases h with ⟨h0, _⟩ | ⟨ha, hw, hl, hpp, hg, hb, hb2⟩ | ⟨h0, _⟩
 ·omega
 ·have hbr : -1 ≤ m.brr ∧ m.brr < c.par := by
   by_cases h4 : k.kind = 4
   ·have := hb h4; omega
   ·have := hb2 h4; omega
  have hgt : 0 ≤ m.got ∧ m.got ≤ 9 := by omega
  split
  ·next hne =>
   refine .inr (.inl ⟨?_, hw, ?_, hpp, hg, hb, hb2⟩)
   ·rcases ha with ⟨a, b⟩ | ⟨a, b, d⟩
    ·exact .inl ⟨a, by show m.left - 1 ≤ _; omega⟩
    ·exact .inr ⟨a, b, by show m.left - 1 ≤ _; omega⟩
   ·show 1 ≤ m.left - 1; omega
  ·split
   ·next hk1 =>
    split
    ·next hs =>
     exact .inr (.inl ⟨.inr ⟨rfl, hk1, Int.le_refl _⟩, hw, by show 1 ≤ k.grace; omega, hpp, hg, hb, hb2⟩)
    ·exact .inr (.inr ⟨.inr (.inl rfl), rfl, hgt.1, hgt.2, hbr.1, hbr.2, rfl⟩)
   ·split
    ·exact .inr (.inr ⟨.inl rfl, rfl, hgt.1, hgt.2, hbr.1, hbr.2, rfl⟩)
    ·exact .inr (.inr ⟨.inr (.inr rfl), rfl, hgt.1, hgt.2, hbr.1, hbr.2, rfl⟩)
 ·omega
theorem pause1_ok {c : Con} {k : Cla} {m : Mk} {n : Nat} (h : xBs c k m = true) : xBs c k (xA1 (n : Int) k m) = true := by
 unfold xA1
 split
 ·exact h
 next hr =>
 have hrn : m.runs = true := by cases hb : m.runs <;> simp_all
 simp only [Mk.runs, Bool.or_eq_true, beq_iff_eq] at hrn
 rw [xA8] at h
 rcases h with ⟨h0, _⟩ | ⟨ha, hw, hl, hpp, hg, hb, hb2⟩ | ⟨h0, _⟩
 ·omega
 ·split
  ·next hp => rw [xA8]; exact .inr (.inl ⟨ha, hw, hl, fun _ => by omega, hg, hb, hb2⟩)
  ·split
   ·rw [xA8]; exact .inr (.inl ⟨ha, hw, hl, (fun h => by cases h), hg, hb, hb2⟩)
   ·rw [xA8]; exact .inr (.inl ⟨ha, hw, hl, hpp, hg, hb, hb2⟩)
 ·omega
theorem count1_ok {c : Con} {k : Cla} {m : Mk} {n doer : Int} (hv : KV c k) (hp : 1 ≤ c.par) (h : xBs c k m = true) : xBs c k (xAy n doer k m) = true := by
 unfold xAy
 split
 ·exact h
 next hr =>
 have hrn : m.runs = true := by
  cases hb : m.runs with
  | true => rfl
  | false => exact absurd (.inl hb) hr
 simp only [Mk.runs, Bool.or_eq_true, beq_iff_eq] at hrn
 have hn := hv.n1
 rw [xA8] at h
 rcases h with ⟨h0, _⟩ | ⟨ha, hw, hl, hpp, hg, hb, hb2⟩ | ⟨h0, _⟩
 ·omega
 ·have hbr : -1 ≤ m.brr ∧ m.brr < c.par := by
   by_cases h4 : k.kind = 4
   ·have := hb h4; omega
   ·have := hb2 h4; omega
  have hgt : 0 ≤ m.got ∧ m.got ≤ 9 := by omega
  split
  ·next h1 =>
   have hgn : 0 ≤ m.got ∧ m.got < k.need := by omega
   split
   ·next he => rw [xA8]; exact .inr (.inr ⟨.inl rfl, rfl, by show 0 ≤ m.got + 1; omega, by show m.got + 1 ≤ 9; omega, hbr.1, hbr.2, rfl⟩)
   ·next he => rw [xA8]; exact .inr (.inl ⟨ha, hw, hl, hpp, .inr ⟨h1, by show 0 ≤ m.got + 1; omega, by show m.got + 1 < k.need; omega⟩, hb, hb2⟩)
  ·split
   ·split
    ·rw [xA8]; exact .inr (.inl ⟨ha, hw, hl, hpp, hg, hb, hb2⟩)
    ·rw [xA8]; exact .inr (.inr ⟨.inr (.inl rfl), rfl, hgt.1, hgt.2, hbr.1, hbr.2, rfl⟩)
   ·rw [xA8]; exact .inr (.inr ⟨.inl rfl, rfl, hgt.1, hgt.2, hbr.1, hbr.2, rfl⟩)
 ·omega
theorem novate1_ok {c : Con} {k : Cla} {m : Mk} {a : Atc} (ha : 0 ≤ a.to_ ∧ a.to_ < c.par) (h : xBs c k m = true) : xBs c k (xBb a k m) = true := by
 unfold xBb
 split
 ·next hr =>
  obtain ⟨hr, h4, _⟩ := hr
  simp only [Mk.runs, Bool.or_eq_true, beq_iff_eq] at hr
  rw [xA8] at h
  rcases h with ⟨h0, _⟩ | ⟨hx, hw, hl, hpp, hg, hb, hb2⟩ | ⟨h0, _⟩
  ·omega
  ·rw [xA8]
   exact .inr (.inl ⟨hx, hw, hl, hpp, hg, fun h => absurd h h4, fun _ => ha⟩)
  ·omega
 ·exact h
def MAll (c : Con) (ms : List Mk) : Prop := ms.length = c.cl.length ∧ ∀ (i : Nat) k x, c.cl[i]? = some k → ms[i]? = some x → xBs c k x = true
theorem xE2 {c : Con} {ms : List Mk} {f : Cla → Mk → Mk} (h : MAll c ms) (hf : ∀ k m, k ∈ c.cl → xBs c k m = true → xBs c k (f k m) = true) : MAll c (List.zipWith f c.cl ms) := by
 refine ⟨by rw [List.length_zipWith, h.1, Nat.min_self], fun i k x hk hx => ?_⟩
 rw [List.getElem?_zipWith, hk] at hx
 cases hm : ms[i]? with
 | none => rw [hm] at hx; simp at hx
 | some m =>
  rw [hm] at hx
  simp only [Option.some.injEq] at hx
  rw [← hx]
  exact hf k m (qzK hk) (h.2 i k m hk hm)
theorem xDp {c : Con} {hol : List Int} {ms : List Mk} (hc : c.ok = true) (hl : hol.length = c.hold.length) (hr : ∀ x ∈ hol, 0 ≤ x ∧ x < c.par) (h : MAll c ms) : MAll c (xAs c hol ms) ∧ Shut c (xAs c hol ms) := by
 obtain ⟨hS, hE⟩ := xC8 (hol := hol) (ms := ms) h.1
 refine ⟨⟨hE.1.trans h.1, fun i k x hk hx => ?_⟩, hS⟩
 rcases hE.2 i with e | ⟨k', m', g1, g2, g3, g4⟩
 ·exact h.2 i k x hk (e ▸ hx)
 ·rw [hk] at g1
  cases g1
  rw [hx] at g4
  cases g4
  have hmo := h.2 i k m' hk g2
  rw [xA8] at hmo
  refine live_ok (xDa hc (qzK hk)) ?_ hl hr
  rcases hmo with ⟨_, hw, _⟩ | ⟨_, hw, _⟩ | ⟨h0, _⟩
  ·exact hw
  ·exact hw
  ·omega
theorem xGj {c : Con} (hc : c.ok = true) : 1 ≤ c.par ∧ 1 ≤ c.days ∧ 0 < c.hold.length ∧ (∀ x ∈ c.hold, 0 ≤ x ∧ x < c.par) := by
 unfold Con.ok Con.framed at hc
 simp only [Bool.and_eq_true, List.all_eq_true, decide_eq_true_eq] at hc
 exact ⟨hc.1.2.1.1.1.1.1.1, hc.1.2.1.1.1.1.1.2, hc.1.2.1.1.1.1.2, hc.1.2.1.1.1.2⟩
theorem xDe {c : Con} (hc : c.ok = true) : SOk c c.first := by
 obtain ⟨hp, hd, _, hr⟩ := xGj hc
 have hM : MAll c (c.cl.map fun k => if k.waived then { Mk.idle with st := 5 } else Mk.idle) := by
  refine ⟨by simp, fun i k x hk hx => ?_⟩
  rw [List.getElem?_map, hk] at hx
  simp only [Option.map_some, Option.some.injEq] at hx
  rw [← hx, xA8]
  cases hw : k.waived
  ·exact .inl ⟨rfl, rfl, rfl⟩
  ·exact .inr (.inr ⟨.inr (.inr rfl), rfl, by decide, by decide, by decide, by show (-1 : Int) < c.par; omega, rfl⟩)
 obtain ⟨h1, h2⟩ := xDp hc rfl hr hM
 refine ⟨hc, Int.le_refl _, by show (0 : Int) ≤ c.days; omega, rfl, by simp [Con.first], h1.1, hr, ?_, h1.2, h2⟩
 intro i a b _ hb
 have := qzK hb
 have : b = false := (List.mem_replicate.1 this).2
 simp [this]
theorem xCo {c : Con} {s : Sta} {x : Int} (h : SOk c s) (he : s.stepE c x = 0) : SOk c (s.step c x) := by
 unfold Sta.stepE at he
 have hok : s.ok c = true := xDu.2 h
 split at he
 ·omega
 next h1 =>
 split at he
 ·omega
 next h2 =>
 have hx : -1 ≤ x ∧ x < (c.ac.length : Int) := by omega
 obtain ⟨hp, hd, _, _⟩ := xGj h.vc
 have hM : MAll c s.marks := ⟨h.m, h.mr⟩
 unfold Sta.step
 split
 ·obtain ⟨g1, g2⟩ := xDp (hol := s.hol) h.vc h.h h.hr (xE2 (f := xBd (decide (s.day ∈ c.off))) hM fun k m hk hm => tick1_ok (xDa h.vc hk) hp hm)
  have := h.d0
  have := h.d1
  exact ⟨h.vc, by show 0 ≤ s.day + 1; omega, by show s.day + 1 ≤ c.days; omega, h.h, h.u, g1.1, h.hr, h.ur, g1.2, g2⟩
 ·next hne =>
  obtain ⟨n, rfl⟩ : ∃ n : Nat, x = (n : Int) := ⟨x.toNat, by omega⟩
  obtain ⟨a, ha⟩ : ∃ a, c.ac[n]? = some a := ⟨_, qzJ (by omega)⟩
  have hao := ok_act h.vc (qzK ha)
  unfold Sta.act
  rw [Int.toNat_natCast, ha]
  simp only
  split
  ·exact h
  have hM2 : MAll c (List.zipWith (xAy (n : Int) (xA9 a s.hol)) c.cl (List.zipWith (xA1 (n : Int)) c.cl s.marks)) :=
   xE2 (xE2 hM fun k m _ hm => pause1_ok hm) fun k m hk hm => count1_ok (xDa h.vc hk) hp hm
  split
  ·obtain ⟨g1, g2⟩ := xDp (hol := s.hol) h.vc h.h h.hr hM2
   exact ⟨h.vc, h.d0, h.d1, h.h, h.u, g1.1, h.hr, h.ur, g1.2, g2⟩
  ·next hk1 =>
   obtain ⟨a1, a2, a3, a4⟩ := hao.2.2 hk1
   have hM3 : MAll c (if a.kind = 3 then List.zipWith (xBb a) c.cl (List.zipWith (xAy (n : Int) (xA9 a s.hol)) c.cl (List.zipWith (xA1 (n : Int)) c.cl s.marks)) else List.zipWith (xAy (n : Int) (xA9 a s.hol)) c.cl (List.zipWith (xA1 (n : Int)) c.cl s.marks)) := by
    split
    ·exact xE2 hM2 fun k m _ hm => novate1_ok ⟨a3, a4⟩ hm
    ·exact hM2
   have hl' : (s.hol.set a.give.toNat a.to_).length = c.hold.length := by rw [List.length_set]; exact h.h
   have hr' : ∀ y ∈ s.hol.set a.give.toNat a.to_, 0 ≤ y ∧ y < c.par := fun y hy => by
    rcases List.mem_or_eq_of_mem_set hy with hy | rfl
    ·exact h.hr y hy
    ·exact ⟨a3, a4⟩
   obtain ⟨g1, g2⟩ := xDp (hol := s.hol.set a.give.toNat a.to_) h.vc hl' hr' hM3
   refine ⟨h.vc, h.d0, h.d1, hl', by show (s.used.set n true).length = _; rw [List.length_set]; exact h.u, g1.1, hr', ?_, g1.2, g2⟩
   intro i b u hb hu ⟨e1, e2⟩
   by_cases e : n = i
   ·subst e
    rw [ha] at hb
    cases hb
    exact hk1 e2
   ·exact h.ur i b u hb (by rw [← List.getElem?_set_ne e]; exact hu) ⟨e1, e2⟩
end Go.Proofs.YtffceokjeonpcaaGreatDoor
