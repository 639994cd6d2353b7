/- Contracts of functions and plain laws, joined: Fa1, Va1, Pt0, Fa3, VbA, Va2, Va3, Va4. -/
import Derived.Test.YtginnonjdbpamaaGreatDoorMc1
import Derived.Lib.AtoiAll
import Derived.Lib.AtoiAllCases
import Derived.Lib.ItoaNum
import Derived.Lib.ItoaLen
import Derived.Lib.IndexMore
/- Files of evidence as plain data: which are valid, and what filing, taking a part and opening make of one. No program in sight. -/
namespace Go.Proofs.YtginnonjdbpamaaGreatDoor
structure Fac where
 ref : Int
 act : Int
 low : Int
 high : Int
 filed : Int
 sec : Bool
 deriving DecidableEq
structure Fil where
 house : Int
 facts : List Fac
 ords : List (Int × Int)
 deriving DecidableEq
def Con.facOk (c : Con) (x : Fac) : Bool :=
 decide (1 ≤ x.ref) && decide (x.ref ≤ 1000000) && decide (0 ≤ x.act) && decide (x.act < c.ac.length) && decide (0 ≤ x.low) && decide (x.low ≤ x.high) && decide (x.high < c.days) && decide (0 ≤ x.filed) && decide (x.filed ≤ c.days)
def ltF (x y : Fac) : Bool := decide (x.ref < y.ref)
def ltO (x y : Int × Int) : Bool := decide (x.1 < y.1) || (x.1 == y.1 && decide (x.2 < y.2))
def incBy {α : Type} (lt : α → α → Bool) : List α → Bool
 | [] => true
 | [_] => true
 | x :: y :: l => lt x y && incBy lt (y :: l)
def xFq (l : List Fac) (r : Int) : Bool := l.any fun x => x.ref == r
def ordOk (l : List Fac) (b : Int × Int) : Bool := xFq l b.1 && xFq l b.2 && !(b.1 == b.2)
def Fil.ok (c : Con) (f : Fil) : Bool :=
 c.ok && decide (0 ≤ f.house) && decide (f.house < c.par) && decide (f.facts.length ≤ 4000) && decide (f.ords.length ≤ 4000) &&
  f.facts.all c.facOk && incBy ltF f.facts && f.ords.all (ordOk f.facts) && incBy ltO f.ords
def lbF (l : List Fac) (r : Int) : Nat := (l.takeWhile fun y => decide (y.ref < r)).length
def lbO (l : List (Int × Int)) (b : Int × Int) : Nat := (l.takeWhile fun y => ltO y b).length
def insA {α : Type} (l : List α) (k : Nat) (x : α) : List α := l.take k ++ [x] ++ l.drop k
def Fil.putE (c : Con) (f : Fil) (x : Fac) : Int :=
 if f.ok c && c.facOk x then (if xFq f.facts x.ref then 9 else if 4000 ≤ f.facts.length then 3 else 0) else 1
def Fil.put (f : Fil) (x : Fac) : Fil := { f with facts := insA f.facts (lbF f.facts x.ref) x }
def hasOrd (l : List (Int × Int)) (b : Int × Int) : Bool := l.any fun y => y == b
def Fil.ordE (c : Con) (f : Fil) (b : Int × Int) : Int :=
 if f.ok c && !(b.1 == b.2) then (if xFq f.facts b.1 && xFq f.facts b.2 then (if hasOrd f.ords b then 9 else if 4000 ≤ f.ords.length then 3 else 0) else 14) else 1
def Fil.ord (f : Fil) (b : Int × Int) : Fil := { f with ords := insA f.ords (lbO f.ords b) b }
def Fil.part (f : Fil) (p : Fac → Bool) : Fil :=
 { f with facts := f.facts.filter p, ords := f.ords.filter fun b => xFq (f.facts.filter p) b.1 && xFq (f.facts.filter p) b.2 }
def Fil.asOf (f : Fil) (day : Int) : Fil := f.part fun x => decide (x.filed ≤ day)
def Fil.open_ (f : Fil) : Fil := f.part fun x => !x.sec
def Fil.has (f g : Fil) : Bool := g.facts.all (fun x => decide (x ∈ f.facts)) && g.ords.all (fun b => decide (b ∈ f.ords)) && f.house == g.house
end Go.Proofs.YtginnonjdbpamaaGreatDoor
/- States of contracts: what system.Start, Step, Valid and Breach compute. No program in sight. -/
namespace Go.Proofs.YtginnonjdbpamaaGreatDoor
structure Mk where
 st : Int
 left : Int
 got : Int
 brr : Int
 pau : Bool
deriving DecidableEq
structure Sta where
 day : Int
 hol : List Int
 used : List Bool
 marks : List Mk
deriving DecidableEq
def Mk.idle : Mk := ⟨0, 0, 0, -1, false⟩
def xA1 (is st : Int) : Bool :=
 if is = 1 then st != 0 else if is = 2 then st == 3 else if is = 3 then st == 4 else if is = 4 then st == 5 else false
def stOf (ms : List Mk) (i : Int) : Int := (ms.getD i.toNat Mk.idle).st
def rdy (c : Con) (ms : List Mk) (i : Nat) : Bool :=
 match c.cl[i]?, ms[i]? with
 | some k, some m => m.st == 0 && !k.waived && k.start.all fun s => xA1 s.2 (stOf ms s.1)
 | _, _ => false
def xD2 (hol : List Int) (r : Int) : Int := hol.getD r.toNat (-1)
def live (k : Cla) (hol : List Int) : Mk := ⟨1, k.aft, 0, if k.kind = 4 then -1 else xD2 hol k.role, false⟩
def xB6 (c : Con) (hol : List Int) (x : List Mk × Bool) (i : Nat) : List Mk × Bool :=
 if rdy c x.1 i then match c.cl[i]? with
  | some k => (x.1.set i (live k hol), true)
  | none => x
 else x
def pass (c : Con) (hol : List Int) (ms : List Mk) : List Mk × Bool := (List.range c.cl.length).foldl (xB6 c hol) (ms, false)
def xC9 (c : Con) (hol : List Int) : Nat → List Mk → List Mk
 | 0, ms => ms
 | n + 1, ms => if (pass c hol ms).2 then xC9 c hol n (pass c hol ms).1 else (pass c hol ms).1
def xAs (c : Con) (hol : List Int) (ms : List Mk) : List Mk := xC9 c hol (c.cl.length + 1) ms
def Con.first (c : Con) : Sta :=
 ⟨0, c.hold, List.replicate c.ac.length false, xAs c c.hold (c.cl.map fun k => if k.waived then { Mk.idle with st := 5 } else Mk.idle)⟩
def Mk.runs (m : Mk) : Bool := m.st == 1 || m.st == 2
def Mk.endS (m : Mk) (st : Int) : Mk := { m with st := st, left := 0, pau := false }
def xBh (free : Bool) (k : Cla) (m : Mk) : Mk :=
 if m.runs = false ∨ m.pau = true ∨ (k.bus = true ∧ free = true) then m
 else if m.left - 1 ≠ 0 then { m with left := m.left - 1 }
 else if k.kind = 1 then (if m.st = 1 ∧ 0 < k.grace then { m with st := 2, left := k.grace } else m.endS 4)
 else if k.kind = 2 then m.endS 3
 else m.endS 5
def Sta.tick (c : Con) (s : Sta) : Sta :=
 { s with day := s.day + 1, marks := xAs c s.hol (List.zipWith (xBh (decide (s.day ∈ c.off))) c.cl s.marks) }
def xA4 (act : Int) (k : Cla) (m : Mk) : Mk :=
 if m.runs = false then m else if k.pause = act then { m with pau := true } else if k.resume = act then { m with pau := false } else m
def xA0 (act doer : Int) (k : Cla) (m : Mk) : Mk :=
 if m.runs = false ∨ k.act ≠ act ∨ ¬ (k.kind = 4 ∨ m.brr = doer) then m
 else if k.kind = 1 then (if m.got + 1 = k.need then { m with got := m.got + 1 }.endS 3 else { m with got := m.got + 1 })
 else if k.kind = 2 then (if m.pau then m else m.endS 4)
 else m.endS 3
def xA7 (a : Atc) (hol : List Int) : Int := if a.role = -1 then -1 else xD2 hol a.role
def xBc (a : Atc) (k : Cla) (m : Mk) : Mk := if m.runs = true ∧ k.kind ≠ 4 ∧ k.role = a.give then { m with brr := a.to_ } else m
def Sta.act (c : Con) (s : Sta) (n : Nat) : Sta :=
 match c.ac[n]? with
 | none => s
 | some a =>
  if a.kind ≠ 1 ∧ s.used.getD n false = true then s
  else
   let m1 := List.zipWith (xA4 n) c.cl s.marks
   let m2 := List.zipWith (xA0 n (xA7 a s.hol)) c.cl m1
   if a.kind = 1 then { s with marks := xAs c s.hol m2 }
   else
    let h := s.hol.set a.give.toNat a.to_
    let m3 := if a.kind = 3 then List.zipWith (xBc a) c.cl m2 else m2
    { s with hol := h, used := s.used.set n true, marks := xAs c h m3 }
def Sta.step (c : Con) (s : Sta) (x : Int) : Sta := if x = -1 then s.tick c else s.act c x.toNat
def xDt (c : Con) (k : Cla) (m : Mk) : Bool :=
 !(k.waived || decide (m.left < 1) || (m.pau && k.pause == -1)) && !(m.got != 0 && (k.kind != 1 || decide (m.got < 0) || decide (k.need ≤ m.got)))
 && (if k.kind = 4 then m.brr == -1 else decide (0 ≤ m.brr) && decide (m.brr < c.par))
def xBr (c : Con) (k : Cla) (m : Mk) : Bool :=
 if m.st = 0 then !k.waived && decide (m = Mk.idle)
 else if m.st = 1 then decide (m.left ≤ k.aft) && xDt c k m
 else if m.st = 2 then k.kind == 1 && decide (m.left ≤ k.grace) && xDt c k m
 else if m.st = 3 ∨ m.st = 4 ∨ m.st = 5 then m.left == 0 && decide (0 ≤ m.got) && decide (m.got ≤ 9) && decide (-1 ≤ m.brr) && decide (m.brr < c.par) && !m.pau
 else false
def Sta.ok (c : Con) (s : Sta) : Bool :=
 c.ok && decide (0 ≤ s.day) && decide (s.day ≤ c.days) && s.hol.length == c.hold.length && s.used.length == c.ac.length && s.marks.length == c.cl.length
 && s.hol.all (fun h => decide (0 ≤ h) && decide (h < c.par)) && (List.zipWith (fun (a : Atc) u => !(u && a.kind == 1)) c.ac s.used).all id
 && (List.range s.marks.length).all fun i => match c.cl[i]?, s.marks[i]? with | some k, some m => xBr c k m && !rdy c s.marks i | _, _ => false
def Sta.stepE (c : Con) (s : Sta) (x : Int) : Int := if s.ok c = false ∨ x < -1 ∨ (c.ac.length : Int) ≤ x then 1 else if s.day = c.days then 13 else 0
def runS (c : Con) : Sta → List Int → Option (List Sta)
 | s, [] => some [s]
 | s, x :: l => if s.stepE c x = 0 then (runS c (s.step c x) l).map (s :: ·) else none
end Go.Proofs.YtginnonjdbpamaaGreatDoor
/- Plain: decimal texts of numbers (these theorems stood in Rt1 at ratio's seat). -/
namespace Go.Proofs.YtginnonjdbpamaaGreatDoor
theorem pu_app : ∀ (l r : List UInt8) (acc m : Nat), Lib.parseUint10 acc l = .ok m → Lib.parseUint10 acc (l ++ r) = Lib.parseUint10 m r
 | [], r, acc, m, h => by
  simp only [Lib.parseUint10] at h
  injection h with h
  subst h; rfl
 | c :: l, r, acc, m, h => by
  simp only [qzE, Lib.parseUint10] at h ⊢
  split at h
  ·rename_i h1
   rw [if_pos h1]
   split at h
   ·cases h
   ·rename_i h2
    rw [if_neg h2]
    split at h
    ·cases h
    ·rename_i h3
     rw [if_neg h3]
     exact pu_app l r _ m h
  ·cases h
theorem xE1 {k : Nat} (h : k < 10) : (UInt8.ofNat (48 + k)).toNat = 48 + k := by
 show (48 + k) % 2 ^ 8 = 48 + k
 omega
theorem pu_one (acc k : Nat) (h : k < 10) (hb : acc * 10 + k < 18446744073709551616) : Lib.parseUint10 acc [UInt8.ofNat (48 + k)] = .ok (acc * 10 + k) := by
 simp only [Lib.parseUint10, xE1 h]
 rw [if_pos (by omega), if_neg (by omega), if_neg (by omega)]
 congr 1; omega
theorem pu_dec (u : Nat) (h : u < 18446744073709551616) : Lib.parseUint10 0 (Lib.decDigits u) = .ok u := by
 induction u using Nat.strongRecOn with
 | _ u ih =>
  rw [Lib.decDigits]
  split
  ·rename_i h1
   have := pu_one 0 u h1 (by omega)
   rw [this]; congr 1; omega
  ·rename_i h1
   rw [pu_app _ _ _ _ (ih (u / 10) (by omega) (by omega)), pu_one _ _ (by omega) (by omega)]
   congr 1; omega
theorem xI8 (u : Nat) : ∀ c ∈ Lib.decDigits u, 48 ≤ c.toNat ∧ c.toNat ≤ 57 := by
 induction u using Nat.strongRecOn with
 | _ u ih =>
  intro c hc
  rw [Lib.decDigits] at hc
  split at hc
  ·rename_i h1
   rw [List.mem_singleton] at hc
   subst hc
   rw [xE1 h1]; omega
  ·rename_i h1
   rw [List.mem_append, List.mem_singleton] at hc
   rcases hc with hc | hc
   ·exact ih (u / 10) (by omega) c hc
   ·subst hc
    rw [xE1 (by omega)]; omega
theorem dec_ne (u : Nat) : Lib.decDigits u ≠ [] := by
 rw [Lib.decDigits]
 split
 ·simp
 ·simp
theorem pm_dec (u : Nat) (h : u < 18446744073709551616) : Lib.parseMag (Lib.decDigits u) = .ok u := by
 unfold Lib.parseMag
 rw [if_neg (dec_ne u), pu_dec u h]
theorem xIk (n : Int) (h0 : -9223372036854775808 ≤ n) (h1 : n ≤ 9223372036854775807) : Lib.atoiAll (Lib.itoa n) = .ok n := by
 unfold Lib.itoa
 split
 ·rename_i hn
  have hp := pm_dec n.natAbs (by omega)
  simp only [Lib.atoiAll]
  rw [if_pos (by right; rfl), hp]
  simp only
  rw [if_neg (by intro h; exact h.1 rfl), if_neg (by omega), if_pos (show UInt8.toNat 45 = 45 from rfl)]
  congr 1; omega
 ·rename_i hn
  have hp := pm_dec n.toNat (by omega)
  have hd := xI8 n.toNat
  cases hl : Lib.decDigits n.toNat with
  | nil => exact absurd hl (dec_ne _)
  | cons c r =>
   rw [hl] at hp hd
   have hc := hd c (List.mem_cons_self ..)
   simp only [Lib.atoiAll]
   rw [if_neg (by omega), hp]
   simp only
   rw [if_neg (by omega), if_neg (by omega), if_neg (by omega)]
   congr 1; omega
theorem itoa_ne (n : Int) : Lib.itoa n ≠ [] := by
 unfold Lib.itoa
 split
 ·simp
 ·exact dec_ne _
end Go.Proofs.YtginnonjdbpamaaGreatDoor
/- The text of a fact, and what a text is parsed as: its pieces between blanks, one after the other. No program in sight. -/
namespace Go.Proofs.YtginnonjdbpamaaGreatDoor
def fword : List UInt8 := [102, 97, 99, 116]
def fbit (b : Bool) : Int := if b then 1 else 0
def Fac.nums (x : Fac) : List Int := [x.ref, x.act, x.low, x.high, x.filed, fbit x.sec]
def Fac.text (x : Fac) : List UInt8 := fword ++ x.nums.flatMap fun n => 32 :: Lib.itoa n
def J64 (n : Int) : Prop := -9223372036854775808 ≤ n ∧ n ≤ 9223372036854775807
structure Fac.I64 (x : Fac) : Prop where
 a : J64 x.ref
 b : J64 x.act
 c : J64 x.low
 d : J64 x.high
 e : J64 x.filed
theorem Fac.I64.nums {x : Fac} (h : x.I64) : ∀ n ∈ x.nums, J64 n := by
 intro n hn
 unfold Fac.nums at hn
 simp only [List.mem_cons, List.not_mem_nil, or_false] at hn
 rcases hn with rfl | rfl | rfl | rfl | rfl | rfl
 ·exact h.a
 ·exact h.b
 ·exact h.c
 ·exact h.d
 ·exact h.e
 ·unfold fbit J64; split <;> omega
structure Rf where
 first : Bool
 ns : List Int
def Rf.step (s : Rf) (p : List UInt8) : Option Rf :=
 if s.first = true ∧ p = fword then some ⟨false, s.ns⟩
 else match Lib.atoiAll p with
  | .ok n => if s.first = true ∨ s.ns.length = 6 then none else some ⟨s.first, s.ns ++ [n]⟩
  | _ => none
def Rf.run : Nat → Rf → List UInt8 → Option Rf
 | 0, _, _ => none
 | k + 1, s, t =>
  match s.step (Lib.cut t [32]).1 with
  | none => none
  | some s' => if (Lib.cut t [32]).2.2 then Rf.run k s' (Lib.cut t [32]).2.1 else some s'
theorem xGc : ∀ (l : List UInt8) (b : UInt8), b ∉ l → Lib.index l [b] = -1
 | [], b, _ => by simp [Lib.index]
 | c :: l, b, h => by
  have h1 : c ≠ b := fun e => h (by simp [e])
  have h2 : b ∉ l := fun e => h (by simp [e])
  unfold Lib.index
  rw [xGc l b h2]
  have : List.isPrefixOf [b] (c :: l) = false := by simp [List.isPrefixOf, Ne.symm h1]
  rw [this]
  simp
theorem xGd : ∀ (l r : List UInt8) (b : UInt8), b ∉ l → Lib.index (l ++ b :: r) [b] = l.length
 | [], r, b, _ => by
  unfold Lib.index
  simp [List.isPrefixOf]
 | c :: l, r, b, h => by
  have h1 : c ≠ b := fun e => h (by simp [e])
  have h2 : b ∉ l := fun e => h (by simp [e])
  show Lib.index (c :: (l ++ b :: r)) [b] = _
  unfold Lib.index
  rw [xGd l r b h2]
  have : List.isPrefixOf [b] (c :: (l ++ b :: r)) = false := by simp [List.isPrefixOf, Ne.symm h1]
  rw [this]
  have e : (((l.length : Nat) : Int) == -1) = false := by rw [beq_eq_false_iff_ne]; omega
  simp [e]
def words (l : List Int) : List UInt8 := l.flatMap fun n => 32 :: Lib.itoa n
def facOf (l : List Int) : Option Fac :=
 match l with
 | [a, b, c, d, e, f] => some ⟨a, b, c, d, e, f == 1⟩
 | _ => none
def prsF (t : List UInt8) : Option Fac :=
 match Rf.run (t.length + 1) ⟨true, []⟩ t with
 | some s => match facOf s.ns with
  | some x => if x.text = t then some x else none
  | none => none
 | none => none
end Go.Proofs.YtginnonjdbpamaaGreatDoor
/- Texts of states: what validate.Encode and Decode compute. No program in sight. -/
namespace Go.Proofs.YtginnonjdbpamaaGreatDoor
def Mk.text (m : Mk) : List UInt8 :=
 Lib.itoa m.st ++ 46 :: (Lib.itoa m.left ++ 46 :: (Lib.itoa m.got ++ 46 :: (Lib.itoa m.brr ++ ((if m.pau then [112] else []) ++ [44]))))
def holT (l : List Int) : List UInt8 := l.flatMap fun h => Lib.itoa h ++ [44]
def useT (l : List Bool) : List UInt8 := l.map fun u => if u then 49 else 48
def mkT (l : List Mk) : List UInt8 := l.flatMap Mk.text
def Sta.text (s : Sta) : List UInt8 := Lib.itoa s.day ++ 59 :: (holT s.hol ++ 59 :: (useT s.used ++ 59 :: mkT s.marks))
structure Mk.I64 (m : Mk) : Prop where
 st : J64 m.st
 left : J64 m.left
 got : J64 m.got
 brr : J64 m.brr
structure Sta.I64 (s : Sta) : Prop where
 day : J64 s.day
 hol : ∀ h ∈ s.hol, J64 h
 marks : ∀ m ∈ s.marks, m.I64
theorem cut_noB (l : List UInt8) (b : UInt8) (h : b ∉ l) : Lib.cut l [b] = (l, [], false) := by
 unfold Lib.cut
 rw [xGc l b h, if_neg (by omega)]
theorem xEi (l r : List UInt8) (b : UInt8) (h : b ∉ l) : Lib.cut (l ++ b :: r) [b] = (l, r, true) := by
 unfold Lib.cut
 rw [xGd l r b h, if_pos (by omega)]
 simp
theorem xIr : ∀ {t : List UInt8} (c : UInt8), c ∈ t → ∃ a b, t = a ++ c :: b ∧ c ∉ a
 | [], _, h => by cases h
 | d :: t, c, h => by
  by_cases hc : d = c
  ·exact ⟨[], t, by rw [hc]; rfl, by simp⟩
  ·obtain ⟨a, b, e, hn⟩ := xIr (t := t) c (by
    rcases List.mem_cons.1 h with e | e
    ·exact absurd e.symm hc
    ·exact e)
   exact ⟨d :: a, b, by rw [e]; rfl, by simp [hn, Ne.symm hc]⟩
theorem xEc {t : List UInt8} {b : UInt8} (h : (Lib.cut t [b]).2.2 = true) : t = (Lib.cut t [b]).1 ++ b :: (Lib.cut t [b]).2.1 ∧ b ∉ (Lib.cut t [b]).1 := by
 by_cases hm : b ∈ t
 ·obtain ⟨x, y, rfl, hn⟩ := xIr b hm
  rw [xEi x y b hn]
  exact ⟨rfl, hn⟩
 ·rw [cut_noB t b hm] at h; cases h
theorem xG7 (t : List UInt8) (b : UInt8) (h : (Lib.cut t [b]).2.2 = true) : (Lib.cut t [b]).2.1.length < t.length := by
 have e := congrArg List.length (xEc h).1
 simp only [List.length_append, List.length_cons] at e
 omega
theorem itoa_ch {n : Int} {c : UInt8} (h : c ∈ Lib.itoa n) : c = 45 ∨ (48 ≤ c.toNat ∧ c.toNat ≤ 57) := by
 unfold Lib.itoa at h
 split at h
 ·rw [List.mem_cons] at h
  rcases h with h | h
  ·exact .inl h
  ·exact .inr (xI8 _ _ h)
 ·exact .inr (xI8 _ _ h)
theorem xEb {n : Int} {c : UInt8} (h : c ≠ 45) (h2 : ¬ (48 ≤ c.toNat ∧ c.toNat ≤ 57)) : c ∉ Lib.itoa n := fun hm => by
 rcases itoa_ch hm with e | e
 ·exact h e
 ·exact h2 e
theorem xG3 (n : Int) : (59 : UInt8) ∉ Lib.itoa n := xEb (by decide) (by decide)
theorem xI3 (n : Int) : (44 : UInt8) ∉ Lib.itoa n := xEb (by decide) (by decide)
theorem xDu (n : Int) : (46 : UInt8) ∉ Lib.itoa n := xEb (by decide) (by decide)
theorem itoa_112 (n : Int) : (112 : UInt8) ∉ Lib.itoa n := xEb (by decide) (by decide)
def numO (w : List UInt8) : Bool := match Lib.atoiAll w with | .ok n => Lib.itoa n == w | _ => false
def numD (w : List UInt8) : Int := match Lib.atoiAll w with | .ok n => n | _ => 0
theorem atoi_J64 {w : List UInt8} {n : Int} (h : Lib.atoiAll w = .ok n) : J64 n := Lib.atoiAll_bounds h
theorem xHq {n : Int} (h : J64 n) : numO (Lib.itoa n) = true := by
 unfold numO
 rw [xIk n h.1 h.2]
 simp
theorem xHs {n : Int} (h : J64 n) : numD (Lib.itoa n) = n := by
 unfold numD
 rw [xIk n h.1 h.2]
theorem xHr {w : List UInt8} (h : numO w = true) : Lib.itoa (numD w) = w ∧ J64 (numD w) := by
 unfold numO at h
 unfold numD
 cases e : Lib.atoiAll w with
 | ok n => rw [e] at h; exact ⟨eq_of_beq h, atoi_J64 e⟩
 | _ => rw [e] at h; cases h
def xC8 (t : List UInt8) (b : UInt8) : Option (Int × List UInt8) :=
 if (Lib.cut t [b]).2.2 = true ∧ numO (Lib.cut t [b]).1 = true then some (numD (Lib.cut t [b]).1, (Lib.cut t [b]).2.1) else none
theorem xC7 {n : Int} {r : List UInt8} {b : UInt8} (h : J64 n) (hb : b ∉ Lib.itoa n) : xC8 (Lib.itoa n ++ b :: r) b = some (n, r) := by
 unfold xC8
 rw [xEi _ r b hb]
 simp only [xHq h, xHs h, and_self, if_true]
theorem xCe {t r : List UInt8} {n : Int} {b : UInt8} (h : xC8 t b = some (n, r)) : t = Lib.itoa n ++ b :: r ∧ J64 n := by
 unfold xC8 at h
 split at h
 ·next h1 =>
  injection h with h
  injection h with h2 h3
  obtain ⟨e1, e2⟩ := xHr h1.2
  have e := (xEc h1.1).1
  subst h2 h3
  rw [e1]
  exact ⟨e, e2⟩
 ·cases h
theorem takeN_len {t r : List UInt8} {n : Int} {b : UInt8} (h : xC8 t b = some (n, r)) : r.length < t.length := by
 have e := congrArg List.length (xCe h).1
 simp only [List.length_append, List.length_cons] at e
 omega
def xCz (w : List UInt8) : List UInt8 × Bool := if w.getLast? = some 112 then (w.dropLast, true) else (w, false)
def takeB (t : List UInt8) : Option ((Int × Bool) × List UInt8) :=
 if (Lib.cut t [44]).2.2 = true ∧ numO (xCz (Lib.cut t [44]).1).1 = true then some ((numD (xCz (Lib.cut t [44]).1).1, (xCz (Lib.cut t [44]).1).2), (Lib.cut t [44]).2.1) else none
theorem xH2 (n : Int) (p : Bool) : xCz (Lib.itoa n ++ (if p then [112] else [])) = (Lib.itoa n, p) := by
 unfold xCz
 cases p with
 | true => simp
 | false =>
  simp only [Bool.false_eq_true, if_false, List.append_nil]
  rw [if_neg]
  intro h
  exact itoa_112 n (List.mem_of_getLast? h)
theorem lastW_back (w : List UInt8) : w = (xCz w).1 ++ (if (xCz w).2 then [112] else []) := by
 unfold xCz
 split
 ·next h =>
  obtain ⟨hne, e⟩ := List.getLast?_eq_some_iff.1 h
  simp [e]
 ·simp
theorem takeB_fwd {n : Int} {p : Bool} {r : List UInt8} (h : J64 n) : takeB (Lib.itoa n ++ ((if p then [112] else []) ++ 44 :: r)) = some ((n, p), r) := by
 unfold takeB
 have hn : (44 : UInt8) ∉ Lib.itoa n ++ (if p then [112] else []) := by
  rw [List.mem_append]
  rintro (e | e)
  ·exact xI3 n e
  ·cases p <;> simp at e
 rw [← List.append_assoc, xEi _ r 44 hn]
 simp only [xH2, xHq h, xHs h, and_self, if_true]
theorem takeB_back {t r : List UInt8} {n : Int} {p : Bool} (h : takeB t = some ((n, p), r)) : t = Lib.itoa n ++ ((if p then [112] else []) ++ 44 :: r) ∧ J64 n := by
 unfold takeB at h
 split at h
 ·next h1 =>
  injection h with h
  injection h with h2 h3
  injection h2 with h4 h5
  obtain ⟨e1, e2⟩ := xHr h1.2
  have e := (xEc h1.1).1
  subst h3 h4 h5
  rw [e1]
  refine ⟨?_, e2⟩
  rw [← List.append_assoc, ← lastW_back]
  exact e
 ·cases h
def xGp (t : List UInt8) : Option (Mk × List UInt8) :=
 (xC8 t 46).bind fun a => (xC8 a.2 46).bind fun b => (xC8 b.2 46).bind fun d => (takeB d.2).bind fun e => some (⟨a.1, b.1, d.1, e.1.1, e.1.2⟩, e.2)
theorem takeM_fwd {m : Mk} {r : List UInt8} (h : m.I64) : xGp (m.text ++ r) = some (m, r) := by
 unfold xGp Mk.text
 simp only [List.append_assoc, qzE, qzF]
 rw [xC7 h.st (xDu _)]
 simp only [Option.bind_some]
 rw [xC7 h.left (xDu _)]
 simp only [Option.bind_some]
 rw [xC7 h.got (xDu _)]
 simp only [Option.bind_some]
 rw [takeB_fwd h.brr]
 rfl
theorem xF1 {t r : List UInt8} {m : Mk} (h : xGp t = some (m, r)) : t = m.text ++ r ∧ m.I64 := by
 unfold xGp at h
 obtain ⟨⟨a, ra⟩, h1, h⟩ := Option.bind_eq_some_iff.1 h
 obtain ⟨⟨b, rb⟩, h2, h⟩ := Option.bind_eq_some_iff.1 h
 obtain ⟨⟨d, rd⟩, h3, h⟩ := Option.bind_eq_some_iff.1 h
 obtain ⟨⟨⟨e, p⟩, re⟩, h4, h⟩ := Option.bind_eq_some_iff.1 h
 injection h with h
 injection h with h5 h6
 subst h5 h6
 obtain ⟨e1, j1⟩ := xCe h1
 obtain ⟨e2, j2⟩ := xCe h2
 obtain ⟨e3, j3⟩ := xCe h3
 obtain ⟨e4, j4⟩ := takeB_back h4
 refine ⟨?_, ⟨j1, j2, j3, j4⟩⟩
 simp only at e1 e2 e3 e4
 rw [e1, e2, e3, e4]
 unfold Mk.text
 simp only [List.append_assoc, qzE, qzF]
theorem xHd {t r : List UInt8} {m : Mk} (h : xGp t = some (m, r)) : r.length < t.length := by
 have e := congrArg List.length (xF1 h).1
 have : 1 ≤ m.text.length := by unfold Mk.text; simp only [List.length_append, List.length_cons]; omega
 simp only [List.length_append] at e
 omega
def decM : Nat → List UInt8 → Option (List Mk)
 | 0, _ => none
 | n + 1, t => if t = [] then some [] else (xGp t).bind fun x => (decM n x.2).map (x.1 :: ·)
def decH : Nat → List UInt8 → Option (List Int × List UInt8)
 | 0, _ => none
 | n + 1, t => if t.head? = some 59 then some ([], t.drop 1) else (xC8 t 44).bind fun x => (decH n x.2).map fun y => (x.1 :: y.1, y.2)
def decU (w : List UInt8) : Option (List Bool) := if w.all (fun c => c == 48 || c == 49) then some (w.map (· == 49)) else none
def decV (t : List UInt8) : Option Sta :=
 (xC8 t 59).bind fun d => (decH (t.length + 1) d.2).bind fun h =>
  if (Lib.cut h.2 [59]).2.2 = true then (decU (Lib.cut h.2 [59]).1).bind fun u => (decM (t.length + 1) (Lib.cut h.2 [59]).2.1).map fun m => ⟨d.1, h.1, u, m⟩ else none
theorem text_len (m : Mk) : 1 ≤ m.text.length := by unfold Mk.text; simp only [List.length_append, List.length_cons]; omega
theorem decM_fwd : ∀ (n : Nat) {l : List Mk}, (∀ m ∈ l, m.I64) → (mkT l).length < n → decM n (mkT l) = some l
 | 0, _, _, hn => absurd hn (by omega)
 | n + 1, [], _, _ => rfl
 | n + 1, m :: l, h, hn => by
  have e : mkT (m :: l) = m.text ++ mkT l := rfl
  rw [e] at hn ⊢
  have h1 := text_len m
  rw [List.length_append] at hn
  have hne : m.text ++ mkT l ≠ [] := fun e => by
   have h2 := congrArg List.length e
   rw [List.length_append, List.length_nil] at h2
   omega
  rw [decM, if_neg hne, takeM_fwd (h m (by simp)), Option.bind_some, decM_fwd n (fun x hx => h x (List.mem_cons_of_mem _ hx)) (by omega)]
  rfl
theorem xIa : ∀ (n : Nat) {t : List UInt8} {l : List Mk}, decM n t = some l → t = mkT l ∧ ∀ m ∈ l, m.I64
 | 0, _, _, h => by cases h
 | n + 1, t, l, h => by
  rw [decM] at h
  split at h
  ·next e =>
   injection h with h
   subst h
   exact ⟨e, fun _ h => by cases h⟩
  ·obtain ⟨⟨m, r⟩, h1, h⟩ := Option.bind_eq_some_iff.1 h
   obtain ⟨l', h2, rfl⟩ := Option.map_eq_some_iff.1 h
   obtain ⟨e1, j1⟩ := xF1 h1
   obtain ⟨e2, j2⟩ := xIa n h2
   simp only at e2
   refine ⟨by rw [e1, e2]; rfl, fun x hx => ?_⟩
   rcases List.mem_cons.1 hx with rfl | hx
   ·exact j1
   ·exact j2 x hx
theorem itoa_head (n : Int) (r : List UInt8) : (Lib.itoa n ++ r).head? ≠ some 59 := by
 cases h : Lib.itoa n with
 | nil => exact absurd h (itoa_ne n)
 | cons c l =>
  simp only [qzE, List.head?_cons]
  intro e
  injection e with e
  have := xG3 n
  rw [h, e] at this
  simp at this
theorem decH_fwd : ∀ (n : Nat) {l : List Int} {r : List UInt8}, (∀ m ∈ l, J64 m) → (holT l).length < n → decH n (holT l ++ 59 :: r) = some (l, r)
 | 0, _, _, _, hn => absurd hn (by omega)
 | n + 1, [], r, _, _ => rfl
 | n + 1, m :: l, r, h, hn => by
  have e : holT (m :: l) = (Lib.itoa m ++ [44]) ++ holT l := rfl
  rw [e, List.length_append, List.length_append, List.length_singleton] at hn
  rw [e, List.append_assoc, List.append_assoc, decH, if_neg (itoa_head _ _), List.singleton_append, xC7 (h m (by simp)) (xI3 _), Option.bind_some, decH_fwd n (fun x hx => h x (List.mem_cons_of_mem _ hx)) (by omega)]
  rfl
theorem xIc : ∀ (n : Nat) {t r : List UInt8} {l : List Int}, decH n t = some (l, r) → t = holT l ++ 59 :: r ∧ ∀ m ∈ l, J64 m
 | 0, _, _, _, h => by cases h
 | n + 1, t, r, l, h => by
  rw [decH] at h
  split at h
  ·next e =>
   injection h with h
   injection h with h1 h2
   subst h1 h2
   refine ⟨?_, fun _ h => by cases h⟩
   cases t with
   | nil => cases e
   | cons c t => injection e with e; rw [e]; rfl
  ·obtain ⟨⟨m, r1⟩, h1, h⟩ := Option.bind_eq_some_iff.1 h
   obtain ⟨⟨l', r2⟩, h2, h3⟩ := Option.map_eq_some_iff.1 h
   injection h3 with h4 h5
   simp only at h4 h5
   subst h4 h5
   obtain ⟨e1, j1⟩ := xCe h1
   obtain ⟨e2, j2⟩ := xIc n h2
   simp only at e2
   refine ⟨by rw [e1, e2]; simp [holT], fun x hx => ?_⟩
   rcases List.mem_cons.1 hx with rfl | hx
   ·exact j1
   ·exact j2 x hx
theorem decU_fwd (l : List Bool) : decU (useT l) = some l := by
 unfold decU useT
 rw [if_pos]
 ·rw [List.map_map]
  refine congrArg some ?_
  conv => rhs; rw [← List.map_id l]
  refine List.map_congr_left fun b _ => ?_
  cases b <;> rfl
 ·rw [List.all_map, List.all_eq_true]
  intro b _
  cases b <;> rfl
theorem decU_back {w : List UInt8} {l : List Bool} (h : decU w = some l) : w = useT l := by
 unfold decU at h
 split at h
 ·next h1 =>
  injection h with h
  subst h
  unfold useT
  rw [List.map_map]
  conv => lhs; rw [← List.map_id w]
  refine List.map_congr_left fun b hb => ?_
  rw [List.all_eq_true] at h1
  have := h1 b hb
  rw [Bool.or_eq_true, beq_iff_eq, beq_iff_eq] at this
  rcases this with rfl | rfl <;> rfl
 ·cases h
theorem useT_59 (l : List Bool) : (59 : UInt8) ∉ useT l := by
 unfold useT
 rw [List.mem_map]
 rintro ⟨b, _, e⟩
 cases b <;> cases e
theorem decV_text {s : Sta} (h : s.I64) : decV s.text = some s := by
 unfold decV
 have hl : (mkT s.marks).length < s.text.length + 1 ∧ (holT s.hol).length < s.text.length + 1 := by
  unfold Sta.text
  simp only [List.length_append, List.length_cons]
  omega
 obtain ⟨N, hN⟩ : ∃ N, s.text.length + 1 = N := ⟨_, rfl⟩
 rw [hN] at hl ⊢
 unfold Sta.text
 rw [xC7 h.day (xG3 _), Option.bind_some, decH_fwd N h.hol hl.2, Option.bind_some, xEi _ _ 59 (useT_59 _)]
 simp only [if_true, decU_fwd, Option.bind_some]
 rw [decM_fwd N h.marks hl.1]
 rfl
theorem decV_back {t : List UInt8} {s : Sta} (h : decV t = some s) : s.text = t ∧ s.I64 := by
 unfold decV at h
 obtain ⟨⟨d, r1⟩, h1, h⟩ := Option.bind_eq_some_iff.1 h
 obtain ⟨⟨hl, r2⟩, h2, h⟩ := Option.bind_eq_some_iff.1 h
 split at h
 ·next hc =>
  obtain ⟨u, h3, h⟩ := Option.bind_eq_some_iff.1 h
  obtain ⟨m, h4, rfl⟩ := Option.map_eq_some_iff.1 h
  obtain ⟨e1, j1⟩ := xCe h1
  obtain ⟨e2, j2⟩ := xIc _ h2
  have e3 := (xEc hc).1
  have e4 := decU_back h3
  obtain ⟨e5, j5⟩ := xIa _ h4
  refine ⟨?_, ⟨j1, j2, j5⟩⟩
  unfold Sta.text
  simp only at e1 e2 e3 e4 e5 ⊢
  rw [e1, e2, ← e4, ← e5, ← e3]
 ·cases h
end Go.Proofs.YtginnonjdbpamaaGreatDoor
/- Starting clauses: whatever order they start in, what is started in the end is the same. -/
namespace Go.Proofs.YtginnonjdbpamaaGreatDoor
def Ext (c : Con) (hol : List Int) (ms ms' : List Mk) : Prop :=
 ms'.length = ms.length ∧ ∀ i : Nat, ms'[i]? = ms[i]? ∨ ∃ k m, c.cl[i]? = some k ∧ ms[i]? = some m ∧ m.st = 0 ∧ ms'[i]? = some (live k hol)
theorem Ext.refl (c : Con) (hol : List Int) (ms : List Mk) : Ext c hol ms ms := ⟨rfl, fun _ => .inl rfl⟩
theorem live_st (k : Cla) (hol : List Int) : (live k hol).st = 1 := rfl
theorem Ext.trans {c : Con} {hol : List Int} {a b d : List Mk} (h : Ext c hol a b) (g : Ext c hol b d) : Ext c hol a d := by
 refine ⟨g.1.trans h.1, fun i => ?_⟩
 rcases g.2 i with e | ⟨k, m, h1, h2, h3, h4⟩
 ·rcases h.2 i with e' | ⟨k, m, h1, h2, h3, h4⟩
  ·exact .inl (e.trans e')
  ·exact .inr ⟨k, m, h1, h2, h3, e.trans h4⟩
 ·rcases h.2 i with e' | ⟨k', m', h1', h2', h3', h4'⟩
  ·exact .inr ⟨k, m, h1, e' ▸ h2, h3, h4⟩
  ·rw [h2] at h4'
   cases h4'
   cases h3
theorem cond0 (is : Int) : xA1 is 0 = false := by
 unfold xA1
 repeat' split
 all_goals rfl
theorem stOf_at {ms : List Mk} {i : Nat} {m : Mk} (h : ms[i]? = some m) : stOf ms (i : Nat) = m.st := by
 unfold stOf
 rw [Int.toNat_natCast, List.getD_eq_getElem?_getD, h]
 rfl
theorem xEu (ms : List Mk) (j : Int) : stOf ms j = (ms[j.toNat]?.getD Mk.idle).st := by
 unfold stOf
 rw [List.getD_eq_getElem?_getD]
theorem cond_mono {c : Con} {hol : List Int} {ms ms' : List Mk} (h : Ext c hol ms ms') {is j : Int} (hc : xA1 is (stOf ms j) = true) : xA1 is (stOf ms' j) = true := by
 rw [xEu] at hc ⊢
 rcases h.2 j.toNat with e | ⟨k, m, h1, h2, h3, h4⟩
 ·rw [e]; exact hc
 ·rw [h2] at hc
  simp only [Option.getD_some] at hc
  rw [h3, cond0] at hc
  cases hc
theorem xDb {c : Con} {ms : List Mk} {i : Nat} : rdy c ms i = true ↔ ∃ k m, c.cl[i]? = some k ∧ ms[i]? = some m ∧ m.st = 0 ∧ k.waived = false ∧ ∀ s ∈ k.start, xA1 s.2 (stOf ms s.1) = true := by
 unfold rdy
 cases hk : c.cl[i]? with
 | none => simp
 | some k =>
  cases hm : ms[i]? with
  | none => simp
  | some m => simp [Bool.and_eq_true, and_assoc]
theorem rdy_mono {c : Con} {hol : List Int} {ms ms' : List Mk} (h : Ext c hol ms ms') {i : Nat} (hi : ms'[i]? = ms[i]?) (hr : rdy c ms i = true) : rdy c ms' i = true := by
 obtain ⟨k, m, h1, h2, h3, h4, h5⟩ := xDb.1 hr
 exact xDb.2 ⟨k, m, h1, hi.trans h2, h3, h4, fun s hs => cond_mono h (h5 s hs)⟩
def Shut (c : Con) (ms : List Mk) : Prop := ∀ i, rdy c ms i = false
theorem xI6 {c : Con} {hol : List Int} {ms L : List Mk} (h : Ext c hol ms L) (hL : Shut c L) {i : Nat} {k : Cla} (hk : c.cl[i]? = some k) (hr : rdy c ms i = true) : Ext c hol (ms.set i (live k hol)) L := by
 obtain ⟨k', m, h1, h2, h3, h4, h5⟩ := xDb.1 hr
 rw [hk] at h1
 cases h1
 have hi : i < ms.length := (qzM h2).1
 refine ⟨h.1.trans (by simp), fun j => ?_⟩
 by_cases hj : i = j
 ·subst hj
  rw [List.getElem?_set_self hi]
  rcases h.2 i with e | ⟨k'', m', g1, g2, g3, g4⟩
  ·exact absurd (hL i) (by rw [rdy_mono h e hr]; simp)
  ·rw [hk] at g1
   cases g1
   exact .inl g4
 ·rw [List.getElem?_set_ne hj]
  exact h.2 j
theorem xH7 {c : Con} {hol : List Int} {ms : List Mk} {i : Nat} {k : Cla} (hk : c.cl[i]? = some k) (hr : rdy c ms i = true) : Ext c hol ms (ms.set i (live k hol)) := by
 obtain ⟨k', m, h1, h2, h3, h4, h5⟩ := xDb.1 hr
 have hi : i < ms.length := (qzM h2).1
 refine ⟨by simp, fun j => ?_⟩
 by_cases hj : i = j
 ·subst hj
  exact .inr ⟨k, m, hk, h2, h3, List.getElem?_set_self hi⟩
 ·exact .inl (List.getElem?_set_ne hj)
theorem ext_anti {c : Con} {hol : List Int} {a b : List Mk} (h : Ext c hol a b) (g : Ext c hol b a) : a = b := by
 refine List.ext_getElem? fun i => ?_
 rcases h.2 i with e | ⟨k, m, h1, h2, h3, h4⟩
 ·exact e.symm
 ·rcases g.2 i with e | ⟨k', m', g1, g2, g3, g4⟩
  ·exact e
  ·rw [h4] at g2
   cases g2
   cases g3
end Go.Proofs.YtginnonjdbpamaaGreatDoor
/- The passes of the transition system end where no clause can start, and nowhere else. -/
namespace Go.Proofs.YtginnonjdbpamaaGreatDoor
def xB5 (ms : List Mk) : Nat := ms.countP fun m => m.st == 0
theorem xH4 {ms : List Mk} {i : Nat} {m m' : Mk} (h : ms[i]? = some m) (h0 : m.st = 0) (h1 : m'.st ≠ 0) : xB5 (ms.set i m') + 1 = xB5 ms := by
 unfold xB5
 obtain ⟨hi, e⟩ := qzM h
 rw [List.countP_set hi, e]
 have a : (m.st == 0) = true := by simp [h0]
 have b : (m'.st == 0) = false := by simp [h1]
 have hp : 0 < ms.countP fun m => m.st == 0 := List.countP_pos_iff.2 ⟨m, qzK h, a⟩
 simp only [a, b, if_true]
 simp
 omega
theorem xHe (c : Con) (hol : List Int) (ms : List Mk) (b : Bool) (i : Nat) :
  (xB6 c hol (ms, b) i = (ms, b) ∧ rdy c ms i = false) ∨ ∃ k, c.cl[i]? = some k ∧ rdy c ms i = true ∧ xB6 c hol (ms, b) i = (ms.set i (live k hol), true) := by
 unfold xB6
 cases hr : rdy c ms i with
 | false => exact .inl ⟨by simp, rfl⟩
 | true =>
  obtain ⟨k, m, h1, _⟩ := xDb.1 hr
  exact .inr ⟨k, h1, rfl, by simp [h1]⟩
theorem xFs (c : Con) (hol : List Int) : ∀ (l : List Nat) (ms : List Mk) (b : Bool),
  Ext c hol ms (l.foldl (xB6 c hol) (ms, b)).1 ∧ (∀ L, Ext c hol ms L → Shut c L → Ext c hol (l.foldl (xB6 c hol) (ms, b)).1 L) ∧
  (((l.foldl (xB6 c hol) (ms, b)).2 = false → b = false ∧ (l.foldl (xB6 c hol) (ms, b)).1 = ms ∧ ∀ i ∈ l, rdy c ms i = false) ∧
   ((l.foldl (xB6 c hol) (ms, b)).2 = true → b = true ∨ xB5 (l.foldl (xB6 c hol) (ms, b)).1 < xB5 ms)) ∧ xB5 (l.foldl (xB6 c hol) (ms, b)).1 ≤ xB5 ms
 | [], ms, b => ⟨Ext.refl _ _ _, fun _ h _ => h, ⟨fun h => ⟨h, rfl, by simp⟩, fun h => .inl h⟩, Nat.le_refl _⟩
 | i :: l, ms, b => by
  rw [List.foldl_cons]
  rcases xHe c hol ms b i with ⟨e, hr⟩ | ⟨k, hk, hr, e⟩
  ·rw [e]
   obtain ⟨h1, h2, ⟨h3, h4⟩, h5⟩ := xFs c hol l ms b
   refine ⟨h1, h2, ⟨fun h => ?_, h4⟩, h5⟩
   obtain ⟨a1, a2, a3⟩ := h3 h
   exact ⟨a1, a2, fun j hj => by
    rcases List.mem_cons.1 hj with rfl | hj
    ·exact hr
    ·exact a3 j hj⟩
  ·rw [e]
   obtain ⟨h1, h2, ⟨h3, h4⟩, h5⟩ := xFs c hol l (ms.set i (live k hol)) true
   obtain ⟨k', m, g1, g2, g3, _⟩ := xDb.1 hr
   have hi := xH4 (m' := live k hol) g2 g3 (by rw [live_st]; decide)
   refine ⟨(xH7 hk hr).trans h1, fun L hL hS => h2 L (xI6 hL hS hk hr) hS, ⟨fun h => ?_, fun _ => .inr ?_⟩, ?_⟩
   ·have := (h3 h).1
    cases this
   ·omega
   ·omega
theorem xIv {c : Con} {ms : List Mk} {i : Nat} (h : c.cl.length ≤ i) : rdy c ms i = false := by
 cases hr : rdy c ms i with
 | false => rfl
 | true =>
  obtain ⟨k, m, h1, _⟩ := xDb.1 hr
  have := (qzM h1).1
  omega
theorem xDx (c : Con) (hol : List Int) : ∀ (n : Nat) (ms : List Mk), xB5 ms < n →
  Ext c hol ms (xC9 c hol n ms) ∧ (∀ L, Ext c hol ms L → Shut c L → Ext c hol (xC9 c hol n ms) L) ∧ Shut c (xC9 c hol n ms)
 | 0, ms, h => absurd h (by omega)
 | n + 1, ms, h => by
  obtain ⟨h1, h2, ⟨h3, h4⟩, h5⟩ := xFs c hol (List.range c.cl.length) ms false
  unfold xC9
  cases hp : (pass c hol ms).2 with
  | true =>
   have hlt : xB5 (pass c hol ms).1 < xB5 ms := (h4 hp).resolve_left (by decide)
   obtain ⟨g1, g2, g3⟩ := xDx c hol n (pass c hol ms).1 (by omega)
   simp only [if_true]
   exact ⟨Ext.trans h1 g1, fun L hL hS => g2 L (h2 L hL hS) hS, g3⟩
  | false =>
   obtain ⟨_, e, hr⟩ := h3 hp
   have e' : (pass c hol ms).1 = ms := e
   simp only [Bool.false_eq_true, if_false]
   rw [e']
   refine ⟨Ext.refl _ _ _, fun _ h _ => h, fun i => ?_⟩
   by_cases hi : i < c.cl.length
   ·exact hr i (List.mem_range.2 hi)
   ·exact xIv (by omega)
theorem xDi (ms : List Mk) : xB5 ms ≤ ms.length := List.countP_le_length
theorem xFc {c : Con} {hol : List Int} {ms L : List Mk} (hl : ms.length = c.cl.length) (h : Ext c hol ms L) (hS : Shut c L) (hmin : ∀ L', Ext c hol ms L' → Shut c L' → Ext c hol L L') : L = xAs c hol ms := by
 obtain ⟨h1, h2, h3⟩ := xDx c hol (c.cl.length + 1) ms (by have := xDi ms; omega)
 exact ext_anti (hmin _ h1 h3) (h2 L h hS)
theorem xB2 {c : Con} {hol : List Int} {ms : List Mk} (hl : ms.length = c.cl.length) : Shut c (xAs c hol ms) ∧ Ext c hol ms (xAs c hol ms) := by
 obtain ⟨h1, h2, h3⟩ := xDx c hol (c.cl.length + 1) ms (by have := xDi ms; omega)
 exact ⟨h3, h1⟩
end Go.Proofs.YtginnonjdbpamaaGreatDoor
/- What a trace means for one clause, directly, and its mark: a day's end, an act. -/
namespace Go.Proofs.YtginnonjdbpamaaGreatDoor
structure Out where
 st : Int
 from_ : Int
 to_ : Int
 got : Int
 brr : Int
deriving DecidableEq
structure Cnt where
 days : Int
 pau : Bool
deriving DecidableEq
def Out.runs (o : Out) : Bool := decide (0 ≤ o.from_) && decide (o.to_ < 0)
def mkOf (k : Cla) (o : Out) (n : Cnt) : Mk :=
 if o.st = 1 then ⟨1, k.aft - n.days, o.got, o.brr, n.pau⟩
 else if o.st = 2 then ⟨2, k.aft + k.grace - n.days, o.got, o.brr, n.pau⟩
 else ⟨o.st, 0, o.got, o.brr, false⟩
structure InvO (k : Cla) (o : Out) (n : Cnt) : Prop where
 run : o.runs = true ↔ (o.st = 1 ∨ o.st = 2)
 l1 : o.st = 1 → 0 ≤ n.days ∧ n.days < k.aft
 l2 : o.st = 2 → k.aft ≤ n.days ∧ n.days < k.aft + k.grace ∧ k.kind = 1
 l0 : o.st = 0 → n.days = 0 ∧ n.pau = false ∧ o.got = 0 ∧ o.brr = -1
structure KGood (k : Cla) : Prop where
 kd : k.kind = 1 ∨ k.kind = 2 ∨ k.kind = 3 ∨ k.kind = 4
 g0 : 0 ≤ k.grace
 g1 : k.kind ≠ 1 → k.grace = 0
 a1 : 1 ≤ k.aft
def xB3 (free : Bool) (steps : Int) (k : Cla) (o : Out) (n : Cnt) : Out × Cnt :=
 if o.runs = false ∨ n.pau = true ∨ (k.bus = true ∧ free = true) then (o, n)
 else if n.days + 1 < k.aft then (o, ⟨n.days + 1, n.pau⟩)
 else if n.days + 1 < k.aft + k.grace then ({ o with st := 2 }, ⟨n.days + 1, n.pau⟩)
 else ({ o with st := if k.kind = 1 then 4 else if k.kind = 2 then 3 else 5, to_ := steps }, ⟨n.days + 1, n.pau⟩)
theorem xI2 {k : Cla} {o : Out} {n : Cnt} (h : InvO k o n) : (mkOf k o n).runs = o.runs := by
 unfold mkOf Mk.runs
 cases hr : o.runs with
 | true =>
  rcases h.run.1 hr with e | e <;> simp [e]
 | false =>
  have h1 : o.st ≠ 1 := fun e => by rw [h.run.2 (.inl e)] at hr; cases hr
  have h2 : o.st ≠ 2 := fun e => by rw [h.run.2 (.inr e)] at hr; cases hr
  simp [h1, h2]
theorem tick_mk {k : Cla} {o : Out} {n : Cnt} {free : Bool} {steps : Int} (hk : KGood k) (hs : 0 ≤ steps) (h : InvO k o n) :
  mkOf k (xB3 free steps k o n).1 (xB3 free steps k o n).2 = xBh free k (mkOf k o n) ∧ InvO k (xB3 free steps k o n).1 (xB3 free steps k o n).2 := by
 have hm := xI2 h
 have hp : (mkOf k o n).runs = true → (mkOf k o n).pau = n.pau := fun hr => by
  rw [hm] at hr
  unfold mkOf
  rcases h.run.1 hr with e | e <;> simp [e]
 unfold xB3 xBh
 by_cases hc : o.runs = false ∨ n.pau = true ∨ (k.bus = true ∧ free = true)
 ·rw [if_pos hc]
  refine ⟨?_, h⟩
  rw [if_pos]
  rw [hm]
  cases hr : o.runs with
  | false => exact .inl rfl
  | true =>
   rw [hp (hm.trans hr)]
   rw [hr] at hc
   rcases hc with hc | hc | hc
   ·cases hc
   ·exact .inr (.inl hc)
   ·exact .inr (.inr hc)
 ·have hr : o.runs = true := by
   cases hr : o.runs with
   | true => rfl
   | false => exact absurd (.inl hr) hc
  have hc2 : ¬ ((mkOf k o n).runs = false ∨ (mkOf k o n).pau = true ∨ (k.bus = true ∧ free = true)) := by rw [hm, hp (hm.trans hr)]; exact hc
  rw [if_neg hc, if_neg hc2]
  clear hc hc2 hm hp
  have hru := h.run
  have hg := hk.g1
  have hkd := hk.kd
  have h0 := hk.g0
  obtain ⟨s0, f0, t0, g0, b0⟩ := o
  obtain ⟨d0, p0⟩ := n
  simp only at hru
  have hrun := hru.1 hr
  have hfr : 0 ≤ f0 ∧ t0 < 0 := by simpa [Out.runs] using hr
  have l1 := h.l1
  have l2 := h.l2
  simp only at l1 l2
  rcases hrun with e | e
  ·subst e
   have h1 := l1 rfl
   by_cases ha : d0 + 1 < k.aft
   ·rw [if_pos ha]
    have hd : ¬ (k.aft - d0 - 1 = 0) := by omega
    refine ⟨?_, ⟨by simp [Out.runs, hfr], fun _ => ⟨by show 0 ≤ d0 + 1; omega, ha⟩, fun e => by simp at e, fun e => by simp at e⟩⟩
    simp [mkOf, hd]
    omega
   ·rw [if_neg ha]
    have hd : k.aft - d0 - 1 = 0 := by omega
    by_cases hb : d0 + 1 < k.aft + k.grace
    ·rw [if_pos hb]
     have hk1 : k.kind = 1 := by
      by_cases e : k.kind = 1
      ·exact e
      ·have := hg e; omega
     have hgp : 0 < k.grace := by omega
     refine ⟨?_, ⟨by simp [Out.runs, hfr], fun e => by simp at e, fun _ => ⟨by show k.aft ≤ d0 + 1; omega, hb, hk1⟩, fun e => by simp at e⟩⟩
     simp [mkOf, hd, hk1, hgp]
     omega
    ·rw [if_neg hb]
     have hgz : k.grace = 0 := by omega
     have hst : ¬ (steps < 0) := by omega
     rcases hkd with e | e | e | e <;>
      exact ⟨by simp [mkOf, hd, e, hgz, Mk.endS], ⟨by simp [Out.runs, e, hst], fun e' => by simp [e] at e', fun e' => by simp [e] at e', fun e' => by simp [e] at e'⟩⟩
  ·subst e
   have h2 := l2 rfl
   have hst : ¬ (steps < 0) := by omega
   rw [if_neg (show ¬ (d0 + 1 < k.aft) by omega)]
   by_cases hb : d0 + 1 < k.aft + k.grace
   ·rw [if_pos hb]
    have hd : ¬ (k.aft + k.grace - d0 - 1 = 0) := by omega
    refine ⟨?_, ⟨by simp [Out.runs, hfr], fun e => by simp at e, fun _ => ⟨by show k.aft ≤ d0 + 1; omega, hb, h2.2.2⟩, fun e => by simp at e⟩⟩
    simp [mkOf, hd]
    omega
   ·rw [if_neg hb]
    have hd : k.aft + k.grace - d0 - 1 = 0 := by omega
    exact ⟨by simp [mkOf, hd, h2.2.2, Mk.endS], ⟨by simp [Out.runs, h2.2.2, hst], fun e' => by simp [h2.2.2] at e', fun e' => by simp [h2.2.2] at e', fun e' => by simp [h2.2.2] at e'⟩⟩
end Go.Proofs.YtginnonjdbpamaaGreatDoor
