/- Symbols as plain data, and the faults that they have. No program in sight. -/
import Derived.Test.YtcfjehohemdanaaDoorMath
import Derived.Test.YtcfjehohemdanaaDoorDt3
namespace Go.Proofs.YtcfjehohemdanaaDoor

structure Spn where
  d : Int
  b : Bool
  nm : ByteArray
structure Cls where
  kind : Int
  role : Int
  act : Int
  need : Int
  start : List (Int × Int)
  aft : Int
  grace : Int
  bus : Bool
  fin : Bool
  pause : Int
  resume : Int
  v : Int × Int
  unit : Int
  to_ : Int
  waived : Bool
structure Cs where
  nm : ByteArray
  pos : Int
  wi : Spn
  gr : Spn
  c : Cls
structure Ac where
  kind : Int
  role : Int
  give : Int
  to_ : Int
  unit : Int
  lot : Int × Int
structure As where
  nm : ByteArray
  pos : Int
  a : Ac
structure Un where
  nm : ByteArray
  kind : Int
  base : Int
  f : Int × Int
structure Ro where
  nm : ByteArray
  party : Int
structure Sy where
  nm : ByteArray
  y : Int
  mo : Int
  dd : Int
  days : Int
  wk : Bool × Bool × Bool × Bool × Bool × Bool × Bool
  hol : List Int
  par : List ByteArray
  ro : List Ro
  un : List Un
  ac : List As
  cl : List Cs
def isIx (i : Int) (n : Nat) : Bool := decide (0 ≤ i) && decide (i < n)
def inn (n a b : Int) : Bool := decide (a ≤ n) && decide (n ≤ b)
/-- a valid ratio greater than 0 -/
def psv (r : Int × Int) : Bool := vld r.1 r.2 && decide (0 < r.1)
def zero? (r : Int × Int) : Bool := r.1 == 0 && r.2 == 1
def incr (l : List Int) (last : Int) : Bool := match l with
  | [] => true
  | d :: l => !(decide (d ≤ last) || decide (73048 < d)) && incr l d
/-- the tables' sizes -/
structure Sz where
  par : Nat
  ro : Nat
  un : Nat
  ac : Nat
  cl : Nat
def Sy.sz (s : Sy) : Sz := ⟨s.par.length, s.ro.length, s.un.length, s.ac.length, s.cl.length⟩
def smallT (s : Sy) : Bool := decide (s.par.length ≤ 12) && decide (s.ro.length ≤ 12) && decide (s.un.length ≤ 20) && decide (s.ac.length ≤ 60) && decide (s.cl.length ≤ 400) && decide (s.hol.length ≤ 400)
def fmA (z : Sz) (a : Ac) : Bool := (a.role == -1 || isIx a.role z.ro) &&
  (if a.kind == 1 then a.give == 0 && (a.to_ == -1 || isIx a.to_ z.ro) && (a.unit == -1 && zero? a.lot || isIx a.unit z.un)
   else if a.kind == 2 || a.kind == 3 then isIx a.give z.ro && isIx a.to_ z.par && (a.unit == -1 && zero? a.lot) else false)
def bnd (c : Cls) : Bool := c.kind == 1 || c.kind == 2
def fm1 (z : Sz) (c : Cls) : Bool := inn c.kind 1 4 && isIx c.act z.ac
def fm2 (z : Sz) (c : Cls) : Bool := if c.kind == 4 then c.role == -1 else isIx c.role z.ro
def fmX (z : Sz) (x : Int × Int) : Bool := isIx x.1 z.cl && inn x.2 1 4
def fm3 (z : Sz) (c : Cls) : Bool := c.start.all (fmX z)
def fm4 (z : Sz) (c : Cls) : Bool := c.pause == -1 && c.resume == -1 || isIx c.pause z.ac && isIx c.resume z.ac
def fre (c : Cls) : Bool := c.unit == -1 && zero? c.v && c.to_ == -1
def fm5 (z : Sz) (c : Cls) : Bool := fre c || bnd c && isIx c.unit z.un && isIx c.to_ z.ro
def fm6 (c : Cls) : Bool := !(c.fin && !bnd c || c.need != 1 && c.kind != 1)
def fm7 (c : Cls) : Bool := c.aft == 0 && c.grace == 0 && !c.bus && !c.waived
/-- a clause's own part is well-formed -/
def fmC (z : Sz) (c : Cls) : Bool := fm1 z c && (fm2 z c && (fm3 z c && (fm4 z c && (fm5 z c && (fm6 c && fm7 c)))))
/-- an empty text -/
def emp (s : ByteArray) : Bool := s.toList.isEmpty
def noS (s : Spn) : Bool := s.d == 0 && !s.b && emp s.nm
def fmS (c : Cs) : Bool := emp c.wi.nm && emp c.gr.nm && (c.c.kind == 1 || noS c.gr)
/-- the symbols are well-formed -/
def wfS (s : Sy) : Bool := smallT s && incr s.hol (-1) && s.ro.all (fun r => isIx r.party s.par.length) && s.un.all (fun u => isIx u.base s.un.length) && s.ac.all (fun a => fmA s.sz a.a) && s.cl.all (fun c => fmC s.sz c.c && fmS c)
def allW (s : Sy) : Bool := s.wk == (true, true, true, true, true, true, true)
def badBg (s : Sy) : Bool := !(okC s.y s.mo s.dd) || !(inn s.days 1 2000) || decide (73048 < num s.y s.mo s.dd + s.days) || allW s
def badUn (s : Sy) (i : Nat) (u : Un) : Bool := emp u.nm || (u.kind != 1 && u.kind != 2) || (s.un.take i).any (fun o => o.nm.toList == u.nm.toList) ||
  (match s.un[u.base.toNat]? with
    | some b => b.kind != u.kind || b.base != u.base || (u.base == i && u.f != (1, 1))
    | none => true)
def byN (s : Sy) (i : Int) : Bool := match s.ac[i.toNat]? with
  | some a => a.a.kind == 1 && a.a.role == -1
  | none => false
def badNu (c : Cs) : Bool := !(inn c.wi.d 1 400) || !(inn c.gr.d 0 400) || !(inn c.c.need 1 9) || (c.c.unit != -1 && !(psv c.c.v))
def badKi (s : Sy) (c : Cs) : Bool := (c.gr.d != 0 && c.gr.b != c.wi.b) || (c.c.kind != 4 && byN s c.c.act) || (c.c.pause != -1 && (!(byN s c.c.pause) || !(byN s c.c.resume) || c.c.pause == c.c.resume))
def notMo (s : Sy) (c : Cs) : Bool := c.c.unit != -1 && (match s.un[c.c.unit.toNat]? with
  | some u => u.kind != 2
  | none => true)
/-- the first check that holds -/
def fst1 : List (Int × Bool) → Int
  | [] => 0
  | (e, b) :: l => if b then e else fst1 l
def eBeg (s : Sy) : Int := fst1 [(2, badBg s), (14, s.par.isEmpty || s.ro.isEmpty)]
def eUn (s : Sy) (i : Nat) (u : Un) : Int := fst1 [(2, !(psv u.f)), (11, badUn s i u)]
def eAc (a : Ac) : Int := fst1 [(2, a.unit != -1 && !(psv a.lot)), (10, a.role == -1 && (a.kind != 1 || a.unit != -1))]
def eCl (s : Sy) (i : Nat) (c : Cs) : Int := fst1 [(2, badNu c), (3, decide (8 < c.c.start.length)), (12, c.c.start.any fun x => x.1 == i), (10, badKi s c), (11, notMo s c)]
def flt (e p : Int) : List (Int × Int) := if e = 0 then [] else [(e, p)]
def fU (s : Sy) (n : Nat) : List (Int × Int) := ((s.un.take n).zipIdx.flatMap fun x => flt (eUn s x.2 x.1) (-1))
def fA (s : Sy) (n : Nat) : List (Int × Int) := (s.ac.take n).flatMap fun a => flt (eAc a.a) a.pos
def fC (s : Sy) (n : Nat) : List (Int × Int) := (s.cl.take n).zipIdx.flatMap fun x => flt (eCl s x.2 x.1) x.1.pos
/-- the faults of symbols -/
def chk (s : Sy) : List (Int × Int) := if wfS s then flt (eBeg s) (-1) ++ fU s s.un.length ++ fA s s.ac.length ++ fC s s.cl.length else [(1, -1)]
end Go.Proofs.YtcfjehohemdanaaDoor
