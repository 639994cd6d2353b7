/- Contracts of functions and plain laws, joined: Va5, Va6, Va7, Va8, Va9, VaA, VaB. -/
import Derived.Test.YtginnonjdbpamaaGreatDoorMc2
/- What a trace means for one clause, directly, and its mark: an act. -/
import Derived.Test.YtginnonjdbpamaaGreatDoorMc1
namespace Go.Proofs.YtginnonjdbpamaaGreatDoor
def xAu (doer steps : Int) (k : Cla) (o : Out) (n : Cnt) : Out :=
 if k.kind ≠ 4 ∧ o.brr ≠ doer then o
 else if k.kind = 1 then (if o.got + 1 < k.need then { o with got := o.got + 1 } else { o with got := o.got + 1, st := 3, to_ := steps })
 else if k.kind = 2 then (if n.pau = true then o else { o with st := 4, to_ := steps })
 else { o with st := 3, to_ := steps }
def actO (act doer steps : Int) (takes : Bool) (k : Cla) (o : Out) (n : Cnt) : Out × Cnt :=
 if o.runs = false then (o, n)
 else (if takes = true ∧ k.act = act then xAu doer steps k o n else o, ⟨n.days, if k.resume = act then false else if k.pause = act then true else n.pau⟩)
structure KPause (k : Cla) (act : Int) : Prop where
 own : k.kind ≠ 4 → k.act = act → k.pause ≠ act ∧ k.resume ≠ act
 two : k.pause = act → k.resume ≠ act
theorem act_mk {k : Cla} {o : Out} {n : Cnt} {act doer steps : Int} (hk : KGood k) (hp : KPause k act) (hs : 0 ≤ steps) (h : InvO k o n) (hg : o.runs = true → k.kind = 1 → o.got < k.need) :
  mkOf k (actO act doer steps true k o n).1 (actO act doer steps true k o n).2 = xA0 act doer k (xA4 act k (mkOf k o n)) ∧ InvO k (actO act doer steps true k o n).1 (actO act doer steps true k o n).2 ∧
   ((actO act doer steps true k o n).1.runs = true → k.kind = 1 → (actO act doer steps true k o n).1.got < k.need) := by
 have hm := xI2 h
 cases hr : o.runs with
 | false =>
  have e : actO act doer steps true k o n = (o, n) := by unfold actO; rw [if_pos hr]
  have e2 : xA4 act k (mkOf k o n) = mkOf k o n := by unfold xA4; rw [if_pos (hm.trans hr)]
  have e3 : xA0 act doer k (mkOf k o n) = mkOf k o n := by unfold xA0; rw [if_pos (.inl (hm.trans hr))]
  rw [e, e2, e3]
  exact ⟨rfl, h, hg⟩
 | true =>
  have eA : actO act doer steps true k o n = (if k.act = act then xAu doer steps k o n else o, ⟨n.days, if k.resume = act then false else if k.pause = act then true else n.pau⟩) := by
   unfold actO
   rw [if_neg (by rw [hr]; decide)]
   simp
  rw [eA]
  clear eA
  have hru := h.run
  have l1 := h.l1
  have l2 := h.l2
  have hgg := hg hr
  have ho := hp.own
  have ht := hp.two
  have hkd := hk.kd
  have hst : ¬ (steps < 0) := by omega
  obtain ⟨s0, f0, t0, g0, b0⟩ := o
  obtain ⟨d0, p0⟩ := n
  have hfr : 0 ≤ f0 ∧ t0 < 0 := by simpa [Out.runs] using hr
  simp only at hru l1 l2 hgg
  have hgn : k.kind = 1 → (¬ (g0 + 1 < k.need) ↔ g0 + 1 = k.need) := fun e => by have := hgg e; omega
  rcases hru.1 hr with e | e <;> subst e
  all_goals
   by_cases ha : k.act = act
   ·by_cases h4 : k.kind = 4
    ·by_cases hP : k.pause = act <;> by_cases hR : k.resume = act <;>
      refine ⟨by simp [xAu, mkOf, xA4, xA0, Mk.runs, Mk.endS, ha, h4, hP, hR], ⟨by simp [xAu, ha, h4, Out.runs, hst], by simp [xAu, ha, h4], by simp [xAu, ha, h4], by simp [xAu, ha, h4]⟩, by simp [h4]⟩
    ·obtain ⟨hP, hR⟩ := ho h4 ha
     by_cases hb : b0 = doer
     ·by_cases h1 : k.kind = 1
      ·by_cases hn : g0 + 1 < k.need
       ·have hn' : ¬ (g0 + 1 = k.need) := by omega
        refine ⟨by simp [xAu, mkOf, xA4, xA0, Mk.runs, ha, hP, hR, hb, h1, hn, hn'], ⟨by simp [xAu, ha, hb, h1, hn, Out.runs, hfr], by first | (simp [xAu, ha, hb, h1, hn]; done) | (simp at l1; done) | simpa [xAu, ha, h4, hb, h1, hn] using l1, by first | (simp [xAu, ha, hb, h1, hn]; done) | (simp at l2; done) | simpa [xAu, ha, h4, hb, h1, hn] using l2, by simp [xAu, ha, hb, h1, hn]⟩, by simp [xAu, ha, hb, h1, hn]⟩
       ·have hn' : g0 + 1 = k.need := (hgn h1).1 hn
        refine ⟨by simp [xAu, mkOf, xA4, xA0, Mk.runs, Mk.endS, ha, hP, hR, hb, h1, hn'], ⟨by simp [xAu, ha, hb, h1, hn, Out.runs, hst], by simp [xAu, ha, hb, h1, hn], by simp [xAu, ha, hb, h1, hn], by simp [xAu, ha, hb, h1, hn]⟩, by simp [xAu, ha, hb, h1, hn, Out.runs, hst]⟩
      ·by_cases h2 : k.kind = 2
       ·cases p0
        ·refine ⟨by simp [xAu, mkOf, xA4, xA0, Mk.runs, Mk.endS, ha, hP, hR, hb, h2], ⟨by simp [xAu, ha, hb, h2, Out.runs, hst], by simp [xAu, ha, hb, h2], by simp [xAu, ha, hb, h2], by simp [xAu, ha, hb, h2]⟩, fun _ e => absurd e h1⟩
        ·refine ⟨by simp [xAu, mkOf, xA4, xA0, Mk.runs, ha, hP, hR, hb, h2], ⟨by simp [xAu, ha, hb, h2, Out.runs, hfr], by first | (simp [xAu, ha, hb, h2]; done) | (simp at l1; done) | simpa [xAu, ha, h4, hb, h1, h2] using l1, by first | (simp [xAu, ha, hb, h2]; done) | (simp [h2] at l2; done) | simpa [xAu, ha, h4, hb, h1, h2] using l2, by simp [xAu, ha, hb, h2]⟩, fun _ e => absurd e h1⟩
       ·refine ⟨by simp [xAu, mkOf, xA4, xA0, Mk.runs, Mk.endS, ha, h4, hP, hR, hb, h1, h2], ⟨by simp [xAu, ha, h4, hb, h1, h2, Out.runs, hst], by simp [xAu, ha, h4, hb, h1, h2], by simp [xAu, ha, h4, hb, h1, h2], by simp [xAu, ha, h4, hb, h1, h2]⟩, fun _ e => absurd e h1⟩
     ·refine ⟨by simp [xAu, mkOf, xA4, xA0, Mk.runs, ha, h4, hP, hR, hb], ⟨by simp [xAu, ha, h4, hb, Out.runs, hfr], by first | (simp [xAu, ha, h4, hb]; done) | (simp at l1; done) | simpa [xAu, ha, h4, hb] using l1, by first | (simp [xAu, ha, h4, hb]; done) | (simp at l2; done) | simpa [xAu, ha, h4, hb] using l2, by simp [xAu, ha, h4, hb]⟩, by simpa [xAu, ha, h4, hb] using fun _ => hgg⟩
   ·by_cases hP : k.pause = act <;> by_cases hR : k.resume = act <;>
     first
     | exact absurd hR (ht hP)
     | refine ⟨by simp [mkOf, xA4, xA0, Mk.runs, ha, hP, hR], ⟨by simp [ha, Out.runs, hfr], by first | (simp [ha]; done) | (simp at l1; done) | simpa [ha] using l1, by first | (simp [ha]; done) | (simp at l2; done) | simpa [ha] using l2, by simp [ha]⟩, by simpa [ha] using fun _ => hgg⟩
end Go.Proofs.YtginnonjdbpamaaGreatDoor
/- The reading of a trace, whole, and the state that it stands for. -/
namespace Go.Proofs.YtginnonjdbpamaaGreatDoor
structure Rd where
 steps : Int
 day : Int
 hol : List Int
 hap : List Bool
 oc : List (Out × Cnt)
def mkP (k : Cla) (p : Out × Cnt) : Mk := mkOf k p.1 p.2
def Rd.marks (c : Con) (r : Rd) : List Mk := List.zipWith mkP c.cl r.oc
def xBi (steps : Int) (m : Mk) (p : Out × Cnt) : Out × Cnt := if m.st = 1 ∧ p.1.st = 0 then ({ p.1 with st := 1, from_ := steps, brr := m.brr }, p.2) else p
def Rd.startR (c : Con) (r : Rd) : Rd := { r with oc := List.zipWith (xBi r.steps) (xAs c r.hol (r.marks c)) r.oc }
def Con.read0 (c : Con) : Rd :=
 Rd.startR c ⟨0, 0, c.hold, List.replicate c.ac.length false, c.cl.map fun k => if k.waived then (⟨5, -1, 0, 0, -1⟩, ⟨0, false⟩) else (⟨0, -1, -1, 0, -1⟩, ⟨0, false⟩)⟩
def xBn (free : Bool) (steps : Int) (k : Cla) (p : Out × Cnt) : Out × Cnt := xB3 free steps k p.1 p.2
def Rd.tick (c : Con) (r : Rd) : Rd :=
 Rd.startR c { r with steps := r.steps + 1, day := r.day + 1, oc := List.zipWith (xBn (decide (r.day ∈ c.off)) (r.steps + 1)) c.cl r.oc }
def actP (act doer steps : Int) (takes : Bool) (k : Cla) (p : Out × Cnt) : Out × Cnt := actO act doer steps takes k p.1 p.2
def xBb (a : Atc) (k : Cla) (p : Out × Cnt) : Out × Cnt := if p.1.runs = true ∧ k.kind ≠ 4 ∧ k.role = a.give then ({ p.1 with brr := a.to_ }, p.2) else p
def Rd.act (c : Con) (r : Rd) (n : Nat) : Rd :=
 match c.ac[n]? with
 | none => r
 | some a =>
  let takes := a.kind == 1 || !r.hap.getD n false
  let oc1 := List.zipWith (actP n (xA7 a r.hol) (r.steps + 1) takes) c.cl r.oc
  let hap := r.hap.set n true
  if takes = false ∨ a.kind = 1 then Rd.startR c { r with steps := r.steps + 1, hap := hap, oc := oc1 }
  else Rd.startR c { r with steps := r.steps + 1, hap := hap, hol := r.hol.set a.give.toNat a.to_, oc := if a.kind = 3 then List.zipWith (xBb a) c.cl oc1 else oc1 }
def Rd.step (c : Con) (r : Rd) (x : Int) : Rd := if x = -1 then r.tick c else r.act c x.toNat
structure RInv (c : Con) (r : Rd) : Prop where
 len : r.oc.length = c.cl.length
 s0 : 0 ≤ r.steps
 inv : ∀ (i : Nat) k p, c.cl[i]? = some k → r.oc[i]? = some p → InvO k p.1 p.2 ∧ (p.1.runs = true → k.kind = 1 → p.1.got < k.need) ∧ (p.1.st = 0 → p.1.to_ < 0)
theorem xCc {c : Con} {r : Rd} {i : Nat} {k : Cla} {p : Out × Cnt} (hk : c.cl[i]? = some k) (hp : r.oc[i]? = some p) : (r.marks c)[i]? = some (mkOf k p.1 p.2) := by
 unfold Rd.marks
 rw [List.getElem?_zipWith, hk, hp]
 rfl
theorem xBw {c : Con} {r : Rd} (h : r.oc.length = c.cl.length) : (r.marks c).length = c.cl.length := by
 unfold Rd.marks
 rw [List.length_zipWith, h, Nat.min_self]
theorem xHx {k : Cla} {o : Out} {n : Cnt} : (mkOf k o n).st = o.st := by
 unfold mkOf
 split
 ·next h => exact h.symm
 ·split
  ·next h => exact h.symm
  ·rfl
theorem xBm {c : Con} {r : Rd} (h : RInv c r) (hg : ∀ k ∈ c.cl, KGood k) (hn : ∀ k ∈ c.cl, k.kind = 1 → 0 < k.need) : (r.startR c).marks c = xAs c r.hol (r.marks c) ∧ RInv c (r.startR c) := by
 have hml := xBw h.len
 obtain ⟨hS, hE⟩ := xB2 (hol := r.hol) (ms := r.marks c) hml
 have hsl : (xAs c r.hol (r.marks c)).length = c.cl.length := hE.1.trans hml
 have hlen : (r.startR c).oc.length = c.cl.length := by
  show (List.zipWith _ _ _).length = _
  rw [List.length_zipWith, hsl, h.len, Nat.min_self]
 have key : ∀ (i : Nat) k p, c.cl[i]? = some k → r.oc[i]? = some p → ∃ m, (xAs c r.hol (r.marks c))[i]? = some m ∧ (r.startR c).oc[i]? = some (xBi r.steps m p) ∧
   mkOf k (xBi r.steps m p).1 (xBi r.steps m p).2 = m ∧ InvO k (xBi r.steps m p).1 (xBi r.steps m p).2 ∧ ((xBi r.steps m p).1.runs = true → k.kind = 1 → (xBi r.steps m p).1.got < k.need) ∧ ((xBi r.steps m p).1.st = 0 → (xBi r.steps m p).1.to_ < 0) := by
  intro i k p hk hp
  obtain ⟨hI, hG, hT⟩ := h.inv i k p hk hp
  have hma := xCc hk hp
  have hi : i < (xAs c r.hol (r.marks c)).length := by rw [hsl]; exact (qzM hk).1
  obtain ⟨m, hm⟩ : ∃ m, (xAs c r.hol (r.marks c))[i]? = some m := ⟨_, qzJ hi⟩
  refine ⟨m, hm, ?_, ?_⟩
  ·show (List.zipWith (xBi r.steps) _ _)[i]? = _
   rw [List.getElem?_zipWith, hm, hp]
  ·rcases hE.2 i with e | ⟨k', m', g1, g2, g3, g4⟩
   ·rw [hm, hma] at e
    cases e
    have hno : ¬ ((mkOf k p.1 p.2).st = 1 ∧ p.1.st = 0) := by rw [xHx]; rintro ⟨a, b⟩; omega
    have e1 : xBi r.steps (mkOf k p.1 p.2) p = p := by unfold xBi; rw [if_neg hno]
    rw [e1]
    exact ⟨rfl, hI, hG, hT⟩
   ·rw [hk] at g1
    cases g1
    rw [hma] at g2
    cases g2
    rw [xHx] at g3
    rw [hm] at g4
    cases g4
    obtain ⟨l1, l2, l3, l4⟩ := hI.l0 g3
    have e1 : xBi r.steps (live k r.hol) p = ({ p.1 with st := 1, from_ := r.steps, brr := (live k r.hol).brr }, p.2) := by unfold xBi; rw [if_pos ⟨rfl, g3⟩]
    rw [e1]
    have hnr : p.1.runs = false := by
     cases hr : p.1.runs with
     | false => rfl
     | true => rcases hI.run.1 hr with e | e <;> omega
    have hgk := hg k (qzK hk)
    have ht := hT g3
    have hs0 := h.s0
    refine ⟨?_, ⟨?_, ?_, ?_, ?_⟩, ?_, ?_⟩
    ·simp [mkOf, live, l1, l2, l3]
    ·simp [Out.runs, hs0, ht]
    ·intro _
     have := hgk.a1
     show 0 ≤ p.2.days ∧ p.2.days < k.aft
     omega
    ·intro e; simp at e
    ·intro e; simp at e
    ·intro _ e
     show p.1.got < k.need
     have := hn k (qzK hk) e
     omega
    ·intro e; simp at e
 refine ⟨?_, ⟨hlen, h.s0, fun i k p hk hp => ?_⟩⟩
 ·refine List.ext_getElem? fun i => ?_
  by_cases hi : i < c.cl.length
  ·obtain ⟨k, hk⟩ : ∃ k, c.cl[i]? = some k := ⟨_, qzJ hi⟩
   obtain ⟨p, hp⟩ : ∃ p, r.oc[i]? = some p := ⟨_, qzJ (by rw [h.len]; exact hi)⟩
   obtain ⟨m, k1, k2, k3, _⟩ := key i k p hk hp
   rw [k1, xCc hk k2, k3]
  ·rw [List.getElem?_eq_none (by rw [xBw hlen]; omega), List.getElem?_eq_none (by rw [hsl]; omega)]
 ·obtain ⟨q, hq⟩ : ∃ q, r.oc[i]? = some q := ⟨_, qzJ (by rw [h.len]; exact (qzM hk).1)⟩
  obtain ⟨m, k1, k2, k3, k4⟩ := key i k q hk hq
  rw [k2] at hp
  cases hp
  exact k4
end Go.Proofs.YtginnonjdbpamaaGreatDoor
/- A step of the reading and a step of the transition system: the same marks. -/
namespace Go.Proofs.YtginnonjdbpamaaGreatDoor
structure CGood (c : Con) : Prop where
 k : ∀ k ∈ c.cl, KGood k
 n : ∀ k ∈ c.cl, k.kind = 1 → 0 < k.need
theorem xCf {c : Con} {r : Rd} {f : Cla → Out × Cnt → Out × Cnt} {g : Cla → Mk → Mk} (r' : Rd) (ho : r'.oc = List.zipWith f c.cl r.oc) (hs : 0 ≤ r'.steps) (h : RInv c r)
  (hf : ∀ k p, k ∈ c.cl → InvO k p.1 p.2 → (p.1.runs = true → k.kind = 1 → p.1.got < k.need) → (p.1.st = 0 → p.1.to_ < 0) →
   mkP k (f k p) = g k (mkP k p) ∧ InvO k (f k p).1 (f k p).2 ∧ ((f k p).1.runs = true → k.kind = 1 → (f k p).1.got < k.need) ∧ ((f k p).1.st = 0 → (f k p).1.to_ < 0)) :
  r'.marks c = List.zipWith g c.cl (r.marks c) ∧ RInv c r' := by
 have hl : r'.oc.length = c.cl.length := by rw [ho, List.length_zipWith, h.len, Nat.min_self]
 have key : ∀ (i : Nat) k, c.cl[i]? = some k → ∃ p, r.oc[i]? = some p ∧ r'.oc[i]? = some (f k p) ∧ mkP k (f k p) = g k (mkP k p) ∧ InvO k (f k p).1 (f k p).2 ∧ ((f k p).1.runs = true → k.kind = 1 → (f k p).1.got < k.need) ∧ ((f k p).1.st = 0 → (f k p).1.to_ < 0) := by
  intro i k hk
  obtain ⟨p, hp⟩ : ∃ p, r.oc[i]? = some p := ⟨_, qzJ (by rw [h.len]; exact (qzM hk).1)⟩
  obtain ⟨a, b, d⟩ := h.inv i k p hk hp
  exact ⟨p, hp, by rw [ho, List.getElem?_zipWith, hk, hp], hf k p (qzK hk) a b d⟩
 refine ⟨?_, ⟨hl, hs, fun i k p hk hp => ?_⟩⟩
 ·refine List.ext_getElem? fun i => ?_
  by_cases hi : i < c.cl.length
  ·obtain ⟨k, hk⟩ : ∃ k, c.cl[i]? = some k := ⟨_, qzJ hi⟩
   obtain ⟨p, k1, k2, k3, _⟩ := key i k hk
   rw [xCc hk k2, List.getElem?_zipWith, hk, xCc hk k1]
   exact congrArg some k3
  ·rw [List.getElem?_eq_none (by rw [xBw hl]; omega), List.getElem?_eq_none (by rw [List.length_zipWith, xBw h.len, Nat.min_self]; omega)]
 ·obtain ⟨q, k1, k2, k3, k4, k5, k6⟩ := key i k hk
  rw [k2] at hp
  cases hp
  exact ⟨k4, k5, k6⟩
theorem xHc (free : Bool) (steps : Int) (k : Cla) (o : Out) (n : Cnt) (_hk : KGood k) (_hs : 0 ≤ steps) (h : InvO k o n) (hg : o.runs = true → k.kind = 1 → o.got < k.need) (ht : o.st = 0 → o.to_ < 0) :
  ((xB3 free steps k o n).1.runs = true → k.kind = 1 → (xB3 free steps k o n).1.got < k.need) ∧ ((xB3 free steps k o n).1.st = 0 → (xB3 free steps k o n).1.to_ < 0) := by
 unfold xB3
 by_cases h1 : o.runs = false ∨ n.pau = true ∨ (k.bus = true ∧ free = true)
 ·rw [if_pos h1]
  exact ⟨hg, ht⟩
 ·rw [if_neg h1]
  have hr : o.runs = true := by
   cases hr : o.runs with
   | true => rfl
   | false => exact absurd (.inl hr) h1
  have h0 : o.st ≠ 0 := fun e => by rcases h.run.1 hr with e2 | e2 <;> omega
  split
  ·exact ⟨fun _ => hg hr, fun e => absurd e h0⟩
  ·split
   ·exact ⟨fun _ => hg hr, fun e => by simp at e⟩
   ·refine ⟨fun _ => hg hr, fun e => ?_⟩
    exfalso
    revert e
    show (if k.kind = 1 then (4 : Int) else if k.kind = 2 then 3 else 5) = 0 → False
    split
    ·simp
    ·split <;> simp
structure Rel (c : Con) (r : Rd) (s : Sta) : Prop where
 day : s.day = r.day
 hol : s.hol = r.hol
 marks : s.marks = r.marks c
 used : s.used = List.zipWith (fun (a : Atc) h => h && a.kind != 1) c.ac r.hap
 hap : r.hap.length = c.ac.length
theorem tick_rel {c : Con} {r : Rd} {s : Sta} (hc : CGood c) (h : RInv c r) (hr : Rel c r s) : Rel c (r.tick c) (s.tick c) ∧ RInv c (r.tick c) := by
 obtain ⟨h1, h2⟩ := xCf (f := xBn (decide (r.day ∈ c.off)) (r.steps + 1)) (g := xBh (decide (r.day ∈ c.off)))
  { r with steps := r.steps + 1, day := r.day + 1, oc := List.zipWith (xBn (decide (r.day ∈ c.off)) (r.steps + 1)) c.cl r.oc } rfl (by have := h.s0; show 0 ≤ r.steps + 1; omega) h
  (fun k p hk hi hg ht => by
   have hs : 0 ≤ r.steps + 1 := by have := h.s0; omega
   obtain ⟨a, b⟩ := tick_mk (free := decide (r.day ∈ c.off)) (hc.k k hk) hs hi
   obtain ⟨d, e⟩ := xHc (decide (r.day ∈ c.off)) (r.steps + 1) k p.1 p.2 (hc.k k hk) hs hi hg ht
   exact ⟨a, b, d, e⟩)
 obtain ⟨h3, h4⟩ := xBm h2 hc.k hc.n
 refine ⟨⟨?_, hr.hol, ?_, hr.used, hr.hap⟩, h4⟩
 ·show s.day + 1 = r.day + 1
  rw [hr.day]
 ·show xAs c s.hol (List.zipWith (xBh (decide (s.day ∈ c.off))) c.cl s.marks) = _
  rw [hr.day, hr.hol, hr.marks]
  refine Eq.trans ?_ h3.symm
  rw [h1]
end Go.Proofs.YtginnonjdbpamaaGreatDoor
/- An act, read and executed: the same marks, holders and used acts. -/
namespace Go.Proofs.YtginnonjdbpamaaGreatDoor
theorem shut_ext {c : Con} {hol : List Int} {ms L : List Mk} (hS : Shut c ms) (h : Ext c hol ms L) (hL : ∀ L', Ext c hol ms L' → Shut c L' → Ext c hol L L') : L = ms := ext_anti (hL ms (Ext.refl _ _ _) hS) h
theorem xEr {c : Con} {hol : List Int} {ms : List Mk} (hl : ms.length = c.cl.length) (hS : Shut c ms) : xAs c hol ms = ms := by
 obtain ⟨h1, h2, h3⟩ := xDx c hol (c.cl.length + 1) ms (by have := xDi ms; omega)
 exact shut_ext hS h1 h2
def CPause (c : Con) : Prop := ∀ (n : Nat) a, c.ac[n]? = some a → ∀ k ∈ c.cl, KPause k (n : Int) ∧ (a.kind ≠ 1 → k.pause ≠ (n : Int) ∧ k.resume ≠ (n : Int))
theorem actO_to {act doer steps : Int} {takes : Bool} {k : Cla} {o : Out} {n : Cnt} (h : InvO k o n) (ht : o.st = 0 → o.to_ < 0) : (actO act doer steps takes k o n).1.st = 0 → (actO act doer steps takes k o n).1.to_ < 0 := by
 unfold actO
 cases hr : o.runs with
 | false => rw [if_pos rfl]; exact ht
 | true =>
  have h0 : o.st ≠ 0 := fun e => by rcases h.run.1 hr with e2 | e2 <;> omega
  rw [if_neg (by decide)]
  intro e
  exfalso
  revert e
  show (if takes = true ∧ k.act = act then xAu doer steps k o n else o).st = 0 → False
  split
  ·unfold xAu
   repeat' split
   all_goals first | exact fun e => h0 e | simp
  ·exact h0
theorem zip_zip {α : Type} {f g : Cla → α → α} : ∀ (l : List Cla) (ms : List α), List.zipWith f l (List.zipWith g l ms) = List.zipWith (fun k m => f k (g k m)) l ms
 | [], ms => by simp
 | k :: l, [] => by simp
 | k :: l, m :: ms => by simp [zip_zip l ms]
theorem xIm {α β γ : Type} (f : α → β → γ) : ∀ (l : List α) (m : List β) (n : Nat) (a : α) (b : β), l[n]? = some a → List.zipWith f l (m.set n b) = (List.zipWith f l m).set n (f a b)
 | [], m, n, a, b, h => by simp at h
 | x :: l, [], n, a, b, h => by simp
 | x :: l, y :: m, 0, a, b, h => by
  simp only [qzC, Option.some.injEq] at h
  subst h
  simp
 | x :: l, y :: m, n + 1, a, b, h => by
  simp only [qzB] at h
  simp [xIm f l m n a b h]
theorem xHt {k : Cla} {p : Out × Cnt} {a : Atc} (h : InvO k p.1 p.2) (hg : p.1.runs = true → k.kind = 1 → p.1.got < k.need) (ht : p.1.st = 0 → p.1.to_ < 0) :
  mkP k (xBb a k p) = xBc a k (mkP k p) ∧ InvO k (xBb a k p).1 (xBb a k p).2 ∧ ((xBb a k p).1.runs = true → k.kind = 1 → (xBb a k p).1.got < k.need) ∧ ((xBb a k p).1.st = 0 → (xBb a k p).1.to_ < 0) := by
 have hm : (mkP k p).runs = p.1.runs := xI2 h
 unfold xBb xBc
 rw [hm]
 by_cases hc : p.1.runs = true ∧ k.kind ≠ 4 ∧ k.role = a.give
 ·rw [if_pos hc, if_pos hc]
  obtain ⟨o, n⟩ := p
  refine ⟨?_, ⟨h.run, h.l1, h.l2, fun e => ?_⟩, hg, ht⟩
  ·show mkOf k { o with brr := a.to_ } n = { mkOf k o n with brr := a.to_ }
   rcases h.run.1 hc.1 with e | e
   ·simp only at e; simp [mkOf, e]
   ·simp only at e; simp [mkOf, e]
  ·exfalso
   have e' : o.st = 0 := e
   rcases h.run.1 hc.1 with e2 | e2
   ·simp only at e2; omega
   ·simp only at e2; omega
 ·rw [if_neg hc, if_neg hc]
  exact ⟨rfl, h, hg, ht⟩
theorem used_set {c : Con} {n : Nat} {a : Atc} {hap : List Bool} (ha : c.ac[n]? = some a) : List.zipWith (fun (a : Atc) h => h && a.kind != 1) c.ac (hap.set n true) = (List.zipWith (fun (a : Atc) h => h && a.kind != 1) c.ac hap).set n (a.kind != 1) := by
 rw [xIm (fun (a : Atc) h => h && a.kind != 1) c.ac hap n a true ha]
 simp
theorem used_at {c : Con} {n : Nat} {a : Atc} {hap : List Bool} (ha : c.ac[n]? = some a) (hl : hap.length = c.ac.length) : (List.zipWith (fun (a : Atc) h => h && a.kind != 1) c.ac hap).getD n false = (hap.getD n false && a.kind != 1) := by
 have hn : n < hap.length := by rw [hl]; exact (qzM ha).1
 rw [List.getD_eq_getElem?_getD, List.getElem?_zipWith, ha, List.getD_eq_getElem?_getD, qzJ hn]
 rfl
end Go.Proofs.YtginnonjdbpamaaGreatDoor
/- A step of the reading and a step of the transition system: the same state. -/
namespace Go.Proofs.YtginnonjdbpamaaGreatDoor
theorem set_same {l : List Bool} {n : Nat} (h : l.getD n false = true) : l.set n true = l := by
 refine List.ext_getElem? fun i => ?_
 by_cases e : n = i
 ·subst e
  rw [List.getD_eq_getElem?_getD] at h
  cases hl : l[n]? with
  | none => rw [hl] at h; simp at h
  | some b =>
   rw [hl] at h
   simp only [Option.getD_some] at h
   subst h
   rw [List.getElem?_set_self (qzM hl).1]
 ·rw [List.getElem?_set_ne e]
theorem set_false {l : List Bool} {n : Nat} (h : l.getD n false = false) : l.set n false = l := by
 refine List.ext_getElem? fun i => ?_
 by_cases e : n = i
 ·subst e
  rw [List.getD_eq_getElem?_getD] at h
  cases hl : l[n]? with
  | none => rw [List.getElem?_eq_none (by simpa using hl)]
  | some b =>
   rw [hl] at h
   simp only [Option.getD_some] at h
   subst h
   rw [List.getElem?_set_self (qzM hl).1]
 ·rw [List.getElem?_set_ne e]
theorem act_rel {c : Con} {r : Rd} {s : Sta} {n : Nat} (hc : CGood c) (hp : CPause c) (h : RInv c r) (hS : Shut c (r.marks c)) (hr : Rel c r s) (hn : n < c.ac.length) : Rel c (r.act c n) (s.act c n) ∧ RInv c (r.act c n) := by
 obtain ⟨a, ha⟩ : ∃ a, c.ac[n]? = some a := ⟨_, qzJ hn⟩
 have hs1 : 0 ≤ r.steps + 1 := by have := h.s0; omega
 have hu : s.used.getD n false = (r.hap.getD n false && a.kind != 1) := by rw [hr.used]; exact used_at ha hr.hap
 unfold Rd.act Sta.act
 rw [ha]
 simp only
 by_cases ht : a.kind ≠ 1 ∧ r.hap.getD n false = true
 ·
  have htk : (a.kind == 1 || !r.hap.getD n false) = false := by rw [ht.2]; simp [ht.1]
  have hus : a.kind ≠ 1 ∧ s.used.getD n false = true := ⟨ht.1, by rw [hu, ht.2]; simp [ht.1]⟩
  rw [if_pos hus, htk, if_pos (.inl rfl)]
  have he : List.zipWith (actP (n : Int) (xA7 a r.hol) (r.steps + 1) false) c.cl r.oc = r.oc := by
   refine List.ext_getElem? fun i => ?_
   by_cases hi : i < c.cl.length
   ·obtain ⟨k, hk⟩ : ∃ k, c.cl[i]? = some k := ⟨_, qzJ hi⟩
    obtain ⟨p, hpi⟩ : ∃ p, r.oc[i]? = some p := ⟨_, qzJ (by rw [h.len]; exact hi)⟩
    rw [List.getElem?_zipWith, hk, hpi]
    obtain ⟨q1, q2⟩ := (hp n a ha k (qzK hk)).2 ht.1
    show some (actO (n : Int) (xA7 a r.hol) (r.steps + 1) false k p.1 p.2) = some p
    unfold actO
    split
    ·rfl
    ·simp
   ·rw [List.getElem?_eq_none (by rw [List.length_zipWith, h.len, Nat.min_self]; omega), List.getElem?_eq_none (by rw [h.len]; omega)]
  rw [he, set_same ht.2]
  have h2 : RInv c { r with steps := r.steps + 1, hap := r.hap, oc := r.oc } := ⟨h.len, hs1, h.inv⟩
  obtain ⟨h3, h4⟩ := xBm h2 hc.k hc.n
  refine ⟨⟨hr.day, hr.hol, ?_, hr.used, hr.hap⟩, h4⟩
  rw [h3]
  show s.marks = xAs c r.hol (r.marks c)
  rw [xEr (xBw h.len) hS]
  exact hr.marks
 ·have htk : (a.kind == 1 || !r.hap.getD n false) = true := by
   by_cases h1 : a.kind = 1
   ·simp [h1]
   ·have : r.hap.getD n false = false := by
     cases hb : r.hap.getD n false with
     | false => rfl
     | true => exact absurd ⟨h1, hb⟩ ht
    rw [this]; simp
  have hus : ¬ (a.kind ≠ 1 ∧ s.used.getD n false = true) := fun ⟨x, y⟩ => ht ⟨x, by rw [hu] at y; simp at y; exact y.1⟩
  rw [if_neg hus, htk]
  obtain ⟨z1, z2⟩ := xCf (f := actP (n : Int) (xA7 a r.hol) (r.steps + 1) true) (g := fun k m => xA0 (n : Int) (xA7 a r.hol) k (xA4 (n : Int) k m))
   { r with steps := r.steps + 1, hap := r.hap.set n true, oc := List.zipWith (actP (n : Int) (xA7 a r.hol) (r.steps + 1) true) c.cl r.oc } rfl hs1 h
   (fun k p hk hi hg ht => by
    obtain ⟨x1, x2, x3⟩ := act_mk (doer := xA7 a r.hol) (hc.k k hk) (hp n a ha k hk).1 hs1 hi hg
    exact ⟨x1, x2, x3, actO_to hi ht⟩)
  have hm2 : List.zipWith (xA0 (n : Int) (xA7 a s.hol)) c.cl (List.zipWith (xA4 (n : Int)) c.cl s.marks) = List.zipWith (fun k m => xA0 (n : Int) (xA7 a r.hol) k (xA4 (n : Int) k m)) c.cl (r.marks c) := by
   rw [zip_zip, hr.hol, hr.marks]
  by_cases h1 : a.kind = 1
  ·rw [if_pos (.inr h1), if_pos h1]
   obtain ⟨h3, h4⟩ := xBm z2 hc.k hc.n
   refine ⟨⟨hr.day, hr.hol, ?_, ?_, ?_⟩, h4⟩
   ·rw [h3, z1, hm2]
    show xAs c s.hol _ = xAs c r.hol _
    rw [hr.hol]
   ·show s.used = List.zipWith _ c.ac (r.hap.set n true)
    rw [used_set ha, ← hr.used]
    have e : (a.kind != 1) = false := by simp [h1]
    rw [e, set_false (by rw [hu, e]; simp)]
   ·show (r.hap.set n true).length = _
    rw [List.length_set]; exact hr.hap
  ·rw [if_neg (by simp [h1]), if_neg h1]
   have hus2 : (s.used.set n true) = List.zipWith (fun (a : Atc) h => h && a.kind != 1) c.ac (r.hap.set n true) := by
    rw [used_set ha, ← hr.used]
    have e : (a.kind != 1) = true := by simp [h1]
    rw [e]
   by_cases h3k : a.kind = 3
   ·obtain ⟨y1, y2⟩ := xCf (f := xBb a) (g := xBc a)
     { r with steps := r.steps + 1, hap := r.hap.set n true, hol := r.hol.set a.give.toNat a.to_, oc := List.zipWith (xBb a) c.cl (List.zipWith (actP (n : Int) (xA7 a r.hol) (r.steps + 1) true) c.cl r.oc) } rfl hs1 z2
     (fun k p hk hi hg ht => xHt hi hg ht)
    rw [if_pos h3k, if_pos h3k]
    obtain ⟨h3, h4⟩ := xBm y2 hc.k hc.n
    refine ⟨⟨hr.day, ?_, ?_, hus2, ?_⟩, h4⟩
    ·show s.hol.set _ _ = r.hol.set _ _
     rw [hr.hol]
    ·rw [h3, y1, z1, hm2]
     show xAs c (s.hol.set _ _) _ = xAs c (r.hol.set _ _) _
     rw [hr.hol]
    ·show (r.hap.set n true).length = _
     rw [List.length_set]; exact hr.hap
   ·rw [if_neg h3k, if_neg h3k]
    have z3 : RInv c { r with steps := r.steps + 1, hap := r.hap.set n true, hol := r.hol.set a.give.toNat a.to_, oc := List.zipWith (actP (n : Int) (xA7 a r.hol) (r.steps + 1) true) c.cl r.oc } := ⟨z2.len, z2.s0, z2.inv⟩
    obtain ⟨h3, h4⟩ := xBm z3 hc.k hc.n
    refine ⟨⟨hr.day, ?_, ?_, hus2, ?_⟩, h4⟩
    ·show s.hol.set _ _ = r.hol.set _ _
     rw [hr.hol]
    ·rw [h3]
     show xAs c (s.hol.set _ _) _ = xAs c (r.hol.set _ _) _
     rw [hm2, hr.hol]
     exact congrArg _ z1.symm
    ·show (r.hap.set n true).length = _
     rw [List.length_set]; exact hr.hap
end Go.Proofs.YtginnonjdbpamaaGreatDoor
/- The first state, and all of a trace: the reading and the transition system stay together. -/
namespace Go.Proofs.YtginnonjdbpamaaGreatDoor
def out0 (k : Cla) : Out × Cnt := if k.waived then (⟨5, -1, 0, 0, -1⟩, ⟨0, false⟩) else (⟨0, -1, -1, 0, -1⟩, ⟨0, false⟩)
def Con.base (c : Con) : Rd := ⟨0, 0, c.hold, List.replicate c.ac.length false, c.cl.map out0⟩
theorem read0_eq (c : Con) : c.read0 = Rd.startR c c.base := rfl
theorem xE3 {c : Con} (_hc : CGood c) : RInv c c.base := by
 refine ⟨by simp [Con.base], by simp [Con.base], fun i k p hk hp => ?_⟩
 have e : p = out0 k := by
  have : c.base.oc[i]? = (c.cl[i]?).map out0 := by simp [Con.base]
  rw [this, hk] at hp
  exact (Option.some.inj hp).symm
 subst e
 unfold out0
 split
 ·exact ⟨⟨by simp [Out.runs], by simp, by simp, by simp⟩, by simp [Out.runs], by simp⟩
 ·exact ⟨⟨by simp [Out.runs], by simp, by simp, by simp⟩, by simp [Out.runs], by simp⟩
theorem base_marks (c : Con) : c.base.marks c = c.cl.map fun k => if k.waived then { Mk.idle with st := 5 } else Mk.idle := by
 refine List.ext_getElem? fun i => ?_
 rw [List.getElem?_map]
 cases hk : c.cl[i]? with
 | none =>
  refine List.getElem?_eq_none ?_
  have := List.getElem?_eq_none_iff.1 hk
  rw [xBw (by simp [Con.base])]
  exact this
 | some k =>
  have hp : c.base.oc[i]? = some (out0 k) := by simp [Con.base, hk]
  rw [xCc hk hp]
  unfold out0
  cases hw : k.waived <;> simp [mkOf, Mk.idle, hw]
theorem first_rel {c : Con} (hc : CGood c) : Rel c c.read0 c.first ∧ RInv c c.read0 := by
 obtain ⟨h1, h2⟩ := xBm (xE3 hc) hc.k hc.n
 refine ⟨⟨rfl, rfl, ?_, ?_, ?_⟩, h2⟩
 ·rw [read0_eq, h1, base_marks]
  rfl
 ·show List.replicate c.ac.length false = List.zipWith _ c.ac (List.replicate c.ac.length false)
  refine List.ext_getElem? fun i => ?_
  by_cases hi : i < c.ac.length
  ·rw [List.getElem?_zipWith, List.getElem?_replicate, if_pos hi, qzJ hi]
   rfl
  ·rw [List.getElem?_eq_none (by simp; omega), List.getElem?_eq_none (by simp; omega)]
 ·show (List.replicate c.ac.length false).length = _
  simp
theorem xCi {c : Con} {r : Rd} (hc : CGood c) (h : RInv c r) : Shut c ((r.startR c).marks c) := by
 rw [(xBm h hc.k hc.n).1]
 exact (xB2 (xBw h.len)).1
def xCt (c : Con) : Rd → List Int → List Rd
 | r, [] => [r]
 | r, x :: l => r :: xCt c (r.step c x) l
end Go.Proofs.YtginnonjdbpamaaGreatDoor
/- States stay well-formed: the first one is, and each step keeps it. -/
namespace Go.Proofs.YtginnonjdbpamaaGreatDoor
structure SOk (c : Con) (s : Sta) : Prop where
 vc : c.ok = true
 d0 : 0 ≤ s.day
 d1 : s.day ≤ c.days
 h : s.hol.length = c.hold.length
 u : s.used.length = c.ac.length
 m : s.marks.length = c.cl.length
 hr : ∀ x ∈ s.hol, 0 ≤ x ∧ x < c.par
 ur : ∀ (i : Nat) a b, c.ac[i]? = some a → s.used[i]? = some b → ¬ (b = true ∧ a.kind = 1)
 mr : ∀ (i : Nat) k x, c.cl[i]? = some k → s.marks[i]? = some x → xBr c k x = true
 sh : Shut c s.marks
theorem xGi {α β : Type} {f : α → β → Bool} {l : List α} {m : List β} : (List.zipWith f l m).all id = true ↔ ∀ (i : Nat) a b, l[i]? = some a → m[i]? = some b → f a b = true := by
 rw [List.all_eq_true]
 constructor
 ·intro h i a b ha hb
  exact h _ (qzK (i := i) (by rw [List.getElem?_zipWith, ha, hb]))
 ·intro h x hx
  obtain ⟨i, hi⟩ := List.getElem?_of_mem hx
  rw [List.getElem?_zipWith] at hi
  cases ha : l[i]? with
  | none => rw [ha] at hi; simp at hi
  | some a =>
   cases hb : m[i]? with
   | none => rw [ha, hb] at hi; simp at hi
   | some b =>
    rw [ha, hb] at hi
    simp only [Option.some.injEq] at hi
    rw [← hi]
    exact h i a b ha hb
theorem ok_iff {c : Con} {s : Sta} : s.ok c = true ↔ SOk c s := by
 unfold Sta.ok
 simp only [Bool.and_eq_true, decide_eq_true_eq, beq_iff_eq, List.all_eq_true, List.mem_range]
 constructor
 ·rintro ⟨⟨⟨⟨⟨⟨⟨⟨h1, h2⟩, h3⟩, h4⟩, h5⟩, h6⟩, h7⟩, h8⟩, h9⟩
  refine ⟨h1, h2, h3, h4, h5, h6, h7, ?_, ?_, ?_⟩
  ·intro i a b ha hb ⟨e1, e2⟩
   have := (xGi (f := fun (a : Atc) u => !(u && a.kind == 1)).1 (by rw [List.all_eq_true]; exact h8)) i a b ha hb
   rw [e1, e2] at this
   simp at this
  ·intro i k x hk hx
   have := h9 i (qzM hx).1
   rw [hk, hx] at this
   simp only [Bool.and_eq_true] at this
   exact this.1
  ·intro i
   by_cases hi : i < s.marks.length
   ·have := h9 i hi
    obtain ⟨k, hk⟩ : ∃ k, c.cl[i]? = some k := ⟨_, qzJ (by omega)⟩
    obtain ⟨x, hx⟩ : ∃ x, s.marks[i]? = some x := ⟨_, qzJ hi⟩
    rw [hk, hx] at this
    simp only [Bool.and_eq_true] at this
    simpa using this.2
   ·exact xIv (by omega)
 ·rintro ⟨h1, h2, h3, h4, h5, h6, h7, h8, h9, h10⟩
  refine ⟨⟨⟨⟨⟨⟨⟨⟨h1, h2⟩, h3⟩, h4⟩, h5⟩, h6⟩, h7⟩, ?_⟩, ?_⟩
  ·rw [← List.all_eq_true]
   refine xGi.2 fun i a b ha hb => ?_
   have := h8 i a b ha hb
   cases b
   ·rfl
   ·simp only [true_and] at this
    simp [this]
  ·intro i hi
   obtain ⟨k, hk⟩ : ∃ k, c.cl[i]? = some k := ⟨_, qzJ (by omega)⟩
   obtain ⟨x, hx⟩ : ∃ x, s.marks[i]? = some x := ⟨_, qzJ hi⟩
   rw [hk, hx]
   simp only [Bool.and_eq_true]
   exact ⟨h9 i k x hk hx, by rw [h10 i]; rfl⟩
structure KV (c : Con) (k : Cla) : Prop where
 kd : k.kind = 1 ∨ k.kind = 2 ∨ k.kind = 3 ∨ k.kind = 4
 g0 : 0 ≤ k.grace
 g1 : k.kind ≠ 1 → k.grace = 0
 a1 : 1 ≤ k.aft
 n1 : 1 ≤ k.need ∧ k.need ≤ 9
 r : k.kind ≠ 4 → 0 ≤ k.role ∧ k.role < c.hold.length
 na : k.kind ≠ 4 → c.nat k.act = false
 p : (k.pause = -1 ∧ k.resume = -1) ∨ (k.pause ≠ k.resume ∧ c.nat k.pause = true ∧ c.nat k.resume = true)
theorem claOk_kv {c : Con} {i : Nat} {k : Cla} (h : c.claOk i k = true) : KV c k := by
 unfold Con.claOk at h
 simp only [Bool.and_eq_true, decide_eq_true_eq] at h
 obtain ⟨⟨⟨⟨⟨⟨⟨h1, h2⟩, h3⟩, h4⟩, h5⟩, h6⟩, h7⟩, h8⟩ := h
 have hp : (k.pause = -1 ∧ k.resume = -1) ∨ (k.pause ≠ k.resume ∧ c.nat k.pause = true ∧ c.nat k.resume = true) := by
  unfold Con.pauseOk at h7
  simp only [Bool.or_eq_true, Bool.and_eq_true, beq_iff_eq, bne_iff_ne] at h7
  rcases h7 with h7 | ⟨⟨a, b⟩, d⟩
  ·exact .inl h7
  ·exact .inr ⟨a, b, d⟩
 unfold Con.kindOk at h4
 by_cases k4 : k.kind = 4
 ·rw [if_pos (by simp [k4])] at h4
  simp only [Bool.and_eq_true, beq_iff_eq] at h4
  exact ⟨.inr (.inr (.inr k4)), by omega, fun _ => h4.1.2, h2, by omega, fun h => absurd k4 h, fun h => absurd k4 h, hp⟩
 ·rw [if_neg (by simp [k4])] at h4
  simp only [Bool.and_eq_true, Bool.not_eq_true'] at h4
  obtain ⟨⟨a1, a2⟩, a3⟩ := h4
  have hr : 0 ≤ k.role ∧ k.role < c.hold.length := xCb.1 a1
  by_cases k1 : k.kind = 1
  ·rw [if_pos (by simp [k1])] at a3
   simp only [Bool.and_eq_true, decide_eq_true_eq] at a3
   exact ⟨.inl k1, by omega, fun h => absurd k1 h, h2, by omega, fun _ => hr, fun _ => a2, hp⟩
  ·rw [if_neg (by simp [k1])] at a3
   by_cases k2 : k.kind = 2
   ·rw [if_pos (by simp [k2])] at a3
    simp only [Bool.and_eq_true, beq_iff_eq] at a3
    exact ⟨.inr (.inl k2), by omega, fun _ => a3.2, h2, by omega, fun _ => hr, fun _ => a2, hp⟩
   ·rw [if_neg (by simp [k2])] at a3
    simp only [Bool.and_eq_true, beq_iff_eq] at a3
    exact ⟨.inr (.inr (.inl a3.1.1.1)), by omega, fun _ => a3.1.2, h2, by omega, fun _ => hr, fun _ => a2, hp⟩
theorem xDr {c : Con} (h : c.ok = true) {k : Cla} (hk : k ∈ c.cl) : KV c k := by
 unfold Con.ok at h
 simp only [Bool.and_eq_true] at h
 obtain ⟨i, hi⟩ := List.getElem?_of_mem hk
 exact claOk_kv ((c.clsOk_iff c.cl 0).1 h.2 i k hi)
theorem xCa {c : Con} (h : c.ok = true) : CGood c :=
 ⟨fun k hk => by have := xDr h hk; exact ⟨this.kd, this.g0, this.g1, this.a1⟩, fun k hk _ => by have := (xDr h hk).n1; omega⟩
theorem nat_at {c : Con} {n : Nat} {a : Atc} (ha : c.ac[n]? = some a) : c.nat (n : Int) = (a.kind == 1 && a.role == -1) := by
 unfold Con.nat
 have : isI (n : Int) c.ac.length = true := xCb.2 ⟨by omega, by have := (qzM ha).1; omega⟩
 rw [this, Int.toNat_natCast, ha]
 rfl
theorem xD6 {c : Con} (h : c.ok = true) : CPause c := by
 intro n a ha k hk
 have hv := xDr h hk
 refine ⟨⟨fun h4 e => ?_, fun e => ?_⟩, fun h1 => ?_⟩
 ·have hn := hv.na h4
  rw [e] at hn
  rcases hv.p with ⟨p1, p2⟩ | ⟨_, p2, p3⟩
  ·omega
  ·exact ⟨(fun e2 => by rw [e2, hn] at p2; cases p2), (fun e2 => by rw [e2, hn] at p3; cases p3)⟩
 ·rcases hv.p with ⟨p1, p2⟩ | ⟨p1, _, _⟩
  ·omega
  ·rw [← e]; exact fun e2 => p1 e2.symm
 ·have hn := nat_at ha
  rw [show (a.kind == 1) = false by simp [h1], Bool.false_and] at hn
  rcases hv.p with ⟨p1, p2⟩ | ⟨_, p2, p3⟩
  ·exact ⟨by omega, by omega⟩
  ·exact ⟨(fun e2 => by rw [e2, hn] at p2; cases p2), (fun e2 => by rw [e2, hn] at p3; cases p3)⟩
theorem ok_act {c : Con} (h : c.ok = true) {a : Atc} (ha : a ∈ c.ac) : (a.kind = 1 ∨ a.kind = 2 ∨ a.kind = 3) ∧ (a.role = -1 ∨ (0 ≤ a.role ∧ a.role < c.hold.length)) ∧ (a.kind ≠ 1 → 0 ≤ a.give ∧ a.give < c.hold.length ∧ 0 ≤ a.to_ ∧ a.to_ < c.par) := by
 unfold Con.ok Con.framed at h
 simp only [Bool.and_eq_true, List.all_eq_true] at h
 have h2 := h.1.2.1.2 a ha
 unfold Con.actOk at h2
 by_cases hm : c.mov a.role = true
 ·rw [if_pos hm] at h2
  have hr := xCb.1 hm
  by_cases h1 : a.kind = 1
  ·exact ⟨.inl h1, .inr hr, fun h => absurd h1 h⟩
  ·rw [if_neg (by simp [h1])] at h2
   simp only [Bool.and_eq_true, Bool.or_eq_true, beq_iff_eq, decide_eq_true_eq] at h2
   obtain ⟨⟨⟨⟨⟨g1, g2⟩, g3⟩, g4⟩, _⟩, _⟩ := h2
   have := xCb.1 g2
   exact ⟨.inr g1, .inr hr, fun _ => ⟨this.1, this.2, g3, g4⟩⟩
 ·rw [if_neg hm] at h2
  simp only [Bool.and_eq_true, beq_iff_eq] at h2
  obtain ⟨⟨⟨⟨⟨g1, g2⟩, g3⟩, _⟩, _⟩, _⟩ := h2
  exact ⟨.inl g1, .inl g2, fun h => absurd g1 h⟩
end Go.Proofs.YtginnonjdbpamaaGreatDoor
