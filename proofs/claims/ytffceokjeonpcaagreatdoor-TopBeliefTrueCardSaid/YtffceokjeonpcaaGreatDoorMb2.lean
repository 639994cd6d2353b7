/- Contracts of functions and plain laws, joined: VaD, Mem, R01, Kb1, Pk, Kb2, Kb3, Qt, Rz, Kb4. -/
import Derived.Test.YtffceokjeonpcaaGreatDoorMb1
import Derived.WalkKit
import Derived.Below
import Derived.Laws.OwnMore
import Derived.Deep.Draws
import Derived.Test.YtffceokjeonpcaaGreatDoorProg
import Derived.IntWalk
import Derived.BigQuiet
import Derived.Deep.QuietTactic
import Derived.Deep.RegionHeld3
import Derived.RegionTactic
import Derived.Outline
import Derived.Lib.Hide
import Derived.Deep.MidRow
import Derived.StillTail
import Derived.Lib.QuietBelow
import Derived.Deep.CutRange
set_option maxHeartbeats 6400000
set_option maxRecDepth 100000
namespace Go.Proofs.YtffceokjeonpcaaGreatDoor
def xD7 (k : Cla) (s : Int) : Prop := (k.start = [] ∧ s = -1) ∨ ∃ p ∈ k.start, p.1 = s
def xEy (c : Con) : Prop := ∀ k ∈ c.cl, ∀ p ∈ k.start, 0 ≤ p.1 ∧ p.1 < (c.cl.length : Int)
def stR (r : Rd) (j : Int) : Int := match r.oc[j.toNat]? with | some p => p.1.st | none => 0
def xCw (r : Rd) (k : Cla) : Bool := k.start.all fun s => xA2 s.2 (stR r s.1)
structure FInv (c : Con) (r : Rd) : Prop where
 f0 : ∀ (i : Nat) k p, c.cl[i]? = some k → r.oc[i]? = some p → k.waived = false → p.1.from_ < 0 → p.1.st = 0
 f1 : ∀ (i : Nat) k p, c.cl[i]? = some k → r.oc[i]? = some p → p.1.st = 0 → p.1.from_ < 0 ∧ k.waived = false
theorem xG6 {c : Con} {r : Rd} (h : RInv c r) (j : Int) : stOf (r.marks c) j = stR r j := by
 rw [stOf_get]
 unfold stR
 cases hp : r.oc[j.toNat]? with
 | none =>
  rw [List.getElem?_eq_none (by rw [xBw h.len, ← h.len]; exact List.getElem?_eq_none_iff.1 hp)]
  rfl
 | some p =>
  obtain ⟨k, hk⟩ : ∃ k, c.cl[j.toNat]? = some k := ⟨_, qzJ (by rw [← h.len]; exact (qzM hp).1)⟩
  rw [xB6 hk hp, Option.getD_some, xHt]
theorem xGi {c : Con} {r : Rd} (h : RInv c r) {i : Nat} : rdy c (r.marks c) i = true ↔ ∃ k p, c.cl[i]? = some k ∧ r.oc[i]? = some p ∧ p.1.st = 0 ∧ k.waived = false ∧ xCw r k = true := by
 rw [xDj]
 constructor
 ·rintro ⟨k, m, h1, h2, h3, h4, h5⟩
  obtain ⟨p, hp⟩ : ∃ p, r.oc[i]? = some p := ⟨_, qzJ (by rw [h.len]; exact (qzM h1).1)⟩
  rw [xB6 h1 hp] at h2
  cases h2
  rw [xHt] at h3
  exact ⟨k, p, h1, hp, h3, h4, List.all_eq_true.2 fun s hs => by rw [← xG6 h]; exact h5 s hs⟩
 ·rintro ⟨k, p, h1, h2, h3, h4, h5⟩
  exact ⟨k, _, h1, xB6 h1 h2, by rw [xHt]; exact h3, h4, fun s hs => by rw [xG6 h]; exact List.all_eq_true.1 h5 s hs⟩
def xB8 (k : Cla) (hol : List Int) (steps : Int) (p : Out × Cnt) : Out × Cnt := ({ p.1 with st := 1, from_ := steps, brr := if k.kind = 4 then p.1.brr else xCa hol k.role }, p.2)
structure RSt (c : Con) (r0 r : Rd) : Prop where
 s : r = { r0 with oc := r.oc }
 ext : Ext c r0.hol (r0.marks c) (r.marks c)
 mn : ∀ L, Ext c r0.hol (r0.marks c) L → Shut c L → Ext c r0.hol (r.marks c) L
 inv : RInv c r
 f : FInv c r
 oc : r.oc = List.zipWith (xBe r0.steps) (r.marks c) r0.oc
theorem RSt.refl {c : Con} {r : Rd} (h : RInv c r) (f : FInv c r) : RSt c r r := by
 refine ⟨rfl, Ext.refl _ _ _, fun _ h _ => h, h, f, ?_⟩
 refine List.ext_getElem? fun i => ?_
 rw [List.getElem?_zipWith]
 cases hp : r.oc[i]? with
 | none => cases (r.marks c)[i]? <;> rfl
 | some p =>
  obtain ⟨k, hk⟩ : ∃ k, c.cl[i]? = some k := ⟨_, qzJ (by rw [← h.len]; exact (qzM hp).1)⟩
  rw [xB6 hk hp]
  show some p = some (xBe r.steps (mkOf k p.1 p.2) p)
  unfold xBe
  rw [if_neg (by rw [xHt]; rintro ⟨a, b⟩; omega)]
theorem RSt.go {c : Con} {r0 r : Rd} {i : Nat} {k : Cla} {p : Out × Cnt} (hg : CGood c) (h : RSt c r0 r) (hk : c.cl[i]? = some k) (hp : r.oc[i]? = some p) (hw : k.waived = false) (hf : p.1.from_ < 0) (hc : xCw r k = true) :
  RSt c r0 { r with oc := r.oc.set i (xB8 k r0.hol r0.steps p) } ∧ xB9 (({ r with oc := r.oc.set i (xB8 k r0.hol r0.steps p) } : Rd).marks c) + 1 = xB9 (r.marks c) := by
 have hst := h.f.f0 i k p hk hp hw hf
 have hr : rdy c (r.marks c) i = true := (xGi h.inv).2 ⟨k, p, hk, hp, hst, hw, hc⟩
 obtain ⟨hI, hG, hT⟩ := h.inv.inv i k p hk hp
 obtain ⟨l1, l2, l3, l4⟩ := hI.l0 hst
 have ht := hT hst
 have hs0 : 0 ≤ r0.steps := by have := h.inv.s0; rw [h.s] at this; exact this
 have hil : i < r.oc.length := (qzM hp).1
 have hmk : mkOf k (xB8 k r0.hol r0.steps p).1 (xB8 k r0.hol r0.steps p).2 = live k r0.hol := by
  unfold xB8 mkOf live
  simp [l1, l2, l3, l4]
 have hm : ({ r with oc := r.oc.set i (xB8 k r0.hol r0.steps p) } : Rd).marks c = (r.marks c).set i (live k r0.hol) := by
  unfold Rd.marks
  rw [xIb mkP c.cl r.oc i k _ hk]
  show (List.zipWith mkP c.cl r.oc).set i (mkOf k (xB8 k r0.hol r0.steps p).1 (xB8 k r0.hol r0.steps p).2) = _
  rw [hmk]
 have hmi := xB6 hk hp
 have hmil := (qzM hmi).1
 have hkg := hg.k k (qzK hk)
 refine ⟨⟨?_, ?_, ?_, ?_, ?_, ?_⟩, ?_⟩
 ·show ({ r with oc := _ } : Rd) = { r0 with oc := _ }
  rw [h.s]
 ·rw [hm]; exact h.ext.trans (xH4 hk hr)
 ·intro L hL hS
  rw [hm]
  exact ext_set (h.mn L hL hS) hS hk hr
 ·refine ⟨by show (r.oc.set _ _).length = _; rw [List.length_set, h.inv.len], h.inv.s0, fun j k' p' hk' hp' => ?_⟩
  by_cases e : i = j
  ·subst e
   rw [hk] at hk'
   cases hk'
   have hp' : (r.oc.set i (xB8 k r0.hol r0.steps p))[i]? = some p' := hp'
   rw [List.getElem?_set_self hil] at hp'
   cases hp'
   have ha := hkg.a1
   refine ⟨⟨?_, ?_, ?_, ?_⟩, ?_, ?_⟩
   ·simp [xB8, Out.runs, hs0, ht]
   ·intro _; show 0 ≤ p.2.days ∧ p.2.days < k.aft; omega
   ·intro e; simp [xB8] at e
   ·intro e; simp [xB8] at e
   ·intro _ e
    show p.1.got < k.need
    have := hg.n k (qzK hk) e
    omega
   ·intro e; simp [xB8] at e
  ·have hp' : (r.oc.set i (xB8 k r0.hol r0.steps p))[j]? = some p' := hp'
   rw [List.getElem?_set_ne e] at hp'
   exact h.inv.inv j k' p' hk' hp'
 ·refine ⟨fun j k' p' hk' hp' hw' hf' => ?_, fun j k' p' hk' hp' hs' => ?_⟩ <;>
  ·have hp' : (r.oc.set i (xB8 k r0.hol r0.steps p))[j]? = some p' := hp'
   by_cases e : i = j
   ·subst e
    rw [List.getElem?_set_self hil] at hp'
    cases hp'
    first
    | (exfalso; have e : r0.steps < 0 := hf'; omega)
    | (exfalso; have e : (1 : Int) = 0 := hs'; omega)
   ·rw [List.getElem?_set_ne e] at hp'
    first | exact h.f.f0 j k' p' hk' hp' hw' hf' | exact h.f.f1 j k' p' hk' hp' hs'
 ·show r.oc.set i _ = _
  rw [hm]
  have h0i : r0.oc[i]? = some p := by
   have e := h.oc
   have e2 : r.oc[i]? = (List.zipWith (xBe r0.steps) (r.marks c) r0.oc)[i]? := by rw [← e]
   rw [hp, List.getElem?_zipWith, hmi] at e2
   cases hq : r0.oc[i]? with
   | none => rw [hq] at e2; simp at e2
   | some q =>
    rw [hq] at e2
    simp only [Option.some.injEq] at e2
    unfold xBe at e2
    rw [if_neg (by rw [xHt, hst]; rintro ⟨a, _⟩; omega)] at e2
    rw [e2]
  have hL : (xBe r0.steps (live k r0.hol) p) = xB8 k r0.hol r0.steps p := by
   unfold xBe xB8
   rw [if_pos ⟨rfl, hst⟩]
   simp [live, l4]
  rw [← hL]
  refine List.ext_getElem? fun j => ?_
  rw [List.getElem?_zipWith]
  by_cases e : i = j
  ·subst e
   rw [List.getElem?_set_self hil, List.getElem?_set_self hmil, h0i]
  ·rw [List.getElem?_set_ne e, List.getElem?_set_ne e, ← List.getElem?_zipWith, ← h.oc]
 ·rw [hm]
  exact xH2 hmi (by rw [xHt]; exact hst) (by rw [live_st]; decide)
theorem RSt.fin {c : Con} {r0 r : Rd} (_hg : CGood c) (h0 : RInv c r0) (h : RSt c r0 r) (hS : Shut c (r.marks c)) : r = r0.startR c := by
 have e : r.marks c = xAs c r0.hol (r0.marks c) := xIo (xBw h0.len) h.ext hS h.mn
 have h2 := h.s
 have h3 := h.oc
 rw [e] at h3
 rw [h2]
 unfold Rd.startR
 rw [← h3]
structure WI (c : Con) (r : Rd) (wl : Int → List Int) : Prop where
 a : ∀ s i, i ∈ wl s → ∃ (n : Nat) (k : Cla), i = (n : Int) ∧ c.cl[n]? = some k ∧ k.waived = false ∧ xD7 k s
 b : ∀ (n : Nat) k p, c.cl[n]? = some k → r.oc[n]? = some p → p.1.st = 0 → ∀ s, xD7 k s → (n : Int) ∈ wl s
def JI (c : Con) (r : Rd) (todo : List Int) : Prop := ∀ n, rdy c (r.marks c) n = true → ∃ k s, c.cl[n]? = some k ∧ xD7 k s ∧ s ∈ todo
structure IN (c : Con) (r0 r : Rd) (wl : Int → List Int) (xDd : List Int) (nn : Nat) (s : Int) (p : Nat) (rest : List Int) : Prop where
 si : RSt c r0 r
 a : ∀ s i, i ∈ wl s → ∃ (n : Nat) (k : Cla), i = (n : Int) ∧ c.cl[n]? = some k ∧ k.waived = false ∧ xD7 k s
 b : ∀ (n : Nat) k q, c.cl[n]? = some k → r.oc[n]? = some q → q.1.st = 0 → ∀ s', xD7 k s' → (s' ≠ s → (n : Int) ∈ wl s') ∧ (s' = s → (n : Int) ∈ rest ∨ (n : Int) ∈ (wl s).drop p)
 sub : ∀ i ∈ rest, i ∈ wl s
 j : ∀ n, rdy c (r.marks c) n = true → (∃ k s', c.cl[n]? = some k ∧ xD7 k s' ∧ s' ∈ xDd.drop (nn + 1)) ∨ (n : Int) ∈ (wl s).drop p
 kn : xDd[nn]? = some s
theorem IN.start {c : Con} {r0 r : Rd} {wl : Int → List Int} {xDd : List Int} {nn : Nat} {s : Int} (hS : RSt c r0 r) (hW : WI c r wl) (hJ : JI c r (xDd.drop nn)) (hn : xDd[nn]? = some s) : IN c r0 r wl xDd nn s 0 [] := by
 refine ⟨hS, hW.a, fun n k q h1 h2 h3 s' h4 => ⟨fun _ => hW.b n k q h1 h2 h3 s' h4, fun e => .inr (by subst e; exact hW.b n k q h1 h2 h3 _ h4)⟩, fun i hi => (by cases hi), fun n hr => ?_, hn⟩
 obtain ⟨k, s', h1, h2, h3⟩ := hJ n hr
 obtain ⟨hl, e⟩ := qzM hn
 rw [List.drop_eq_getElem_cons hl, e] at h3
 rcases List.mem_cons.1 h3 with rfl | h3
 ·obtain ⟨k', p, g1, g2, g3, _⟩ := (xGi hS.inv).1 hr
  rw [h1] at g1
  cases g1
  exact .inr (hW.b n k p h1 g2 g3 _ h2)
 ·exact .inl ⟨k, s', h1, h2, h3⟩
section
variable {c : Con} {r0 r : Rd} {wl : Int → List Int} {xDd : List Int} {nn : Nat} {s : Int} {p : Nat} {rest : List Int} {i : Int}
theorem xDs {l : List Int} {p : Nat} {i n : Int} (h : l[p]? = some i) (hn : n ∈ l.drop p) : n = i ∨ n ∈ l.drop (p + 1) := by
 obtain ⟨hl, e⟩ := qzM h
 rw [List.drop_eq_getElem_cons hl, e] at hn
 exact List.mem_cons.1 hn
theorem IN.at_ (h : IN c r0 r wl xDd nn s p rest) (hi : (wl s)[p]? = some i) : ∃ (n : Nat) (k : Cla) (q : Out × Cnt), i = (n : Int) ∧ c.cl[n]? = some k ∧ r.oc[n]? = some q ∧ k.waived = false ∧ xD7 k s := by
 obtain ⟨n, k, h1, h2, h3, h4⟩ := h.a s i (qzK hi)
 exact ⟨n, k, _, h1, h2, qzJ (by rw [h.si.inv.len]; exact (qzM h2).1), h3, h4⟩
theorem IN.skip (h : IN c r0 r wl xDd nn s p rest) (hi : (wl s)[p]? = some i) {n : Nat} {k : Cla} (hn : i = (n : Int)) (hk : c.cl[n]? = some k) (hc : xCw r k = false) : IN c r0 r wl xDd nn s (p + 1) (rest ++ [i]) := by
 refine ⟨h.si, h.a, fun n' k' q h1 h2 h3 s' h4 => ⟨(h.b n' k' q h1 h2 h3 s' h4).1, fun e => ?_⟩, fun j hj => ?_, fun n' hr => ?_, h.kn⟩
 ·rcases (h.b n' k' q h1 h2 h3 s' h4).2 e with g | g
  ·exact .inl (List.mem_append_left _ g)
  ·rcases xDs hi g with g | g
   ·exact .inl (by rw [g]; simp)
   ·exact .inr g
 ·rcases List.mem_append.1 hj with g | g
  ·exact h.sub j g
  ·rw [List.mem_singleton.1 g]; exact qzK hi
 ·rcases h.j n' hr with g | g
  ·exact .inl g
  ·rcases xDs hi g with g | g
   ·exfalso
    obtain ⟨k', q, g1, g2, g3, g4, g5⟩ := (xGi h.si.inv).1 hr
    rw [hn] at g
    obtain rfl : n' = n := by omega
    rw [hk] at g1
    cases g1
    rw [hc] at g5
    cases g5
   ·exact .inr g
theorem IN.old (h : IN c r0 r wl xDd nn s p rest) (hi : (wl s)[p]? = some i) {n : Nat} {k : Cla} {q : Out × Cnt} (hn : i = (n : Int)) (hk : c.cl[n]? = some k) (hq : r.oc[n]? = some q) (hf : 0 ≤ q.1.from_) : IN c r0 r wl xDd nn s (p + 1) rest := by
 have key : ∀ (n' : Nat) (k' : Cla) (q' : Out × Cnt), c.cl[n']? = some k' → r.oc[n']? = some q' → q'.1.st = 0 → (n' : Int) ≠ i := by
  intro n' k' q' h1 h2 h3 e
  rw [hn] at e
  obtain rfl : n' = n := by omega
  rw [hq] at h2
  cases h2
  have := (h.si.f.f1 n' k' q h1 hq h3).1
  omega
 refine ⟨h.si, h.a, fun n' k' q' h1 h2 h3 s' h4 => ⟨(h.b n' k' q' h1 h2 h3 s' h4).1, fun e => ?_⟩, h.sub, fun n' hr => ?_, h.kn⟩
 ·rcases (h.b n' k' q' h1 h2 h3 s' h4).2 e with g | g
  ·exact .inl g
  ·rcases xDs hi g with g | g
   ·exact absurd g (key n' k' q' h1 h2 h3)
   ·exact .inr g
 ·rcases h.j n' hr with g | g
  ·exact .inl g
  ·rcases xDs hi g with g | g
   ·obtain ⟨k', q', g1, g2, g3, _⟩ := (xGi h.si.inv).1 hr
    exact absurd g (key n' k' q' g1 g2 g3)
   ·exact .inr g
theorem IN.go (hg : CGood c) (hcs : xEy c) (h : IN c r0 r wl xDd nn s p rest) (hi : (wl s)[p]? = some i) {n : Nat} {k : Cla} {q : Out × Cnt} (hn : i = (n : Int)) (hk : c.cl[n]? = some k) (hq : r.oc[n]? = some q) (hw : k.waived = false) (hf : q.1.from_ < 0) (hc : xCw r k = true) :
  IN c r0 { r with oc := r.oc.set n (xB8 k r0.hol r0.steps q) } wl (xDd ++ [i]) nn s (p + 1) rest := by
 have hS := (h.si.go hg hk hq hw hf hc).1
 have hnl : n < r.oc.length := (qzM hq).1
 have key : ∀ (n' : Nat) (q' : Out × Cnt), (r.oc.set n (xB8 k r0.hol r0.steps q))[n']? = some q' → q'.1.st = 0 → n ≠ n' ∧ r.oc[n']? = some q' := by
  intro n' q' h2 h3
  by_cases e : n = n'
  ·subst e
   rw [List.getElem?_set_self hnl] at h2
   cases h2
   exfalso
   have e : (1 : Int) = 0 := h3
   omega
  ·rw [List.getElem?_set_ne e] at h2
   exact ⟨e, h2⟩
 obtain ⟨hl, _⟩ := qzM h.kn
 refine ⟨hS, h.a, fun n' k' q' h1 h2 h3 s' h4 => ?_, h.sub, fun n' hr => ?_, by rw [List.getElem?_append_left hl]; exact h.kn⟩
 ·obtain ⟨e, h2'⟩ := key n' q' h2 h3
  refine ⟨(h.b n' k' q' h1 h2' h3 s' h4).1, fun e2 => ?_⟩
  rcases (h.b n' k' q' h1 h2' h3 s' h4).2 e2 with g | g
  ·exact .inl g
  ·rcases xDs hi g with g | g
   ·rw [hn] at g; omega
   ·exact .inr g
 ·obtain ⟨k', q', g1, g2, g3, g4, g5⟩ := (xGi hS.inv).1 hr
  obtain ⟨e, g2'⟩ := key n' q' g2 g3
  rw [List.drop_append_of_le_length (by omega)]
  cases hb : xCw r k' with
  | true =>
   rcases h.j n' ((xGi h.si.inv).2 ⟨k', q', g1, g2', g3, g4, hb⟩) with ⟨k2, s', x1, x2, x3⟩ | g
   ·exact .inl ⟨k2, s', x1, x2, List.mem_append_left _ x3⟩
   ·rcases xDs hi g with g | g
    ·rw [hn] at g; omega
    ·exact .inr g
  | false =>
   refine .inl ⟨k', i, g1, ?_, List.mem_append_right _ (List.mem_singleton.2 rfl)⟩
   unfold xCw at hb g5
   rw [List.all_eq_false] at hb
   obtain ⟨x, hx, hx2⟩ := hb
   have hx3 := List.all_eq_true.1 g5 x hx
   have hx0 := (hcs k' (qzK g1) x hx).1
   refine .inr ⟨x, hx, ?_⟩
   rw [hn]
   by_cases e2 : x.1.toNat = n
   ·omega
   ·exfalso
    apply hx2
    have e3 : stR r x.1 = stR { r with oc := r.oc.set n (xB8 k r0.hol r0.steps q) } x.1 := by
     unfold stR
     show (match r.oc[x.1.toNat]? with | some p => p.1.st | none => 0) = (match (r.oc.set n _)[x.1.toNat]? with | some p => p.1.st | none => 0)
     rw [List.getElem?_set_ne (fun e => e2 e.symm)]
    rw [e3]
    exact hx3
theorem IN.fin (h : IN c r0 r wl xDd nn s p rest) (hp : (wl s).length ≤ p) : WI c r (fun x => if x = s then rest else wl x) ∧ JI c r (xDd.drop (nn + 1)) := by
 have hd : (wl s).drop p = [] := List.drop_of_length_le hp
 refine ⟨⟨fun s' i hi => ?_, fun n k q h1 h2 h3 s' h4 => ?_⟩, fun n hr => ?_⟩
 ·by_cases e : s' = s
  ·subst e
   rw [if_pos rfl] at hi
   exact h.a _ i (h.sub i hi)
  ·rw [if_neg e] at hi
   exact h.a s' i hi
 ·by_cases e : s' = s
  ·subst e
   show (n : Int) ∈ (if s' = s' then rest else wl s')
   rw [if_pos rfl]
   rcases (h.b n k q h1 h2 h3 s' h4).2 rfl with g | g
   ·exact g
   ·rw [hd] at g; cases g
  ·show (n : Int) ∈ (if s' = s then rest else wl s')
   rw [if_neg e]
   exact (h.b n k q h1 h2 h3 s' h4).1 e
 ·rcases h.j n hr with g | g
  ·exact g
  ·rw [hd] at g; cases g
end
theorem JI.shut {c : Con} {r : Rd} {l : List Int} (h : JI c r l) (hl : l = []) : Shut c (r.marks c) := fun n => by
 cases hr : rdy c (r.marks c) n with
 | false => rfl
 | true =>
  obtain ⟨k, s, _, _, h3⟩ := h n hr
  rw [hl] at h3
  cases h3
open Go.RowKit
def Seg {α : Type} (w : World) (B : Nat) (size : Nat) (enc : α → List Value) (A : Option Addr) (xs : List α) : Prop :=
 ∀ k x, xs[k]? = some x → ∃ b off, A = some ⟨b, off, none⟩ ∧ b < B ∧ ∀ j u, (enc x)[j]? = some u → w.cell? ⟨b, off + k * size + j, none⟩ = some u
section
variable {α : Type} {w w' : World} {B B' size : Nat} {enc : α → List Value} {A : Option Addr} {xs : List α}
theorem Seg.nil (w : World) (B size : Nat) (enc : α → List Value) (A : Option Addr) : Seg w B size enc A [] := fun k x h => by simp at h
theorem Seg.some_ (h : Seg w B size enc A xs) (hk : 0 < xs.length) : ∃ b off, A = some ⟨b, off, none⟩ ∧ b < B := by
 obtain ⟨b, off, e, hb, _⟩ := h 0 _ (qzJ hk)
 exact ⟨b, off, e, hb⟩
theorem Seg.keep (h : Seg w B size enc A xs) (hk : ∀ b o, b < B → w'.cell? ⟨b, o, none⟩ = w.cell? ⟨b, o, none⟩) : Seg w' B size enc A xs := fun k x hx => by
 obtain ⟨b, off, e, hb, hc⟩ := h k x hx
 exact ⟨b, off, e, hb, fun j u hu => (hk _ _ hb).trans (hc j u hu)⟩
theorem Seg.more (h : Seg w B size enc A xs) (hB : B ≤ B') : Seg w B' size enc A xs := fun k x hx => by
 obtain ⟨b, off, e, hb, hc⟩ := h k x hx
 exact ⟨b, off, e, by omega, hc⟩
theorem Seg.below (h : Seg w B size enc A xs) (hb : Below B w w') : Seg w' B size enc A xs := h.keep fun b o hp => hb.cell (p := ⟨b, o, none⟩) hp
end
theorem xAk {B : Nat} {a w : World} (h : Below B a w) (n : Nat) : Below B a (w.drewN n) := ⟨h.os, h.tape, h.output, h.size, h.block⟩
theorem xAa {w a b : World} (h : Below w.heap.size w a) (k : Below a.heap.size a b) : Below w.heap.size w b := h.trans (k.mono h.size)
theorem xAc {w a : World} (h : Below w.heap.size w a) (o : Obj) : Below w.heap.size w (a.alloc o) := h.alloc h.size o
theorem bcell {W w1 : World} (hb : Below W.heap.size W w1) : (∀ b o, b < W.heap.size → w1.cell? ⟨b, o, none⟩ = W.cell? ⟨b, o, none⟩) ∧ (∀ b o, b < W.heap.size → w1.frozen? ⟨b, o, none⟩ = W.frozen? ⟨b, o, none⟩) :=
 ⟨fun b o h => hb.cell (p := ⟨b, o, none⟩) h, fun b o h => hb.frozen (p := ⟨b, o, none⟩) h⟩
def Blk (w : World) (g : Nat) (t : TypeId) (cs : Array Value) : Prop := w.heap[g]? = some (.cells cs t (0, 0))
section
variable {w w' : World} {g : Nat} {t : TypeId} {cs : Array Value}
theorem Blk.lt (h : Blk w g t cs) : g < w.heap.size := by
 rcases Nat.lt_or_ge g w.heap.size with hlt | hge
 ·exact hlt
 ·unfold Blk at h; rw [Array.getElem?_eq_none hge] at h; cases h
theorem Blk.cell (h : Blk w g t cs) (i : Nat) : w.cell? ⟨g, i, none⟩ = cs[i]? := cell_of_row w g i cs t (0, 0) h
theorem Blk.frozen (h : Blk w g t cs) (i : Nat) : w.frozen? ⟨g, i, none⟩ = false := by
 unfold Blk at h
 simp [World.frozen?, h]
theorem Blk.new (w : World) (t : TypeId) (cs : Array Value) : Blk (w.alloc (.cells cs t)) w.heap.size t cs := heap_alloc_new w _
theorem Blk.drew (h : Blk w g t cs) : Blk w.drew g t cs := h
theorem Blk.drewN (h : Blk w g t cs) (n : Nat) : Blk (w.drewN n) g t cs := h
theorem Blk.alloc (h : Blk w g t cs) (o : Obj) : Blk (w.alloc o) g t cs := (Below.heap_alloc w o g h.lt).trans h
theorem Blk.set_ (h : Blk w g t cs) (i : Nat) (u : Value) : Blk (w.setCell ⟨g, i, none⟩ u) g t (cs.setIfInBounds i u) := by
 unfold Blk at h ⊢
 simp [World.setCell, Array.getElem?_modify, h]
theorem Blk.far (h : Blk w g t cs) {p : Addr} (hp : g ≠ p.block) (u : Value) : Blk (w.setCell p u) g t cs := (Below.heap_setCell w p u g hp).trans h
theorem Blk.below {B : Nat} (h : Blk w g t cs) (hb : Below B w w') (hg : g < B) : Blk w' g t cs := (hb.block g hg).trans h
theorem Blk.then_ (h : Blk w g t cs) (hb : Below w.heap.size w w') : Blk w' g t cs := h.below hb h.lt
theorem Blk.grown {row : Option Nat} (h : Blk w g t cs) (hb : w.grownBy w' row) (hg : some g ≠ row) : Blk w' g t cs := (hb.block g h.lt hg).trans h
theorem Blk.setT0 {x y u : Value} (h : Blk w g t #[x, y]) : Blk (w.setCell ⟨g, 0, none⟩ u) g t #[u, y] := h.set_ 0 u
theorem Blk.setT1 {x y u : Value} (h : Blk w g t #[x, y]) : Blk (w.setCell ⟨g, 1, none⟩ u) g t #[x, u] := h.set_ 1 u
theorem Blk.two {x y : Value} (h : Blk w g t #[x, y]) : w.cell? ⟨g, 0, none⟩ = some x ∧ w.cell? ⟨g, 1, none⟩ = some y ∧ w.frozen? ⟨g, 0, none⟩ = false ∧ w.frozen? ⟨g, 1, none⟩ = false :=
 ⟨h.cell 0, h.cell 1, h.frozen 0, h.frozen 1⟩
theorem Blk.one {x : Value} (h : Blk w g t #[x]) : w.cell? ⟨g, 0, none⟩ = some x ∧ w.frozen? ⟨g, 0, none⟩ = false := ⟨h.cell 0, h.frozen 0⟩
end
theorem xCc {k : IntKind} {a b : Int} (h : a = b) : Ending.returned (.int k a) = .returned (.int k b) := by rw [h]
theorem xAb {a b : Bool} (h : a = b) : Ending.returned (.bool a) = .returned (.bool b) := by rw [h]
theorem wa1 (w : World) (o : Obj) : Below w.heap.size w (w.alloc o) := (Below.refl _ _).alloc (Nat.le_refl _) o
theorem mag_any (n : Int) (w : World) (h1 : -9223372036854775808 ≤ n) (h2 : n ≤ 9223372036854775807) :
  Calls Tryz.prog 118 #[.int .i64 n] w fun e w' => e = .returned (.int .u64 (mag n)) ∧ w = w' := by
 by_cases h : n < 0
 ·have hm := qzL (mag_neg h)
  go_enter Tryz.func118, Tryz.ntmps118
  go_wp2
  go_ret
  exact ⟨xCc (by rw [hm.out]; omega), rfl⟩
 ·have hm := qzL (mag_pos (Int.not_lt.1 h))
  go_enter Tryz.func118, Tryz.ntmps118
  go_wp2
  go_ret
  exact ⟨xCc (by rw [hm.out]), rfl⟩
theorem dvs_any (b : Nat) (x y : Int) (w : World) (hx : 0 ≤ x) (hy : 0 ≤ y) (hx' : x < 18446744073709551616) (hy' : y < 18446744073709551616)
  (c0 : w.cell? ⟨b, 0, none⟩ = some (.int .u64 x)) (c1 : w.cell? ⟨b, 1, none⟩ = some (.int .u64 y)) :
  Calls Tryz.prog 117 #[.slice (some ⟨b, 0, none⟩) 2 2] w fun e w' => e = .returned (.int .u64 (Int.gcd x y)) ∧ ∃ n, w' = w.drewN n := by
 have C := qzL (And.intro c0 c1)
 clear c0 c1
 go_enter Tryz.func117, Tryz.ntmps117
 go_wp2
 go_loopw [3, 8] (fun u i wr => ∃ (g : Int) (k : Nat), k ≤ 2 ∧ 0 ≤ g ∧ g < 18446744073709551616 ∧ i = .int .i64 k ∧ u = .int .u64 g ∧ Hid (g = if k = 0 then 0 else if k = 1 then x else Int.gcd x y) ∧ ∃ n, wr = w.drewN n) (fun _ i _ => (2 - intOf i).toNat)
 case atStart => exact ⟨0, 0, by omega, by omega, by omega, rfl, rfl, rfl, 0, rfl⟩
 case round =>
  obtain ⟨g, k, hk, hg, hg', rfl, rfl, hG, n, rfl⟩ := hrel
  by_cases h0 : k < 2
  ·have hz : ∃ z : Int, 0 ≤ z ∧ z < 18446744073709551616 ∧ w.cell? ⟨b, k, none⟩ = some (.int .u64 z) ∧ Hid ((Int.gcd g z : Int) = if k = 0 then x else Int.gcd x y) := by
    have hG := hG.out
    match k, h0 with
    | 0, _ => simp at hG; subst hG; exact ⟨x, hx, hx', C.out.1, by simp [Hid]; omega⟩
    | 1, _ => simp at hG; subst hG; exact ⟨y, hy, hy', C.out.2, by simp [Hid]⟩
   obtain ⟨z, hz, hz', cz, hgz⟩ := hz
   go_wp2
   go_loopw [3, 5] (fun u v wr => ∃ x y : Int, 0 ≤ x ∧ 0 ≤ y ∧ x < 18446744073709551616 ∧ y < 18446744073709551616 ∧ Hid (Int.gcd x y = Int.gcd g z) ∧ u = .int .u64 x ∧ v = .int .u64 y ∧ ∃ n, wr = w.drewN n) (fun _ v _ => (intOf v).toNat)
   case atStart => exact ⟨g, z, by omega, by omega, by omega, by omega, rfl, rfl, rfl, n, rfl⟩
   case round =>
    obtain ⟨g1, z1, hg1, hz1, hg1', hz1', hG1, rfl, rfl, n1, rfl⟩ := hrel
    by_cases h1 : 0 < z1
    ·have hq := Int.emod_nonneg g1 (show z1 ≠ 0 by omega)
     have hq2 := Int.emod_lt_of_pos g1 h1
     go_wp2
     go_quiet (fail)
     go_wp2
     go_roundw
     case rel => exact ⟨z1, g1 % z1, by omega, by omega, by omega, by omega, (gcd_step g1 z1 hg1 hz1).trans hG1.out, rfl, rfl, _, World.drewN_drewN ..⟩
     case measure => simp [intOf]; omega
    ·go_wp2
     go_roundw
     case rel =>
      obtain rfl : z1 = 0 := by omega
      have e1 := hG1.out
      rw [Int.gcd_zero_right] at e1
      refine ⟨g1, k + 1, by omega, by omega, by omega, by go_num, rfl, ?_, _, rfl⟩
      have e2 := hgz.out
      have e3 : g1 = Int.gcd g z := by omega
      rw [Hid, e3, e2]
      by_cases hk0 : k = 0
      ·simp [hk0]
      ·obtain rfl : k = 1 := by omega
       simp
     case measure => simp [intOf]; omega
  ·go_wp2
   go_ret
   obtain rfl : k = 2 := by omega
   exact ⟨xCc (by have := hG.out; simpa using this), _, rfl⟩
theorem xG1 (n d : Int) (w : World) (hn1 : -9223372036854775808 ≤ n) (hn2 : n ≤ 9223372036854775807) (hd1 : -9223372036854775808 ≤ d) (hd2 : d ≤ 9223372036854775807) :
  Calls Tryz.prog 110 #[.agg #[.int .i64 n, .int .i64 d]] w fun e w' => e = .returned (.bool (vld n d)) ∧ Below w.heap.size w w' := by
 by_cases hr : 1 ≤ d ∧ d ≤ 1000000 ∧ -1000000000000 ≤ n ∧ n ≤ 1000000000000
 ·obtain ⟨h1, h2, h3, h4⟩ := hr
  have hv : vld n d = decide ((Int.gcd (mag n) (mag d) : Int) = 1) := by
   rw [gcd_mag]; simp only [vld, h1, h2, h3, h4, true_and]; congr 1; simp; omega
  have HV := qzL hv
  clear hv
  have m1 := mag_bd (n := n) (by omega) (by omega)
  have m2 := mag_bd (n := d) (by omega) (by omega)
  go_enter Tryz.func110, Tryz.ntmps110
  go_wp2_with fail
  go_region_held3 (fun w' => w'.cell? ⟨w.heap.size, 0, none⟩ = some (.int .i64 n) ∧ w'.cell? ⟨w.heap.size, 1, none⟩ = some (.int .i64 d)) (go_keep) (first | (go_at_call 118; refine (mag_any _ _ (by omega) (by omega)).mono ?_; rintro e w' ⟨rfl, rfl⟩) | (go_at_call 117; refine (dvs_any _ (mag n) (mag d) _ (by omega) (by omega) (by omega) (by omega) (by simp [go_sem]) (by simp [go_sem])).mono ?_; rintro e w' ⟨rfl, nn, rfl⟩))
  all_goals go_wp2
  go_ret
  exact ⟨xAb (by rw [HV.out]; simp only [Bool.beq_eq_decide_eq]), xAk ((wa1 _ _).alloc (by simp) _) _⟩
 ·have hv := qzL (vld_no (n := n) (d := d) (fun h => hr ⟨h.1, h.2.1, h.2.2.1, h.2.2.2.1⟩))
  have hc : d < 1 ∨ (1 ≤ d ∧ 1000000 < d) ∨ (1 ≤ d ∧ d ≤ 1000000 ∧ n < -1000000000000) ∨ (1 ≤ d ∧ d ≤ 1000000 ∧ -1000000000000 ≤ n ∧ 1000000000000 < n) := by omega
  clear hr
  rcases hc with h | ⟨h, h'⟩ | ⟨h, h', h''⟩ | ⟨h, h', h'', h3⟩
  all_goals
   go_enter Tryz.func110, Tryz.ntmps110
   go_wp2
   go_ret
   exact ⟨xAb hv.out.symm, wa1 _ _⟩
abbrev I64 (n : Int) : Prop := -9223372036854775808 ≤ n ∧ n ≤ 9223372036854775807
def eI (n : Int) : List Value := [.int .i64 n]
def eU (u : Uni) : List Value := [.string u.nm, .int .i64 u.kind, .int .i64 u.base, .int .i64 u.f.1, .int .i64 u.f.2]
def eA (a : Atc) : List Value := [.int .i64 a.kind, .int .i64 a.role, .int .i64 a.give, .int .i64 a.to_, .int .i64 a.unit, .int .i64 a.lot.1, .int .i64 a.lot.2]
def eS (x : Int × Int) : List Value := [.int .i64 x.1, .int .i64 x.2]
structure Km where
 k : Cla
 A : Option Addr
 cap : Nat
def eK (x : Km) : List Value := [.int .i64 x.k.kind, .int .i64 x.k.role, .int .i64 x.k.act, .int .i64 x.k.need, .slice x.A x.k.start.length x.cap, .int .i64 x.k.aft, .int .i64 x.k.grace, .bool x.k.bus, .bool x.k.fin, .int .i64 x.k.pause, .int .i64 x.k.resume, .int .i64 x.k.v.1, .int .i64 x.k.v.2, .int .i64 x.k.unit, .int .i64 x.k.to_, .bool x.k.waived]
theorem xAz (n : Int) : (eI n).length = 1 := rfl
theorem eA_len (a : Atc) : (eA a).length = 7 := rfl
theorem eK_len (x : Km) : (eK x).length = 16 := rfl
structure Cm where
 h : Option Addr
 hc : Nat
 u : Option Addr
 uc : Nat
 a : Option Addr
 ac : Nat
 k : Option Addr
 kc : Nat
 o : Option Addr
 oc : Nat
 ks : List Km
abbrev coA (c : Con) (m : Cm) : Array Value := #[.int .i64 c.par, .slice m.h c.hold.length m.hc, .slice m.u c.un.length m.uc, .slice m.a c.ac.length m.ac, .slice m.k c.cl.length m.kc, .int .i64 c.days, .slice m.o c.off.length m.oc]
structure KOk (w : World) (x : Km) : Prop where
 s : Seg w w.heap.size 2 eS x.A x.k.start
 v : I64 x.k.v.1 ∧ I64 x.k.v.2
 n : x.k.start.length ≤ 1000000
 c : x.k.start.length ≤ x.cap
theorem KOk.then_ {w w' : World} {x : Km} (h : KOk w x) (hb : Below w.heap.size w w') : KOk w' x := ⟨(h.s.below hb).more hb.size, h.v, h.n, h.c⟩
structure Cont (w : World) (c : Con) (m : Cm) : Prop where
 h : Seg w w.heap.size 1 eI m.h c.hold
 u : Seg w w.heap.size 5 eU m.u c.un
 a : Seg w w.heap.size 7 eA m.a c.ac
 k : Seg w w.heap.size 16 eK m.k m.ks
 o : Seg w w.heap.size 1 eI m.o c.off
 e : m.ks.map (·.k) = c.cl
 t : ∀ x ∈ m.ks, KOk w x
 bu : ∀ x ∈ c.un, I64 x.f.1 ∧ I64 x.f.2
 ba : ∀ x ∈ c.ac, I64 x.lot.1 ∧ I64 x.lot.2
 nh : c.hold.length ≤ 1000000
 nu : c.un.length ≤ 1000000
 na : c.ac.length ≤ 1000000
 nk : c.cl.length ≤ 1000000
 no : c.off.length ≤ 1000000
 ch : c.hold.length ≤ m.hc
 cu : c.un.length ≤ m.uc
 ca : c.ac.length ≤ m.ac
 ck : c.cl.length ≤ m.kc
 co : c.off.length ≤ m.oc
theorem Cont.then_ {w w' : World} {c : Con} {m : Cm} (h : Cont w c m) (hb : Below w.heap.size w w') : Cont w' c m :=
 ⟨(h.h.below hb).more hb.size, (h.u.below hb).more hb.size, (h.a.below hb).more hb.size, (h.k.below hb).more hb.size, (h.o.below hb).more hb.size, h.e, fun x hx => (h.t x hx).then_ hb, h.bu, h.ba, h.nh, h.nu, h.na, h.nk, h.no, h.ch, h.cu, h.ca, h.ck, h.co⟩
theorem xAv {α : Type} {w : World} {B size : Nat} {enc : α → List Value} {A : Option Addr} {xs : List α} {k : Nat} {x : α} (h : Seg w B size enc A xs) (hx : xs[k]? = some x) :
  ∃ b off, A = some ⟨b, off, none⟩ ∧ b < B ∧ ∀ j v, (enc x)[j]? = some v → w.cell? ⟨b, off + k * size + j, none⟩ = some v := by
 obtain ⟨b, off, e, hb, hc⟩ := h k x hx
 exact ⟨b, off, e, hb, hc⟩
theorem xC3 {c : Con} {m : Cm} (e : m.ks.map (·.k) = c.cl) {i : Nat} {k : Cla} (hk : c.cl[i]? = some k) : ∃ x, m.ks[i]? = some x ∧ x.k = k := by
 rw [← e, List.getElem?_map] at hk
 cases hx : m.ks[i]? with
 | none => rw [hx] at hk; cases hk
 | some x => rw [hx] at hk; exact ⟨x, rfl, Option.some.inj hk⟩
structure Pm where
 p : Option Addr
 pc : Nat
 A : Option Addr
 cap : Nat
abbrev paA (p : Pat) (m : Pm) : Array Value := (#[.int .i64 p.kind, .slice m.p p.cls.length m.pc] ++ (eK ⟨p.new, m.A, m.cap⟩).toArray) ++ #[.int .i64 p.days]
theorem coC {W : World} {b : Nat} {T : TypeId} {vs : Array Value} {c : Con} {m : Cm} (h : Blk W b T vs) (e : vs.toList.take 7 = [.int .i64 c.par, .slice m.h c.hold.length m.hc, .slice m.u c.un.length m.uc, .slice m.a c.ac.length m.ac, .slice m.k c.cl.length m.kc, .int .i64 c.days, .slice m.o c.off.length m.oc]) : W.cell? ⟨b, 0, none⟩ = some (.int .i64 c.par) ∧ W.cell? ⟨b, 1, none⟩ = some (.slice m.h c.hold.length m.hc) ∧ W.cell? ⟨b, 2, none⟩ = some (.slice m.u c.un.length m.uc) ∧ W.cell? ⟨b, 3, none⟩ = some (.slice m.a c.ac.length m.ac) ∧ W.cell? ⟨b, 4, none⟩ = some (.slice m.k c.cl.length m.kc) ∧ W.cell? ⟨b, 5, none⟩ = some (.int .i64 c.days) ∧ W.cell? ⟨b, 6, none⟩ = some (.slice m.o c.off.length m.oc) := by
 have k : ∀ i, i < 7 → W.cell? ⟨b, i, none⟩ = [.int .i64 c.par, .slice m.h c.hold.length m.hc, .slice m.u c.un.length m.uc, .slice m.a c.ac.length m.ac, .slice m.k c.cl.length m.kc, .int .i64 c.days, .slice m.o c.off.length m.oc][i]? := fun i hi => by rw [← e, List.getElem?_take_of_lt hi, Array.getElem?_toList]; exact h.cell i
 exact ⟨k 0 (by decide), k 1 (by decide), k 2 (by decide), k 3 (by decide), k 4 (by decide), k 5 (by decide), k 6 (by decide)⟩
theorem atC {W : World} {b : Nat} {T : TypeId} {vs : Array Value} {c : Atc} (h : Blk W b T vs) (e : vs.toList.take 7 = [.int .i64 c.kind, .int .i64 c.role, .int .i64 c.give, .int .i64 c.to_, .int .i64 c.unit, .int .i64 c.lot.1, .int .i64 c.lot.2]) : W.cell? ⟨b, 0, none⟩ = some (.int .i64 c.kind) ∧ W.cell? ⟨b, 1, none⟩ = some (.int .i64 c.role) ∧ W.cell? ⟨b, 2, none⟩ = some (.int .i64 c.give) ∧ W.cell? ⟨b, 3, none⟩ = some (.int .i64 c.to_) ∧ W.cell? ⟨b, 4, none⟩ = some (.int .i64 c.unit) ∧ W.cell? ⟨b, 5, none⟩ = some (.int .i64 c.lot.1) ∧ W.cell? ⟨b, 6, none⟩ = some (.int .i64 c.lot.2) := by
 have k : ∀ i, i < 7 → W.cell? ⟨b, i, none⟩ = [.int .i64 c.kind, .int .i64 c.role, .int .i64 c.give, .int .i64 c.to_, .int .i64 c.unit, .int .i64 c.lot.1, .int .i64 c.lot.2][i]? := fun i hi => by rw [← e, List.getElem?_take_of_lt hi, Array.getElem?_toList]; exact h.cell i
 exact ⟨k 0 (by decide), k 1 (by decide), k 2 (by decide), k 3 (by decide), k 4 (by decide), k 5 (by decide), k 6 (by decide)⟩
structure ElT (P : Program) (ty : TypeId) (n : Nat) : Prop where
 u : ∃ fs, P.underlying ty = some (.struct fs)
 i : (P.info? ty).map (·.size) = some n
 z : ∃ v : Value, v.cells.size = n ∧ ∀ w : World, (zeroValue ty).run P w = .ok v w
theorem xEw (w : World) (t : TypeId) : ∀ (vs pre rest : List Value), rest.length = vs.length → (w.alloc (.cells (pre ++ rest).toArray t)).setCells w.heap.size pre.length vs = w.alloc (.cells (pre ++ vs).toArray t)
 | [], pre, rest, h => by
  obtain rfl : rest = [] := List.eq_nil_of_length_eq_zero h
  rfl
 | v :: vs, pre, rest, h => by
  cases rest with
  | nil => simp at h
  | cons r rest =>
   have h2 := xEw w t vs (pre ++ [v]) rest (by simpa using h)
   simp only [World.setCells]
   rw [World.setCell_alloc_at _ _ _ _ _ rfl]
   simp only [List.length_append, List.length_cons, List.length_nil, Nat.zero_add, List.append_assoc, qzE, qzF] at h2
   rw [show ((pre ++ r :: rest).toArray.setIfInBounds pre.length v) = (pre ++ v :: rest).toArray by simp]
   exact h2
theorem xC9 (w : World) (t : TypeId) (c : Array Value) (vs : List Value) (h : c.size = vs.length) : (w.alloc (.cells c t)).setCells w.heap.size 0 vs = w.alloc (.cells vs.toArray t) := by
 have := xEw w t vs [] c.toList (by simpa using h)
 simpa using this
theorem xAm {P : Program} {ops : Array Oper} {rest : List Oper} {o1 o2 o3 : Oper} {a : Act} {w : World} {Q : Exit → Act → World → Prop} {n : Nat} (ty : TypeId) (E : ElT P ty n) (x : Operand) (d1 d2 : Tmp)
  (g1 : o1.guard = none) (g2 : o2.guard = none) (g3 : o3.guard = none)
  (ho1 : o1.op = .load ty x) (hd1 : o1.dst = some d1) (ho2 : o2.op = .alloc ty) (hd2 : o2.dst = some d2) (ho3 : o3.op = .store ty (.tmp d2) (.tmp d1)) (hd3 : o3.dst = none)
  (b o : Nat) (hx : a.eval x = .pointer (some ⟨b, o, none⟩)) (cs : List Value) (hn : cs.length = n) (hc : w.rangeAt b o cs) (h1 : ∀ v ∈ cs, v.oneCell' = true) (hne : d1 ≠ d2) (s1 : d1 < a.tmps.size) (s2 : d2 < a.tmps.size)
  (h : wpList P ops Q rest ((a.put (some d1) (.agg cs.toArray)).put (some d2) (.pointer (some ⟨w.heap.size, 0, none⟩))) (w.alloc (.cells cs.toArray ty))) : wpList P ops Q (o1 :: o2 :: o3 :: rest) a w := by
 subst hn
 obtain ⟨⟨fs, hu⟩, hi, v, hz, hzr⟩ := E
 refine wpList_load_mid g1 ty x ho1 b o hx cs _ hc hu rfl hi ?_
 rw [hd1]
 refine wpList_plain g2 fun K hK => ?_
 have hrun : (execOp (Act.eval (a.put (some d1) (.agg cs.toArray))) o2).run P w = .ok (.value (.pointer (some ⟨w.heap.size, 0, none⟩))) (w.alloc (.cells v.cells ty)) := by
  unfold execOp
  simp only [ho2, Instr.alloc, Sem.run_bind, hzr, Result.andThen_ok, newVar, newRow]
  rfl
 unfold Oper.wp
 rw [hrun, Oper.upon_value]
 refine hK _ _ ?_
 rw [hd2]
 refine wpList_store_mid g3 ty _ _ ho3 w.heap.size 0 cs.toArray ?_ ?_ ?_ (by simpa using hi) (all_oneCell_toArray h1) ?_
 ·simp [Act.eval, Act.put, s2]
 ·simp [Act.eval, Act.put, Array.getD_eq_getD_getElem?, hne.symm, s1]
 ·intro j hj
  simp only [Nat.zero_add, List.size_toArray] at hj ⊢
  rw [World.cell?_alloc_at _ _ _ _ rfl, World.frozen?_alloc_at _ _ _ _ rfl]
  simp [hz, hj]
 ·rw [hd3]
  simp only
  rw [xC9 w ty _ cs hz]
  exact h
section
variable {P : Program} {ops : Array Oper} {Q : Exit → Act → World → Prop} {a : Act} {w : World} {rest : List Oper} {o : Oper}
theorem xF8 (hw : Region.wanted o (yielded ops a.tmps) = true)
  (h : ∀ K : Act → World → Prop, (∀ a w, wpList P ops Q rest a w → K a w) → o.wp P a w K Q) : wpList P ops Q (o :: rest) a w :=
 wpList_step fun K hK => by simp only [hw, if_true]; exact h K hK
theorem xAf (hw : Region.wanted o (yielded ops a.tmps) = true) (ty : TypeId) (x : Operand) (ho : o.op = .load ty x) (g : Nat) (hx : a.eval x = .pointer (some ⟨g, 0, none⟩)) (t : TypeId) (cs : Array Value) (hg : Blk w g t cs)
  (hu : ∃ fs, P.underlying ty = some (.struct fs)) (hi : (P.info? ty).map (·.size) = some cs.size)
  (h : wpList P ops Q rest (a.put o.dst (.agg cs)) w) : wpList P ops Q (o :: rest) a w := by
 obtain ⟨fs, hu⟩ := hu
 exact xF8 hw fun K hK => wp_load_row ty x ho g hx t cs (0, 0) _ hg hu rfl hi (hK _ _ h)
end
theorem xDk (c : Con) (m : Cm) (r : Int) (w : World) : Calls Tryz.prog 94 #[.agg (coA c m), .int .i64 r] w fun e w' => e = .returned (.bool (c.mov r)) ∧ Below w.heap.size w w' := by
 go_enter Tryz.func94, Tryz.ntmps94
 go_wp2
 all_goals go_ret
 all_goals exact ⟨xAb (by first | (simp_all [Con.mov, isI]; done) | (simp_all [Con.mov, isI]; omega)), wa1 _ _⟩
theorem isIx_any (t : List Uni) (A : Option Addr) (cap : Nat) (i : Int) (w : World) : Calls Tryz.prog 116 #[.slice A t.length cap, .int .i64 i] w fun e w' => e = .returned (.bool (isI i t.length)) ∧ w' = w := by
 go_enter Tryz.func116, Tryz.ntmps116
 go_wp2
 all_goals go_ret
 all_goals exact ⟨xAb (by first | (simp_all [isI]; done) | (simp_all [isI]; omega)), rfl⟩
theorem xGk (w : World) : Calls Tryz.prog 92 #[] w fun e w' => e = .returned (.agg #[.int .i64 0, .int .i64 1]) ∧ Below w.heap.size w w' := by
 go_enter Tryz.func92, Tryz.ntmps92
 go_wp2
 refine bodyPost_ret (by simp [results, Tryz.results92, go_sem, *]; rfl) rfl ⟨?_, ?_⟩
 ·rfl
 ·(repeat (first | exact Below.refl _ _ | refine xAk ?_ _ | refine Below.drew ?_ | refine xAc ?_ _ | refine Below.setCell ?_ (by first | omega | (simp; done) | (simp; omega)) _ | refine xAa ?_ (by assumption)))
theorem xIt (a b : Int) (w : World) (ha : I64 a) (hb : I64 b) : Calls Tryz.prog 93 #[.agg #[.int .i64 a, .int .i64 b]] w fun e w' => e = .returned (.bool (psv (a, b))) ∧ Below w.heap.size w w' := by
 have HV := qzL (fun W => xG1 a b W ha.1 ha.2 hb.1 hb.2)
 clear ha hb
 by_cases h : 0 < a
 ·have t1 := qzO h
  have hp : Hid (psv (a, b) = vld a b) := by unfold Hid psv; rw [t1]; rfl
  clear h
  go_enter Tryz.func93, Tryz.ntmps93
  go_wp2_with (go_at_call 110; refine (HV.out _).mono ?_; rintro e w1 ⟨rfl, hb⟩; obtain ⟨hc, hf⟩ := bcell hb; have hz := hb.size; (try simp at hz); (have zl0 : w.heap.size < w1.heap.size := by omega); (have ze0 : w.heap.size ≤ w1.heap.size := by omega))
  go_ret
  exact ⟨xAb hp.out.symm, by (repeat (first | exact Below.refl _ _ | refine xAk ?_ _ | refine Below.drew ?_ | refine xAc ?_ _ | refine Below.setCell ?_ (by first | omega | (simp; done) | (simp; omega)) _ | refine xAa ?_ (by assumption)))⟩
 ·have t1 := qzN h
  have hp : Hid (psv (a, b) = false) := by unfold Hid psv; rw [t1]; rfl
  clear h
  go_enter Tryz.func93, Tryz.ntmps93
  go_wp2
  go_ret
  exact ⟨xAb hp.out.symm, by (repeat (first | exact Below.refl _ _ | refine xAk ?_ _ | refine Below.drew ?_ | refine xAc ?_ _ | refine Below.setCell ?_ (by first | omega | (simp; done) | (simp; omega)) _ | refine xAa ?_ (by assumption)))⟩
theorem xIx (c : Con) (m : Cm) (a : Int) (w : World) (hs : Seg w w.heap.size 7 eA m.a c.ac) : Calls Tryz.prog 91 #[.agg (coA c m), .int .i64 a] w fun e w' => e = .returned (.bool (c.nat a)) ∧ Below w.heap.size w w' := by
 by_cases hi : isI a c.ac.length = true
 ·obtain ⟨h1, h2⟩ := xB3.1 hi
  obtain ⟨k, rfl⟩ := Int.eq_ofNat_of_zero_le h1
  have hk : k < c.ac.length := by omega
  have hx := qzJ hk
  obtain ⟨x, ex⟩ : ∃ x, c.ac[k] = x := ⟨_, rfl⟩
  rw [ex] at hx
  obtain ⟨b, off, eA', hb, hc⟩ := xAv hs hx
  have d1 : (w.alloc (.cells (coA c m) 27)).cell? ⟨b, off + k * 7, none⟩ = some (.int .i64 x.kind) := ((wa1 w _).cell (p := ⟨b, off + k * 7, none⟩) hb).trans (hc 0 _ rfl)
  have d2 : (w.alloc (.cells (coA c m) 27)).cell? ⟨b, off + k * 7 + 1, none⟩ = some (.int .i64 x.role) := ((wa1 w _).cell (p := ⟨b, off + k * 7 + 1, none⟩) hb).trans (hc 1 _ rfl)
  have HR : Hid (c.nat k = (x.kind == 1 && x.role == -1)) := by
   unfold Hid Con.nat
   rw [hi]
   simp only [Int.toNat_natCast, hx, Bool.true_and]
  have t1 : decide ((0 : Int) ≤ (k : Int)) = true := qzO (by omega)
  have t2 : decide ((k : Int) < (c.ac.length : Int)) = true := qzO (by omega)
  clear hc ex hx hs hi h1 h2
  go_enter Tryz.func91, Tryz.ntmps91
  go_wp2
  all_goals go_ret
  all_goals exact ⟨xAb (by rw [HR.out]; simp_all), wa1 _ _⟩
 ·have HR : Hid (c.nat a = false) := by
   unfold Hid Con.nat
   rw [Bool.eq_false_iff.2 hi]; rfl
  have hno : a < 0 ∨ (0 ≤ a ∧ ¬ a < c.ac.length) := by
   rcases Int.lt_or_le a 0 with h | h
   ·exact .inl h
   ·exact .inr ⟨h, fun h2 => hi (xB3.2 ⟨h, h2⟩)⟩
  clear hi hs
  rcases hno with h | ⟨h, h2⟩
  ·have t1 : decide (0 ≤ a) = false := qzN (by omega)
   clear h
   go_enter Tryz.func91, Tryz.ntmps91
   go_wp2
   go_ret
   exact ⟨xAb HR.out.symm, wa1 _ _⟩
  ·have t1 := qzO h
   have t2 := qzN h2
   clear h h2
   go_enter Tryz.func91, Tryz.ntmps91
   go_wp2
   go_ret
   exact ⟨xAb HR.out.symm, wa1 _ _⟩
abbrev kA (x : Km) : Array Value := #[.int .i64 x.k.kind, .int .i64 x.k.role, .int .i64 x.k.act, .int .i64 x.k.need, .slice x.A x.k.start.length x.cap, .int .i64 x.k.aft, .int .i64 x.k.grace, .bool x.k.bus, .bool x.k.fin, .int .i64 x.k.pause, .int .i64 x.k.resume, .int .i64 x.k.v.1, .int .i64 x.k.v.2, .int .i64 x.k.unit, .int .i64 x.k.to_, .bool x.k.waived]
theorem kind_key (c : Con) (m : Cm) (x : Km) (mv nt : Bool) (w : World) (HM : Hid (∀ W, Calls Tryz.prog 94 #[.agg (coA c m), .int .i64 x.k.role] W fun e w' => e = .returned (.bool mv) ∧ Below W.heap.size W w')) (HN : Hid (∀ W, Below w.heap.size w W → Calls Tryz.prog 91 #[.agg (coA c m), .int .i64 x.k.act] W fun e w' => e = .returned (.bool nt) ∧ Below W.heap.size W w'))
  (R : Bool) (hR : Hid (R = if x.k.kind == 4 then x.k.role == -1 && x.k.need == 1 && x.k.grace == 0 && !x.k.fin else mv && !nt && (
   if x.k.kind == 1 then decide (1 ≤ x.k.need) && decide (x.k.need ≤ 9) && decide (0 ≤ x.k.grace) && decide (x.k.grace ≤ 400)
   else if x.k.kind == 2 then x.k.need == 1 && x.k.grace == 0
   else x.k.kind == 3 && x.k.need == 1 && x.k.grace == 0 && !x.k.fin))) :
  Calls Tryz.prog 90 #[.agg (coA c m), .agg (kA x)] w fun e w' => e = .returned (.bool R) ∧ Below w.heap.size w w' := by
 cases mv <;> cases nt
 all_goals
  go_enter Tryz.func90, Tryz.ntmps90
  go_wp2_with (first | (go_at_call 94; refine (HM.out _).mono ?_; rintro e w1 ⟨rfl, hb⟩; obtain ⟨hc, hf⟩ := bcell hb; have hz := hb.size; (try simp at hz); (have zl0 : w.heap.size < w1.heap.size := by omega); (have ze0 : w.heap.size ≤ w1.heap.size := by omega); (have zl1 : w.heap.size + 1 < w1.heap.size := by omega); (have ze1 : w.heap.size + 1 ≤ w1.heap.size := by omega)) | (go_at_call 91; refine (HN.out _ (by (repeat (first | exact Below.refl _ _ | refine xAk ?_ _ | refine Below.drew ?_ | refine xAc ?_ _ | refine Below.setCell ?_ (by first | omega | (simp; done) | (simp; omega)) _ | refine xAa ?_ (by assumption))))).mono ?_; rintro e w1 ⟨rfl, hb⟩; obtain ⟨hc, hf⟩ := bcell hb; have hz := hb.size; (try simp at hz); (have zl0 : w.heap.size < w1.heap.size := by omega); (have ze0 : w.heap.size ≤ w1.heap.size := by omega); (have zl1 : w.heap.size + 1 < w1.heap.size := by omega); (have ze1 : w.heap.size + 1 ≤ w1.heap.size := by omega)))
  all_goals go_ret
  all_goals exact ⟨xAb (by rw [hR.out]; first | (simp_all; done) | (simp_all; omega)), by (repeat (first | exact Below.refl _ _ | refine xAk ?_ _ | refine Below.drew ?_ | refine xAc ?_ _ | refine Below.setCell ?_ (by first | omega | (simp; done) | (simp; omega)) _ | refine xAa ?_ (by assumption)))⟩
open Go.Sort
def xCs (Q : Exit → Act → World → Prop) : Prop := ∀ c (a a' : Act) w, a'.defers = a.defers → Q (.panic c) a w → Q (.panic c) a' w
theorem panOk_body {P : Program} {fn : Func} {R : Ending → World → Prop} : xCs (bodyPost P fn R) := fun _ _ _ _ hd h => ⟨hd.trans h.1, h.2⟩
class PanC (Q : Exit → Act → World → Prop) : Prop where
 o : xCs Q
theorem pO {Q : Exit → Act → World → Prop} [h : PanC Q] : xCs Q := h.o
instance panC_body {P : Program} {fn : Func} {R : Ending → World → Prop} : PanC (bodyPost P fn R) := ⟨panOk_body⟩
theorem cR {w : World} {a : Addr} {v : Value} (h : w.cell? a = some v) (d : Nat) (os : Array Obj) : (grow (redrawn w d) os).cell? a = some v := Go.cell_regrown h d os
theorem panOk_then {K : Act → World → Prop} {Q : Exit → Act → World → Prop} (h : xCs Q) : xCs (Exit.then K Q) := fun c a a' w hd hq => h c a a' w hd hq
instance panC_then {K : Act → World → Prop} {Q : Exit → Act → World → Prop} [h : PanC Q] : PanC (Exit.then K Q) := ⟨panOk_then h.o⟩
theorem xIw {id : Nat} {Q : Exit → Act → World → Prop} (h : xCs Q) : xCs (Exit.inBlock id Q) := fun c a a' w hd hq => h c a a' w hd hq
instance panC_block {id : Nat} {Q : Exit → Act → World → Prop} [h : PanC Q] : PanC (Exit.inBlock id Q) := ⟨xIw h.o⟩
section
variable {P : Program} {ops : Array Oper} {md : Region.Mode} {C : World → Prop} {n : Nat}
def anc (md : Region.Mode) (ops : Array Oper) : Nat → Nat → Nat → Bool
 | 0, t, i => Region.waitsFor md ops t i
 | f + 1, t, i => Region.waitsFor md ops t i || (List.range ops.size).any fun j => Region.waitsFor md ops t j && anc md ops f j i
def Cl (md : Region.Mode) (ops : Array Oper) (listed : Array Bool) : Prop :=
 ∀ j oj, ops[j]? = some oj → listed.getD j false = true → ∀ e ∈ oj.after, Region.binds md e = true → listed.getD e.on false = true
theorem Cl.set {i : Nat} {listed : Array Bool} (h : Cl md ops listed) (hi : i ∈ Region.ready md ops listed) : Cl md ops (listed.setIfInBounds i true) := by
 obtain ⟨_, oi, hoi, hall⟩ := mem_ready.1 hi
 intro j oj hj hl e he hb
 by_cases hij : i = j
 ·subst hij
  obtain rfl : oj = oi := Option.some.inj (hj.symm.trans hoi)
  exact getD_set_true (hall e he hb)
 ·rw [getD_set_ne false hij] at hl
  exact getD_set_true (h j oj hj hl e he hb)
theorem xC6 {listed : Array Bool} (h : Cl md ops listed) : ∀ (f t i : Nat) (ot : Oper), ops[t]? = some ot → (∀ e ∈ ot.after, Region.binds md e = true → listed.getD e.on false = true) → anc md ops f t i = true → listed.getD i false = true
 | 0, t, i, ot, hot, hall, ha => by
  obtain ⟨o', ho', e, he, hb, hon⟩ := Region.waitsFor_spec ha
  obtain rfl : o' = ot := Option.some.inj (ho'.symm.trans hot)
  rw [← hon]; exact hall e he hb
 | f + 1, t, i, ot, hot, hall, ha => by
  simp only [anc, Bool.or_eq_true] at ha
  rcases ha with ha | ha
  ·exact xC6 h 0 t i ot hot hall ha
  ·obtain ⟨j, hj, hj2⟩ := List.any_eq_true.1 ha
   simp only [Bool.and_eq_true] at hj2
   obtain ⟨o', ho', e, he, hb, hon⟩ := Region.waitsFor_spec hj2.1
   obtain rfl : o' = ot := Option.some.inj (ho'.symm.trans hot)
   have hl := hall e he hb
   rw [hon] at hl
   have hjs : j < ops.size := List.mem_range.1 hj
   exact xC6 h f j i _ (Array.getElem?_eq_getElem hjs) (h j _ (Array.getElem?_eq_getElem hjs) hl) hj2.2
def dirB (md : Region.Mode) (ops : Array Oper) (hs : List Nat) : Bool :=
 (List.range ops.size).all fun t => hs.contains t || hs.all fun i => anc md ops ops.size t i
theorem xE6 {hs : List Nat} {t i : Nat} {listed : Array Bool} (h : dirB md ops hs = true) (hcl : Cl md ops listed) (ht : hs.contains t = false) (hi : i ∈ hs) (hu : listed.getD i true = false) : t ∉ Region.ready md ops listed := by
 intro hr
 obtain ⟨_, ot, hot, hall⟩ := mem_ready.1 hr
 have h1 := List.all_eq_true.1 h t (List.mem_range.2 (Array.getElem?_eq_some_iff.1 hot).1)
 rw [ht, Bool.false_or] at h1
 have h2 := List.all_eq_true.1 h1 i hi
 have h3 := xC6 hcl ops.size t i ot hot hall h2
 rw [getD_both hu] at h3
 cases h3
def pureAt (ops : Array Oper) (k : Nat) : Bool :=
 match ops[k]? with
 | some o => o.guard.isNone && match o.op with | .move _ => true | .extract _ _ => true | _ => false
 | none => false
def pureG (ops : Array Oper) (k : Nat) : Bool :=
 match ops[k]? with
 | some o => match o.op with | .move _ => true | .extract _ _ => true | _ => false
 | none => false
theorem xFn {o : Oper} {ρ : Operand → Value} (h : (match o.op with | .move _ => true | .extract _ _ => true | _ => false) = true) :
  (∃ v, execOp ρ o = .pure (.value v)) ∨ (∃ x, execOp ρ o = .halt (.stuck x)) := by
 unfold execOp
 split at h
 ·rename_i x ho
  rw [ho]; exact .inl ⟨_, rfl⟩
 ·rename_i x ix ho
  rw [ho]
  simp only [Instr.extract]
  split
  ·rename_i vs _
   cases hv : vs[ix]? with
   | some v => exact .inl ⟨v, rfl⟩
   | none => exact .inr ⟨_, rfl⟩
  ·exact .inr ⟨_, rfl⟩
 ·cases h
def xAn (ops : Array Oper) : List Nat → List Oper
 | [] => []
 | k :: ks => (ops[k]?).toList ++ xAn ops ks
def tlB (md : Region.Mode) (ops : Array Oper) : List Nat → Array Bool → Bool
 | [], listed => (Region.ready md ops listed).isEmpty
 | k :: ks, listed => (ops[k]?).isSome && (decide (Region.ready md ops listed = [k]) || (pureG ops k && (Region.ready md ops listed).contains k && Region.free md ops listed k)) && tlB md ops ks (listed.setIfInBounds k true)
theorem xCd {k : Nat} {ks : List Nat} {o : Oper} (h : ops[k]? = some o) : xAn ops (k :: ks) = o :: xAn ops ks := by simp [xAn, h]
theorem xBu {Q : Exit → Act → World → Prop} (hs : Region.noSelect ops = true) (hQ : xCs Q) : ∀ (ks : List Nat) (listed : Array Bool) (a : Act) (w : World),
  tlB md ops ks listed = true → wpList P ops Q (xAn ops ks) a w → wpAny P md ops Q ks.length listed a w
 | [], listed, a, w, hB, h => ⟨by simpa [tlB] using hB, h⟩
 | k :: ks, listed, a, w, hB, h => by
  simp only [tlB, Bool.and_eq_true, Bool.or_eq_true, decide_eq_true_eq] at hB
  obtain ⟨⟨hsm, hB1⟩, hB2⟩ := hB
  obtain ⟨o, h0⟩ := Option.isSome_iff_exists.1 hsm
  rw [xCd h0] at h
  have plain : Region.ready md ops listed = [k] → wpAny P md ops Q (ks.length + 1) listed a w := fun hr => by
   refine ⟨fun h1 => (by rw [hr] at h1; cases h1), fun i hi => ?_⟩
   rw [hr] at hi
   obtain rfl : i = k := by simpa using hi
   have hw : wpOp P ops Q i (wpList P ops Q (xAn ops ks)) a w := by unfold wpOp; simp only [h0]; exact h
   exact wpOp_mono (fun a' w' h' => xBu hs hQ ks _ a' w' hB2 h') hw
  rcases hB1 with hr | ⟨⟨hp, hr⟩, hf⟩
  ·exact plain hr
  ·unfold pureG at hp
   simp only [h0] at hp
   unfold wpList at h
   by_cases hw : Region.wanted o (yielded ops a.tmps) = true
   case neg =>
    rw [if_neg hw] at h
    have hy : Yields P ops o undef a := .inr ⟨by simpa using hw, rfl⟩
    exact wpAny_first h0 (Region.noSelect_spec hs) (fun c a' w' hq => hQ c _ _ w' (by cases o.dst <;> rfl) hq) ks.length listed a w (Region.free_spec h0 hf) (by simpa using hr) hy (xBu hs hQ ks _ _ w hB2 h)
   rw [if_pos hw] at h
   rcases xFn (ρ := a.eval) hp with ⟨v, hv⟩ | ⟨x, hx⟩
   ·have hy : Yields P ops o v a := .inl ⟨hw, fun w' => by rw [hv]; rfl⟩
    have h3 : wpList P ops Q (xAn ops ks) (a.put o.dst v) w := by
     rcases h with h | h
     ·unfold Oper.wp at h; rw [hv] at h; exact h
     ·obtain ⟨⟨hm, _⟩, _⟩ := h
      rw [hv] at hm
      simp [Sem.runT] at hm
    exact wpAny_first h0 (Region.noSelect_spec hs) (fun c a' w' hq => hQ c _ _ w' (by cases o.dst <;> rfl) hq) ks.length listed a w (Region.free_spec h0 hf) (by simpa using hr) hy (xBu hs hQ ks _ _ w hB2 h3)
   ·exfalso
    rcases h with h | h
    ·unfold Oper.wp at h; rw [hx] at h; exact h
    ·obtain ⟨⟨hm, _⟩, _⟩ := h
     rw [hx] at hm
     simp [Sem.runT] at hm
def overB (md : Region.Mode) (ops : Array Oper) (hs : List Nat) (listed : Array Bool) : Bool := (Region.ready md ops listed).all fun j => !hs.contains j
def hdQ (P : Program) (md : Region.Mode) (ops : Array Oper) (C : World → Prop) (hs ts : List Nat) (L : Act → Prop) : Nat → Array Bool → Act → Prop
 | 0, listed, a => (overB md ops hs listed = true ∧ tlB md ops ts listed = true) ∧ L a
 | f + 1, listed, a => Region.ready md ops listed ≠ [] ∧ ∀ i ∈ Region.ready md ops listed, hs.contains i = true ∧ qOp P ops C i (hdQ P md ops C hs ts L f (listed.setIfInBounds i true)) a
theorem xCu {hs ts : List Nat} {L : Act → Prop} {g : Nat} {Q' : Exit → Act → World → Prop} (hL : ∀ listed a w, C w → tlB md ops ts listed = true → L a → wpAny P md ops Q' g listed a w) :
  ∀ (f : Nat) (listed : Array Bool) (a : Act) (w : World), C w → hdQ P md ops C hs ts L f listed a → wpAny P md ops Q' (f + g) listed a w
 | 0, listed, a, w, hw, h => by rw [Nat.zero_add]; exact hL _ _ _ hw h.1.2 h.2
 | f + 1, listed, a, w, hw, h => by
  rw [show f + 1 + g = (f + g) + 1 by omega]
  exact ⟨fun h0 => absurd h0 h.1, fun i hi => wpOp_of_qOp hw (fun a' w' hw' h' => xCu hL f _ a' w' hw' h') (h.2 i hi).2⟩
theorem hdQ_first {hs ts : List Nat} {L : Act → Prop} {i : Nat} {oi : Oper} {v : Value} (hi : ops[i]? = some oi) (hsel : ∀ (j : Nat) (o : Oper) cs b, ops[j]? = some o → o.op ≠ .select cs b) (hd : dirB md ops hs = true) (hin : i ∈ hs) :
  ∀ (f : Nat) (listed : Array Bool) (a : Act), Cl md ops listed →
   (∀ j oj, ops[j]? = some oj → j ≠ i → listed.getD j true = false → (∀ e ∈ oj.after, Region.binds md e = true → e.on ≠ i) → oi.apart ops oj = true) →
   i ∈ Region.ready md ops listed → YieldsIn P ops C oi v a → hdQ P md ops C hs ts L f (listed.setIfInBounds i true) (a.put oi.dst v) → hdQ P md ops C hs ts L (f + 1) listed a := by
 intro f
 induction f with
 | zero =>
  intro listed a hcl _ hr hy H
  have hun := (mem_ready.1 hr).1
  refine ⟨fun h => (by rw [h] at hr; cases hr), fun j hj => ?_⟩
  have hjn : hs.contains j = true := by
   cases hc : hs.contains j with
   | true => rfl
   | false => exact absurd hj (xE6 hd hcl hc hin hun)
  refine ⟨hjn, ?_⟩
  by_cases hji : j = i
  ·subst hji; exact hy.qOp hi H
  ·have h5 := List.all_eq_true.1 H.1.1 j (ready_mono hj hji)
   rw [hjn] at h5
   cases h5
 | succ f ih =>
  intro listed a hcl hfree hr hy H
  have hun := (mem_ready.1 hr).1
  refine ⟨fun h => (by rw [h] at hr; cases hr), fun j hj => ?_⟩
  have hjn : hs.contains j = true := by
   cases hc : hs.contains j with
   | true => rfl
   | false => exact absurd hj (xE6 hd hcl hc hin hun)
  refine ⟨hjn, ?_⟩
  by_cases hji : j = i
  ·subst hji; exact hy.qOp hi H
  ·have h1 := (H.2 j (ready_mono hj hji)).2
   obtain ⟨hjun, oj, hoj, hall⟩ := mem_ready.1 hj
   have hnot : ∀ e ∈ oj.after, Region.binds md e = true → e.on ≠ i := fun e he hb heq => by
    have h3 := hall e he hb
    rw [heq, getD_both hun] at h3
    cases h3
   have h2 := qOp_put hoj (hfree j oj hoj hji hjun hnot) (fun cs b => hsel i oi cs b hi) (fun cs b => hsel j oj cs b hoj) hy h1
   refine qOp_mono (fun a' h3 => ih (listed.setIfInBounds j true) a' (hcl.set hj) (fun k ok hk hki hku hno => hfree k ok hk hki ?_ hno) (ready_mono hr (Ne.symm hji)) h3.1 ?_) h2
   ·by_cases hjk : j = k
    ·subst hjk; exact hjun
    ·rwa [getD_set_ne true hjk] at hku
   ·rw [Array.setIfInBounds_comm _ _ hji]
    exact h3.2
def xGp (md : Region.Mode) (ops : Array Oper) (hs ts : List Nat) : List Nat → Array Bool → Bool
 | [], listed => overB md ops hs listed && tlB md ops ts listed
 | k :: ks, listed => (ops[k]?).isSome && hs.contains k && (Region.ready md ops listed).contains k && Region.free md ops listed k && xGp md ops hs ts ks (listed.setIfInBounds k true)
theorem hdQ_lex {hs ts : List Nat} {L : Act → Prop} (hsel : Region.noSelect ops = true) (hd : dirB md ops hs = true) : ∀ (ks : List Nat) (listed : Array Bool) (a : Act), Cl md ops listed →
  xGp md ops hs ts ks listed = true → wpQuiet P ops C L (xAn ops ks) a → hdQ P md ops C hs ts L ks.length listed a
 | [], listed, a, _, hB, h => ⟨by simpa [xGp] using hB, h⟩
 | k :: ks, listed, a, hcl, hB, h => by
  simp only [xGp, Bool.and_eq_true] at hB
  obtain ⟨⟨⟨⟨hsm, hk⟩, hr⟩, hf⟩, hB'⟩ := hB
  obtain ⟨o, h0⟩ := Option.isSome_iff_exists.1 hsm
  rw [xCd h0] at h
  have hr' : k ∈ Region.ready md ops listed := by simpa using hr
  have hst : qOp P ops C k (wpQuiet P ops C L (xAn ops ks)) a := by unfold qOp; simp only [h0]; exact h
  obtain ⟨v, hy, hK⟩ := yieldsIn_of_qOp h0 hst
  exact hdQ_first h0 (Region.noSelect_spec hsel) hd (by simpa using hk) ks.length listed a hcl (Region.free_spec h0 hf) hr' hy (hdQ_lex hsel hd ks _ _ (hcl.set hr') hB' hK)
def tailB (ops : Array Oper) (hs ts : List Nat) : Bool :=
 Region.noSelect ops && decide (hs.length + ts.length = ops.size) && dirB .any ops hs && xGp .any ops hs ts hs (Array.replicate ops.size false)
theorem xAg {id : Nat} {Q : Exit → Act → World → Prop} {a : Act} {w : World} {l : List Oper} (hs ts : List Nat) (hm : P.follows .mixedOrders = true) (hB : tailB l.toArray hs ts = true) (hQ : xCs Q)
  (h : wpQuiet P l.toArray (fun w' => ∃ p : Regrown, w' = grow (redrawn w p.d) p.os) (fun a' => ∀ w', (∃ p : Regrown, w' = grow (redrawn w p.d) p.os) → wpList P l.toArray Q (xAn l.toArray ts) a' w') (xAn l.toArray hs) a) :
  (Code.region id l.toArray true).wp P Q a w := by
 simp only [tailB, Bool.and_eq_true, decide_eq_true_eq] at hB
 obtain ⟨⟨⟨hsel, hn⟩, hd⟩, hlex⟩ := hB
 have H := hdQ_lex (md := .any) hsel hd hs _ a (fun j oj _ hl => by rw [getD_replicate_false] at hl; cases hl) hlex h
 refine wp_region_any hm ?_
 have := xCu (Q' := Q) (g := ts.length) (fun listed a' w' hC hs hL => xBu (md := .any) (Q := Q) hsel hQ ts listed a' w' hs (hL w' hC)) _ _ _ _
  (show ∃ p : Regrown, { w with drawn := w.drawn + 1 } = grow (redrawn w p.d) p.os from ⟨⟨w.drawn + 1, #[]⟩, by rw [grow_empty]; rfl⟩) H
 rwa [hn] at this
end
theorem xAq {P : Program} {f : FuncId} {args : Array Value} {w : World} {v : Value} (h : ∀ W, Below w.heap.size w W → Calls P f args W fun e w' => e = .returned v ∧ Below W.heap.size W w') (d : Nat) (os : Array Obj) :
  Calls P f args (grow (redrawn w d) os) fun e w'' => e = .returned v ∧ ∃ p : Regrown, w'' = grow (redrawn w p.d) p.os := Calls.regrown_of (h _ (below_regrown w d os))
theorem xAj {w w' : World} (h : ∃ p : Regrown, w' = grow (redrawn w p.d) p.os) : Below w.heap.size w w' := by
 obtain ⟨p, rfl⟩ := h; exact below_regrown w p.d p.os
end Go.Proofs.YtffceokjeonpcaaGreatDoor
namespace Go.Proofs.YtffceokjeonpcaaGreatDoor
open Go.RowKit
theorem xAi {P : Program} {c : Code} {Q : Exit → Act → World → Prop} {a : Act} {w : World} (h : ∀ w', w' = w → c.wp P Q a w') : c.wp P Q a w := h w rfl
theorem xA0 {w : World} {n : Nat} {T : TypeId} {cs : Array Value} (h : n = w.heap.size) : Blk (w.alloc (.cells cs T)) n T cs := h ▸ Blk.new w T cs
theorem eqv2 (a b c d : Int) (w : World) : (Op.equalIn 10000 90 (.agg #[.int .i64 a, .int .i64 b]) (.agg #[.int .i64 c, .int .i64 d])).run Tryz.prog w = .ok (decide (a = c ∧ b = d)) w := by
 have e : (Tryz.prog.fieldsOf 90).toList = [{ name := "Num", type := 3, offset := 0, embedded := false, tag := "", pkgPath := "", byteOffset := 0 }, { name := "Den", type := 3, offset := 1, embedded := false, tag := "", pkgPath := "", byteOffset := 8 }] := by kernel_rfl
 have p1 : (part 3 #[.int .i64 a, .int .i64 b] 0).run Tryz.prog w = .ok (.int .i64 a) w := by kernel_rfl
 have p2 : (part 3 #[.int .i64 a, .int .i64 b] 1).run Tryz.prog w = .ok (.int .i64 b) w := by kernel_rfl
 have p3 : (part 3 #[.int .i64 c, .int .i64 d] 0).run Tryz.prog w = .ok (.int .i64 c) w := by kernel_rfl
 have p4 : (part 3 #[.int .i64 c, .int .i64 d] 1).run Tryz.prog w = .ok (.int .i64 d) w := by kernel_rfl
 have u := Tryz.underlying3
 show (Op.equalIn (9998 + 1 + 1) _ _ _).run _ _ = _
 rw [run_equalIn_agg w (9998 + 1) 90 _ _ (by kernel_rfl) (by kernel_rfl), e]
 simp only [Op.eqFields, Sem.run_bind, p1, p2, p3, p4, Result.andThen_ok, run_equalIn_int w 9998 3 .i64 .i64 _ _ u, ne_eq, Sem.run_ite, Sem.run_pure]
 by_cases h1 : a = c <;> by_cases h2 : b = d <;> simp [h1, h2]
theorem xAp {t : TypeId} {size : Nat} {A : Option Addr} {b0 o0 len cap k : Nat} (eA : A = some ⟨b0, o0, none⟩) (hk : k < len) (ht : Tryz.prog.underlying t = some (.slice (Tryz.prog.elem t))) (hs : ∀ W : World, (sizeOf (Tryz.prog.elem t)).run Tryz.prog W = .ok size W) (W : World) :
  (Instr.indexAt t (.slice A len cap) (.int .i64 (k : Nat))).run Tryz.prog W = .ok (.pointer (some ⟨b0, o0 + k * size, none⟩)) W := by
 rw [eA, run_indexAt_slice W t _ len cap .i64 k ht, if_pos ⟨by omega, by omega⟩, hs]
 simp [Addr.add]
abbrev aA (x : Atc) : Array Value := #[.int .i64 x.kind, .int .i64 x.role, .int .i64 x.give, .int .i64 x.to_, .int .i64 x.unit, .int .i64 x.lot.1, .int .i64 x.lot.2]
theorem act_nat (c : Con) (m : Cm) (x : Atc) (m1 m2 m3 ps : Bool) (w : World)
  (HM1 : Hid (∀ W, Calls Tryz.prog 94 #[.agg (coA c m), .int .i64 x.role] W fun e w' => e = .returned (.bool m1) ∧ Below W.heap.size W w')) (HM2 : Hid (∀ W, Calls Tryz.prog 94 #[.agg (coA c m), .int .i64 x.to_] W fun e w' => e = .returned (.bool m2) ∧ Below W.heap.size W w')) (_HM3 : Hid (∀ W, Calls Tryz.prog 94 #[.agg (coA c m), .int .i64 x.give] W fun e w' => e = .returned (.bool m3) ∧ Below W.heap.size W w'))
  (HN : Hid (∀ W, Calls Tryz.prog 92 #[] W fun e w' => e = .returned (.agg #[.int .i64 0, .int .i64 1]) ∧ Below W.heap.size W w')) (_HP : Hid (∀ W, Calls Tryz.prog 93 #[.agg #[.int .i64 x.lot.1, .int .i64 x.lot.2]] W fun e w' => e = .returned (.bool ps) ∧ Below W.heap.size W w'))
  (h1 : m1 = false) :
  Calls Tryz.prog 89 #[.agg (coA c m), .agg (aA x)] w fun e w' => e = .returned (.bool (x.kind == 1 && x.role == -1 && x.give == 0 && (x.to_ == -1 || m2) && x.unit == -1 && zer x.lot)) ∧ Below w.heap.size w w' := by
 subst h1
 obtain ⟨R, hR⟩ : ∃ R, (x.kind == 1 && x.role == -1 && x.give == 0 && (x.to_ == -1 || m2) && x.unit == -1 && zer x.lot) = R := ⟨_, rfl⟩
 rw [hR]
 have HR := qzL hR
 clear hR
 go_enter Tryz.func89, Tryz.ntmps89
 go_upto_region 1 with (fail)
 refine xAi ?_
 intro X0 hX
 have ga : Blk X0 (w.heap.size) 27 #[.int .i64 c.par, .slice m.h c.hold.length m.hc, .slice m.u c.un.length m.uc, .slice m.a c.ac.length m.ac, .slice m.k c.cl.length m.kc, .int .i64 c.days, .slice m.o c.off.length m.oc] := by rw [hX]; exact ((xA0 (by simp))).alloc _
 have gb : Blk X0 (w.heap.size + 1) 92 #[.int .i64 x.kind, .int .i64 x.role, .int .i64 x.give, .int .i64 x.to_, .int .i64 x.unit, .int .i64 x.lot.1, .int .i64 x.lot.2] := by rw [hX]; exact (xA0 (by simp))
 have HB : Below w.heap.size w X0 := by rw [hX]; (repeat (first | exact Below.refl _ _ | refine xAc ?_ _))
 clear hX
 obtain ⟨bb, eb⟩ : ∃ b, w.heap.size + 1 = b := ⟨_, rfl⟩
 rw [eb] at gb ⊢
 clear eb
 obtain ⟨ba, eb⟩ : ∃ b, w.heap.size = b := ⟨_, rfl⟩
 rw [eb] at ga ⊢
 clear eb
 have hz := Below.refl X0.heap.size X0
 obtain ⟨ca0, ca1, ca2, ca3, ca4, ca5, ca6⟩ := coC (c := c) (m := m) (ga) rfl
 obtain ⟨cb0, cb1, cb2, cb3, cb4, cb5, cb6⟩ := atC (c := x) (gb) rfl
 go_upto_region 2 with ((go_at_call 94; (with_reducible refine (HM1.out _).mono ?_); rintro e w1 ⟨rfl, hbw1⟩; obtain ⟨k1a0, k1a1, k1a2, k1a3, k1a4, k1a5, k1a6⟩ := coC (c := c) (m := m) ((ga.then_ hbw1)) rfl; obtain ⟨k1b0, k1b1, k1b2, k1b3, k1b4, k1b5, k1b6⟩ := atC (c := x) ((gb.then_ hbw1)) rfl))
 clear HM1 _HM3 _HP
 clear ca0 ca1 ca2 ca3 ca4 ca5 ca6 cb0 cb1 cb2 cb3 cb4 cb5 cb6
 try clear k1a0 k1a1 k1b0 k1b1
 refine xAi ?_
 intro X1 hX
 have na : Blk X1 ba 27 #[.int .i64 c.par, .slice m.h c.hold.length m.hc, .slice m.u c.un.length m.uc, .slice m.a c.ac.length m.ac, .slice m.k c.cl.length m.kc, .int .i64 c.days, .slice m.o c.off.length m.oc] := by rw [hX]; (repeat with_reducible first | assumption | exact Blk.new _ _ _ | refine Blk.drew ?_ | refine Blk.alloc ?_ _ | refine Blk.drewN ?_ _ | apply Blk.setT0 | apply Blk.setT1 | refine Blk.far ?_ (by first | (simp; done) | omega | (simp; omega)) _ | refine Blk.then_ ?_ (by assumption))
 have nb : Blk X1 bb 92 #[.int .i64 x.kind, .int .i64 x.role, .int .i64 x.give, .int .i64 x.to_, .int .i64 x.unit, .int .i64 x.lot.1, .int .i64 x.lot.2] := by rw [hX]; (repeat with_reducible first | assumption | exact Blk.new _ _ _ | refine Blk.drew ?_ | refine Blk.alloc ?_ _ | refine Blk.drewN ?_ _ | apply Blk.setT0 | apply Blk.setT1 | refine Blk.far ?_ (by first | (simp; done) | omega | (simp; omega)) _ | refine Blk.then_ ?_ (by assumption))
 have NB : Below w.heap.size w X1 := by rw [hX]; (repeat (first | (with_reducible first | assumption | exact Below.refl _ _ | refine xAk ?_ _ | refine Below.drew ?_ | refine xAc ?_ _ | refine Below.setCell ?_ (by first | omega | (simp; done) | (simp; omega)) _ | refine xAa ?_ (by assumption)) | (refine xAa (a := World.drew _) ?_ (by with_reducible assumption))))
 clear hX ga gb HB
 have ga := na
 clear na
 have gb := nb
 clear nb
 have HB := NB
 clear NB
 have hz := Below.refl X1.heap.size X1
 cases q1 : (x.kind == 1) with
 | false =>
  have hlot := fun W => eqv2 x.lot.1 x.lot.2 0 1 W
  obtain ⟨ca0, ca1, ca2, ca3, ca4, ca5, ca6⟩ := coC (c := c) (m := m) (ga) rfl
  obtain ⟨cb0, cb1, cb2, cb3, cb4, cb5, cb6⟩ := atC (c := x) (gb) rfl
  have rg0 := cR ca0
  have rg1 := cR ca1
  have rg2 := cR ca2
  have rg3 := cR ca3
  have rg4 := cR ca4
  have rg5 := cR ca5
  have rg6 := cR ca6
  have rg7 := cR cb0
  have rg8 := cR cb1
  have rg9 := cR cb2
  have rg10 := cR cb3
  have rg11 := cR cb4
  have rg12 := cR cb5
  have rg13 := cR cb6
  refine xAg [0, 1, 2, 3, 4, 5, 6, 7, 8, 9, 10, 11, 12, 13, 14, 15, 16, 17, 18, 19, 20, 21, 22, 23, 24, 25, 26, 27, 28, 29, 30, 31, 32, 33, 34] [35] (by kernel_rfl) (by kernel_rfl) pO ?_
  simp only [xAn, qzA, qzB, qzC, qzD, qzE, qzF]
  repeat (go_big_quiet_step ((first | (go_at_call 94; with_reducible exact xAq (fun W' _ => HM2.out W') _ _) | (go_at_call 92; exact xAq (fun W' _ => HN.out W') _ _))))
  refine wpQuiet_nil ?_
  intro Z hw2
  have hbZ := xAj hw2
  clear hw2 rg0 rg1 rg2 rg3 rg4 rg5 rg6 rg7 rg8 rg9 rg10 rg11 rg12 rg13
  clear ca0 ca1 ca2 ca3 ca4 ca5 ca6 cb0 cb1 cb2 cb3 cb4 cb5 cb6
  go_wp2
  go_ret
  exact ⟨xAb (by rw [← HR.out]; first | rfl | (simp [*]; done) | (simp [*, zer]; done) | (simp_all [zer]; done) | (rw [Bool.eq_iff_iff]; simp [*, zer]; done) | (rw [Bool.eq_iff_iff]; simp_all [zer]; done)), xAa HB hbZ⟩
 | true =>
  cases q2 : (x.role == -1) with
  | false =>
   have hlot := fun W => eqv2 x.lot.1 x.lot.2 0 1 W
   obtain ⟨ca0, ca1, ca2, ca3, ca4, ca5, ca6⟩ := coC (c := c) (m := m) (ga) rfl
   obtain ⟨cb0, cb1, cb2, cb3, cb4, cb5, cb6⟩ := atC (c := x) (gb) rfl
   have rg0 := cR ca0
   have rg1 := cR ca1
   have rg2 := cR ca2
   have rg3 := cR ca3
   have rg4 := cR ca4
   have rg5 := cR ca5
   have rg6 := cR ca6
   have rg7 := cR cb0
   have rg8 := cR cb1
   have rg9 := cR cb2
   have rg10 := cR cb3
   have rg11 := cR cb4
   have rg12 := cR cb5
   have rg13 := cR cb6
   refine xAg [0, 1, 2, 3, 4, 5, 6, 7, 8, 9, 10, 11, 12, 13, 14, 15, 16, 17, 18, 19, 20, 21, 22, 23, 24, 25, 26, 27, 28, 29, 30, 31, 32, 33, 34] [35] (by kernel_rfl) (by kernel_rfl) pO ?_
   simp only [xAn, qzA, qzB, qzC, qzD, qzE, qzF]
   repeat (go_big_quiet_step ((first | (go_at_call 94; with_reducible exact xAq (fun W' _ => HM2.out W') _ _) | (go_at_call 92; exact xAq (fun W' _ => HN.out W') _ _))))
   refine wpQuiet_nil ?_
   intro Z hw2
   have hbZ := xAj hw2
   clear hw2 rg0 rg1 rg2 rg3 rg4 rg5 rg6 rg7 rg8 rg9 rg10 rg11 rg12 rg13
   clear ca0 ca1 ca2 ca3 ca4 ca5 ca6 cb0 cb1 cb2 cb3 cb4 cb5 cb6
   go_wp2
   go_ret
   exact ⟨xAb (by rw [← HR.out]; first | rfl | (simp [*]; done) | (simp [*, zer]; done) | (simp_all [zer]; done) | (rw [Bool.eq_iff_iff]; simp [*, zer]; done) | (rw [Bool.eq_iff_iff]; simp_all [zer]; done)), xAa HB hbZ⟩
  | true =>
   cases q3 : (x.give == 0) with
   | false =>
    have hlot := fun W => eqv2 x.lot.1 x.lot.2 0 1 W
    obtain ⟨ca0, ca1, ca2, ca3, ca4, ca5, ca6⟩ := coC (c := c) (m := m) (ga) rfl
    obtain ⟨cb0, cb1, cb2, cb3, cb4, cb5, cb6⟩ := atC (c := x) (gb) rfl
    have rg0 := cR ca0
    have rg1 := cR ca1
    have rg2 := cR ca2
    have rg3 := cR ca3
    have rg4 := cR ca4
    have rg5 := cR ca5
    have rg6 := cR ca6
    have rg7 := cR cb0
    have rg8 := cR cb1
    have rg9 := cR cb2
    have rg10 := cR cb3
    have rg11 := cR cb4
    have rg12 := cR cb5
    have rg13 := cR cb6
    refine xAg [0, 1, 2, 3, 4, 5, 6, 7, 8, 9, 10, 11, 12, 13, 14, 15, 16, 17, 18, 19, 20, 21, 22, 23, 24, 25, 26, 27, 28, 29, 30, 31, 32, 33, 34] [35] (by kernel_rfl) (by kernel_rfl) pO ?_
    simp only [xAn, qzA, qzB, qzC, qzD, qzE, qzF]
    repeat (go_big_quiet_step ((first | (go_at_call 94; with_reducible exact xAq (fun W' _ => HM2.out W') _ _) | (go_at_call 92; exact xAq (fun W' _ => HN.out W') _ _))))
    refine wpQuiet_nil ?_
    intro Z hw2
    have hbZ := xAj hw2
    clear hw2 rg0 rg1 rg2 rg3 rg4 rg5 rg6 rg7 rg8 rg9 rg10 rg11 rg12 rg13
    clear ca0 ca1 ca2 ca3 ca4 ca5 ca6 cb0 cb1 cb2 cb3 cb4 cb5 cb6
    go_wp2
    go_ret
    exact ⟨xAb (by rw [← HR.out]; first | rfl | (simp [*]; done) | (simp [*, zer]; done) | (simp_all [zer]; done) | (rw [Bool.eq_iff_iff]; simp [*, zer]; done) | (rw [Bool.eq_iff_iff]; simp_all [zer]; done)), xAa HB hbZ⟩
   | true =>
    cases q4 : (x.to_ == -1) with
    | false =>
     cases q6 : (m2) with
     | false =>
      subst q6
      have hlot := fun W => eqv2 x.lot.1 x.lot.2 0 1 W
      obtain ⟨ca0, ca1, ca2, ca3, ca4, ca5, ca6⟩ := coC (c := c) (m := m) (ga) rfl
      obtain ⟨cb0, cb1, cb2, cb3, cb4, cb5, cb6⟩ := atC (c := x) (gb) rfl
      have rg0 := cR ca0
      have rg1 := cR ca1
      have rg2 := cR ca2
      have rg3 := cR ca3
      have rg4 := cR ca4
      have rg5 := cR ca5
      have rg6 := cR ca6
      have rg7 := cR cb0
      have rg8 := cR cb1
      have rg9 := cR cb2
      have rg10 := cR cb3
      have rg11 := cR cb4
      have rg12 := cR cb5
      have rg13 := cR cb6
      refine xAg [0, 1, 2, 3, 4, 5, 6, 7, 8, 9, 10, 11, 12, 13, 14, 15, 16, 17, 18, 19, 20, 21, 22, 23, 24, 25, 26, 27, 28, 29, 30, 31, 32, 33, 34] [35] (by kernel_rfl) (by kernel_rfl) pO ?_
      simp only [xAn, qzA, qzB, qzC, qzD, qzE, qzF]
      repeat (go_big_quiet_step ((first | (go_at_call 94; with_reducible exact xAq (fun W' _ => HM2.out W') _ _) | (go_at_call 92; exact xAq (fun W' _ => HN.out W') _ _))))
      refine wpQuiet_nil ?_
      intro Z hw2
      have hbZ := xAj hw2
      clear hw2 rg0 rg1 rg2 rg3 rg4 rg5 rg6 rg7 rg8 rg9 rg10 rg11 rg12 rg13
      clear ca0 ca1 ca2 ca3 ca4 ca5 ca6 cb0 cb1 cb2 cb3 cb4 cb5 cb6
      go_wp2
      go_ret
      exact ⟨xAb (by rw [← HR.out]; first | rfl | (simp [*]; done) | (simp [*, zer]; done) | (simp_all [zer]; done) | (rw [Bool.eq_iff_iff]; simp [*, zer]; done) | (rw [Bool.eq_iff_iff]; simp_all [zer]; done)), xAa HB hbZ⟩
     | true =>
      subst q6
      cases q5 : (x.unit == -1) with
      | false =>
       have hlot := fun W => eqv2 x.lot.1 x.lot.2 0 1 W
       obtain ⟨ca0, ca1, ca2, ca3, ca4, ca5, ca6⟩ := coC (c := c) (m := m) (ga) rfl
       obtain ⟨cb0, cb1, cb2, cb3, cb4, cb5, cb6⟩ := atC (c := x) (gb) rfl
       have rg0 := cR ca0
       have rg1 := cR ca1
       have rg2 := cR ca2
       have rg3 := cR ca3
       have rg4 := cR ca4
       have rg5 := cR ca5
       have rg6 := cR ca6
       have rg7 := cR cb0
       have rg8 := cR cb1
       have rg9 := cR cb2
       have rg10 := cR cb3
       have rg11 := cR cb4
       have rg12 := cR cb5
       have rg13 := cR cb6
       refine xAg [0, 1, 2, 3, 4, 5, 6, 7, 8, 9, 10, 11, 12, 13, 14, 15, 16, 17, 18, 19, 20, 21, 22, 23, 24, 25, 26, 27, 28, 29, 30, 31, 32, 33, 34] [35] (by kernel_rfl) (by kernel_rfl) pO ?_
       simp only [xAn, qzA, qzB, qzC, qzD, qzE, qzF]
       repeat (go_big_quiet_step ((first | (go_at_call 94; with_reducible exact xAq (fun W' _ => HM2.out W') _ _) | (go_at_call 92; exact xAq (fun W' _ => HN.out W') _ _))))
       refine wpQuiet_nil ?_
       intro Z hw2
       have hbZ := xAj hw2
       clear hw2 rg0 rg1 rg2 rg3 rg4 rg5 rg6 rg7 rg8 rg9 rg10 rg11 rg12 rg13
       clear ca0 ca1 ca2 ca3 ca4 ca5 ca6 cb0 cb1 cb2 cb3 cb4 cb5 cb6
       go_wp2
       go_ret
       exact ⟨xAb (by rw [← HR.out]; first | rfl | (simp [*]; done) | (simp [*, zer]; done) | (simp_all [zer]; done) | (rw [Bool.eq_iff_iff]; simp [*, zer]; done) | (rw [Bool.eq_iff_iff]; simp_all [zer]; done)), xAa HB hbZ⟩
      | true =>
       have hlot := fun W => eqv2 x.lot.1 x.lot.2 0 1 W
       obtain ⟨ca0, ca1, ca2, ca3, ca4, ca5, ca6⟩ := coC (c := c) (m := m) (ga) rfl
       obtain ⟨cb0, cb1, cb2, cb3, cb4, cb5, cb6⟩ := atC (c := x) (gb) rfl
       have rg0 := cR ca0
       have rg1 := cR ca1
       have rg2 := cR ca2
       have rg3 := cR ca3
       have rg4 := cR ca4
       have rg5 := cR ca5
       have rg6 := cR ca6
       have rg7 := cR cb0
       have rg8 := cR cb1
       have rg9 := cR cb2
       have rg10 := cR cb3
       have rg11 := cR cb4
       have rg12 := cR cb5
       have rg13 := cR cb6
       refine xAg [0, 1, 2, 3, 4, 5, 6, 7, 8, 9, 10, 11, 12, 13, 14, 15, 16, 17, 18, 19, 20, 21, 22, 23, 24, 25, 26, 27, 28, 29, 30, 31, 32, 33, 34] [35] (by kernel_rfl) (by kernel_rfl) pO ?_
       simp only [xAn, qzA, qzB, qzC, qzD, qzE, qzF]
       repeat (go_big_quiet_step ((first | (go_at_call 94; with_reducible exact xAq (fun W' _ => HM2.out W') _ _) | (go_at_call 92; exact xAq (fun W' _ => HN.out W') _ _))))
       refine wpQuiet_nil ?_
       intro Z hw2
       have hbZ := xAj hw2
       clear hw2 rg0 rg1 rg2 rg3 rg4 rg5 rg6 rg7 rg8 rg9 rg10 rg11 rg12 rg13
       clear ca0 ca1 ca2 ca3 ca4 ca5 ca6 cb0 cb1 cb2 cb3 cb4 cb5 cb6
       go_wp2
       go_ret
       exact ⟨xAb (by rw [← HR.out]; first | rfl | (simp [*]; done) | (simp [*, zer]; done) | (simp_all [zer]; done) | (rw [Bool.eq_iff_iff]; simp [*, zer]; done) | (rw [Bool.eq_iff_iff]; simp_all [zer]; done)), xAa HB hbZ⟩
    | true =>
     cases q5 : (x.unit == -1) with
     | false =>
      have hlot := fun W => eqv2 x.lot.1 x.lot.2 0 1 W
      obtain ⟨ca0, ca1, ca2, ca3, ca4, ca5, ca6⟩ := coC (c := c) (m := m) (ga) rfl
      obtain ⟨cb0, cb1, cb2, cb3, cb4, cb5, cb6⟩ := atC (c := x) (gb) rfl
      have rg0 := cR ca0
      have rg1 := cR ca1
      have rg2 := cR ca2
      have rg3 := cR ca3
      have rg4 := cR ca4
      have rg5 := cR ca5
      have rg6 := cR ca6
      have rg7 := cR cb0
      have rg8 := cR cb1
      have rg9 := cR cb2
      have rg10 := cR cb3
      have rg11 := cR cb4
      have rg12 := cR cb5
      have rg13 := cR cb6
      refine xAg [0, 1, 2, 3, 4, 5, 6, 7, 8, 9, 10, 11, 12, 13, 14, 15, 16, 17, 18, 19, 20, 21, 22, 23, 24, 25, 26, 27, 28, 29, 30, 31, 32, 33, 34] [35] (by kernel_rfl) (by kernel_rfl) pO ?_
      simp only [xAn, qzA, qzB, qzC, qzD, qzE, qzF]
      repeat (go_big_quiet_step ((first | (go_at_call 94; with_reducible exact xAq (fun W' _ => HM2.out W') _ _) | (go_at_call 92; exact xAq (fun W' _ => HN.out W') _ _))))
      refine wpQuiet_nil ?_
      intro Z hw2
      have hbZ := xAj hw2
      clear hw2 rg0 rg1 rg2 rg3 rg4 rg5 rg6 rg7 rg8 rg9 rg10 rg11 rg12 rg13
      clear ca0 ca1 ca2 ca3 ca4 ca5 ca6 cb0 cb1 cb2 cb3 cb4 cb5 cb6
      go_wp2
      go_ret
      exact ⟨xAb (by rw [← HR.out]; first | rfl | (simp [*]; done) | (simp [*, zer]; done) | (simp_all [zer]; done) | (rw [Bool.eq_iff_iff]; simp [*, zer]; done) | (rw [Bool.eq_iff_iff]; simp_all [zer]; done)), xAa HB hbZ⟩
     | true =>
      have hlot := fun W => eqv2 x.lot.1 x.lot.2 0 1 W
      obtain ⟨ca0, ca1, ca2, ca3, ca4, ca5, ca6⟩ := coC (c := c) (m := m) (ga) rfl
      obtain ⟨cb0, cb1, cb2, cb3, cb4, cb5, cb6⟩ := atC (c := x) (gb) rfl
      have rg0 := cR ca0
      have rg1 := cR ca1
      have rg2 := cR ca2
      have rg3 := cR ca3
      have rg4 := cR ca4
      have rg5 := cR ca5
      have rg6 := cR ca6
      have rg7 := cR cb0
      have rg8 := cR cb1
      have rg9 := cR cb2
      have rg10 := cR cb3
      have rg11 := cR cb4
      have rg12 := cR cb5
      have rg13 := cR cb6
      refine xAg [0, 1, 2, 3, 4, 5, 6, 7, 8, 9, 10, 11, 12, 13, 14, 15, 16, 17, 18, 19, 20, 21, 22, 23, 24, 25, 26, 27, 28, 29, 30, 31, 32, 33, 34] [35] (by kernel_rfl) (by kernel_rfl) pO ?_
      simp only [xAn, qzA, qzB, qzC, qzD, qzE, qzF]
      repeat (go_big_quiet_step ((first | (go_at_call 94; with_reducible exact xAq (fun W' _ => HM2.out W') _ _) | (go_at_call 92; exact xAq (fun W' _ => HN.out W') _ _))))
      refine wpQuiet_nil ?_
      intro Z hw2
      have hbZ := xAj hw2
      clear hw2 rg0 rg1 rg2 rg3 rg4 rg5 rg6 rg7 rg8 rg9 rg10 rg11 rg12 rg13
      clear ca0 ca1 ca2 ca3 ca4 ca5 ca6 cb0 cb1 cb2 cb3 cb4 cb5 cb6
      go_wp2
      go_ret
      exact ⟨xAb (by rw [← HR.out]; first | rfl | (simp [*]; done) | (simp [*, zer]; done) | (simp_all [zer]; done) | (rw [Bool.eq_iff_iff]; simp [*, zer]; done) | (rw [Bool.eq_iff_iff]; simp_all [zer]; done)), xAa HB hbZ⟩
end Go.Proofs.YtffceokjeonpcaaGreatDoor
