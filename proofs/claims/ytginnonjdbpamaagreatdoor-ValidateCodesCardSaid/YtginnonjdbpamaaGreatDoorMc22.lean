/- Contracts of functions and plain laws, joined: VaD, Ua, VaE. -/
import Derived.Test.YtginnonjdbpamaaGreatDoorMc4
import Derived.Test.YtginnonjdbpamaaGreatDoorMc21
/- The work list of a trace: starting clauses by what xDv for what gives what the passes give. -/
import Derived.Test.YtginnonjdbpamaaGreatDoorMc1
set_option maxHeartbeats 6400000
set_option maxRecDepth 100000
namespace Go.Proofs.YtginnonjdbpamaaGreatDoor
def xDv (k : Cla) (s : Int) : Prop := (k.start = [] ∧ s = -1) ∨ ∃ p ∈ k.start, p.1 = s
def xEq (c : Con) : Prop := ∀ k ∈ c.cl, ∀ p ∈ k.start, 0 ≤ p.1 ∧ p.1 < (c.cl.length : Int)
def stR (r : Rd) (j : Int) : Int := match r.oc[j.toNat]? with | some p => p.1.st | none => 0
def xCs (r : Rd) (k : Cla) : Bool := k.start.all fun s => xA1 s.2 (stR r s.1)
structure FInv (c : Con) (r : Rd) : Prop where
 f0 : ∀ (i : Nat) k p, c.cl[i]? = some k → r.oc[i]? = some p → k.waived = false → p.1.from_ < 0 → p.1.st = 0
 f1 : ∀ (i : Nat) k p, c.cl[i]? = some k → r.oc[i]? = some p → p.1.st = 0 → p.1.from_ < 0 ∧ k.waived = false
theorem xHf {c : Con} {r : Rd} (h : RInv c r) (j : Int) : stOf (r.marks c) j = stR r j := by
 rw [xEu]
 unfold stR
 cases hp : r.oc[j.toNat]? with
 | none =>
  rw [List.getElem?_eq_none (by rw [xBw h.len, ← h.len]; exact List.getElem?_eq_none_iff.1 hp)]
  rfl
 | some p =>
  obtain ⟨k, hk⟩ : ∃ k, c.cl[j.toNat]? = some k := ⟨_, qzJ (by rw [← h.len]; exact (qzM hp).1)⟩
  rw [xCc hk hp, Option.getD_some, xHx]
theorem xGv {c : Con} {r : Rd} (h : RInv c r) {i : Nat} : rdy c (r.marks c) i = true ↔ ∃ k p, c.cl[i]? = some k ∧ r.oc[i]? = some p ∧ p.1.st = 0 ∧ k.waived = false ∧ xCs r k = true := by
 rw [xDb]
 constructor
 ·rintro ⟨k, m, h1, h2, h3, h4, h5⟩
  obtain ⟨p, hp⟩ : ∃ p, r.oc[i]? = some p := ⟨_, qzJ (by rw [h.len]; exact (qzM h1).1)⟩
  rw [xCc h1 hp] at h2
  cases h2
  rw [xHx] at h3
  exact ⟨k, p, h1, hp, h3, h4, List.all_eq_true.2 fun s hs => by rw [← xHf h]; exact h5 s hs⟩
 ·rintro ⟨k, p, h1, h2, h3, h4, h5⟩
  exact ⟨k, _, h1, xCc h1 h2, by rw [xHx]; exact h3, h4, fun s hs => by rw [xHf h]; exact List.all_eq_true.1 h5 s hs⟩
def xB4 (k : Cla) (hol : List Int) (steps : Int) (p : Out × Cnt) : Out × Cnt := ({ p.1 with st := 1, from_ := steps, brr := if k.kind = 4 then p.1.brr else xD2 hol k.role }, p.2)
structure RSt (c : Con) (r0 r : Rd) : Prop where
 s : r = { r0 with oc := r.oc }
 ext : Ext c r0.hol (r0.marks c) (r.marks c)
 mn : ∀ L, Ext c r0.hol (r0.marks c) L → Shut c L → Ext c r0.hol (r.marks c) L
 inv : RInv c r
 f : FInv c r
 oc : r.oc = List.zipWith (xBi r0.steps) (r.marks c) r0.oc
theorem RSt.refl {c : Con} {r : Rd} (h : RInv c r) (f : FInv c r) : RSt c r r := by
 refine ⟨rfl, Ext.refl _ _ _, fun _ h _ => h, h, f, ?_⟩
 refine List.ext_getElem? fun i => ?_
 rw [List.getElem?_zipWith]
 cases hp : r.oc[i]? with
 | none => cases (r.marks c)[i]? <;> rfl
 | some p =>
  obtain ⟨k, hk⟩ : ∃ k, c.cl[i]? = some k := ⟨_, qzJ (by rw [← h.len]; exact (qzM hp).1)⟩
  rw [xCc hk hp]
  show some p = some (xBi r.steps (mkOf k p.1 p.2) p)
  unfold xBi
  rw [if_neg (by rw [xHx]; rintro ⟨a, b⟩; omega)]
theorem RSt.go {c : Con} {r0 r : Rd} {i : Nat} {k : Cla} {p : Out × Cnt} (hg : CGood c) (h : RSt c r0 r) (hk : c.cl[i]? = some k) (hp : r.oc[i]? = some p) (hw : k.waived = false) (hf : p.1.from_ < 0) (hc : xCs r k = true) :
  RSt c r0 { r with oc := r.oc.set i (xB4 k r0.hol r0.steps p) } ∧ xB5 (({ r with oc := r.oc.set i (xB4 k r0.hol r0.steps p) } : Rd).marks c) + 1 = xB5 (r.marks c) := by
 have hst := h.f.f0 i k p hk hp hw hf
 have hr : rdy c (r.marks c) i = true := (xGv h.inv).2 ⟨k, p, hk, hp, hst, hw, hc⟩
 obtain ⟨hI, hG, hT⟩ := h.inv.inv i k p hk hp
 obtain ⟨l1, l2, l3, l4⟩ := hI.l0 hst
 have ht := hT hst
 have hs0 : 0 ≤ r0.steps := by have := h.inv.s0; rw [h.s] at this; exact this
 have hil : i < r.oc.length := (qzM hp).1
 have hmk : mkOf k (xB4 k r0.hol r0.steps p).1 (xB4 k r0.hol r0.steps p).2 = live k r0.hol := by
  unfold xB4 mkOf live
  simp [l1, l2, l3, l4]
 have hm : ({ r with oc := r.oc.set i (xB4 k r0.hol r0.steps p) } : Rd).marks c = (r.marks c).set i (live k r0.hol) := by
  unfold Rd.marks
  rw [xIm mkP c.cl r.oc i k _ hk]
  show (List.zipWith mkP c.cl r.oc).set i (mkOf k (xB4 k r0.hol r0.steps p).1 (xB4 k r0.hol r0.steps p).2) = _
  rw [hmk]
 have hmi := xCc hk hp
 have hmil := (qzM hmi).1
 have hkg := hg.k k (qzK hk)
 refine ⟨⟨?_, ?_, ?_, ?_, ?_, ?_⟩, ?_⟩
 ·show ({ r with oc := _ } : Rd) = { r0 with oc := _ }
  rw [h.s]
 ·rw [hm]; exact h.ext.trans (xH7 hk hr)
 ·intro L hL hS
  rw [hm]
  exact xI6 (h.mn L hL hS) hS hk hr
 ·refine ⟨by show (r.oc.set _ _).length = _; rw [List.length_set, h.inv.len], h.inv.s0, fun j k' p' hk' hp' => ?_⟩
  by_cases e : i = j
  ·subst e
   rw [hk] at hk'
   cases hk'
   have hp' : (r.oc.set i (xB4 k r0.hol r0.steps p))[i]? = some p' := hp'
   rw [List.getElem?_set_self hil] at hp'
   cases hp'
   have ha := hkg.a1
   refine ⟨⟨?_, ?_, ?_, ?_⟩, ?_, ?_⟩
   ·simp [xB4, Out.runs, hs0, ht]
   ·intro _; show 0 ≤ p.2.days ∧ p.2.days < k.aft; omega
   ·intro e; simp [xB4] at e
   ·intro e; simp [xB4] at e
   ·intro _ e
    show p.1.got < k.need
    have := hg.n k (qzK hk) e
    omega
   ·intro e; simp [xB4] at e
  ·have hp' : (r.oc.set i (xB4 k r0.hol r0.steps p))[j]? = some p' := hp'
   rw [List.getElem?_set_ne e] at hp'
   exact h.inv.inv j k' p' hk' hp'
 ·refine ⟨fun j k' p' hk' hp' hw' hf' => ?_, fun j k' p' hk' hp' hs' => ?_⟩ <;>
  ·have hp' : (r.oc.set i (xB4 k r0.hol r0.steps p))[j]? = some p' := hp'
   by_cases e : i = j
   ·subst e
    rw [List.getElem?_set_self hil] at hp'
    cases hp'
    first
    | (exfalso; have e : r0.steps < 0 := hf'; omega)
    | (exfalso; have e : (1 : Int) = 0 := hs'; omega)
   ·rw [List.getElem?_set_ne e] at hp'
    first | exact h.f.f0 j k' p' hk' hp' hw' hf' | exact h.f.f1 j k' p' hk' hp' hs'
 ·show r.oc.set i _ = _
  rw [hm]
  have h0i : r0.oc[i]? = some p := by
   have e := h.oc
   have e2 : r.oc[i]? = (List.zipWith (xBi r0.steps) (r.marks c) r0.oc)[i]? := by rw [← e]
   rw [hp, List.getElem?_zipWith, hmi] at e2
   cases hq : r0.oc[i]? with
   | none => rw [hq] at e2; simp at e2
   | some q =>
    rw [hq] at e2
    simp only [Option.some.injEq] at e2
    unfold xBi at e2
    rw [if_neg (by rw [xHx, hst]; rintro ⟨a, _⟩; omega)] at e2
    rw [e2]
  have hL : (xBi r0.steps (live k r0.hol) p) = xB4 k r0.hol r0.steps p := by
   unfold xBi xB4
   rw [if_pos ⟨rfl, hst⟩]
   simp [live, l4]
  rw [← hL]
  refine List.ext_getElem? fun j => ?_
  rw [List.getElem?_zipWith]
  by_cases e : i = j
  ·subst e
   rw [List.getElem?_set_self hil, List.getElem?_set_self hmil, h0i]
  ·rw [List.getElem?_set_ne e, List.getElem?_set_ne e, ← List.getElem?_zipWith, ← h.oc]
 ·rw [hm]
  exact xH4 hmi (by rw [xHx]; exact hst) (by rw [live_st]; decide)
theorem RSt.fin {c : Con} {r0 r : Rd} (_hg : CGood c) (h0 : RInv c r0) (h : RSt c r0 r) (hS : Shut c (r.marks c)) : r = r0.startR c := by
 have e : r.marks c = xAs c r0.hol (r0.marks c) := xFc (xBw h0.len) h.ext hS h.mn
 have h2 := h.s
 have h3 := h.oc
 rw [e] at h3
 rw [h2]
 unfold Rd.startR
 rw [← h3]
structure WI (c : Con) (r : Rd) (wl : Int → List Int) : Prop where
 a : ∀ s i, i ∈ wl s → ∃ (n : Nat) (k : Cla), i = (n : Int) ∧ c.cl[n]? = some k ∧ k.waived = false ∧ xDv k s
 b : ∀ (n : Nat) k p, c.cl[n]? = some k → r.oc[n]? = some p → p.1.st = 0 → ∀ s, xDv k s → (n : Int) ∈ wl s
def JI (c : Con) (r : Rd) (todo : List Int) : Prop := ∀ n, rdy c (r.marks c) n = true → ∃ k s, c.cl[n]? = some k ∧ xDv k s ∧ s ∈ todo
structure IN (c : Con) (r0 r : Rd) (wl : Int → List Int) (xC3 : List Int) (nn : Nat) (s : Int) (p : Nat) (rest : List Int) : Prop where
 si : RSt c r0 r
 a : ∀ s i, i ∈ wl s → ∃ (n : Nat) (k : Cla), i = (n : Int) ∧ c.cl[n]? = some k ∧ k.waived = false ∧ xDv k s
 b : ∀ (n : Nat) k q, c.cl[n]? = some k → r.oc[n]? = some q → q.1.st = 0 → ∀ s', xDv k s' → (s' ≠ s → (n : Int) ∈ wl s') ∧ (s' = s → (n : Int) ∈ rest ∨ (n : Int) ∈ (wl s).drop p)
 sub : ∀ i ∈ rest, i ∈ wl s
 j : ∀ n, rdy c (r.marks c) n = true → (∃ k s', c.cl[n]? = some k ∧ xDv k s' ∧ s' ∈ xC3.drop (nn + 1)) ∨ (n : Int) ∈ (wl s).drop p
 kn : xC3[nn]? = some s
theorem IN.start {c : Con} {r0 r : Rd} {wl : Int → List Int} {xC3 : List Int} {nn : Nat} {s : Int} (hS : RSt c r0 r) (hW : WI c r wl) (hJ : JI c r (xC3.drop nn)) (hn : xC3[nn]? = some s) : IN c r0 r wl xC3 nn s 0 [] := by
 refine ⟨hS, hW.a, fun n k q h1 h2 h3 s' h4 => ⟨fun _ => hW.b n k q h1 h2 h3 s' h4, fun e => .inr (by subst e; exact hW.b n k q h1 h2 h3 _ h4)⟩, fun i hi => (by cases hi), fun n hr => ?_, hn⟩
 obtain ⟨k, s', h1, h2, h3⟩ := hJ n hr
 obtain ⟨hl, e⟩ := qzM hn
 rw [List.drop_eq_getElem_cons hl, e] at h3
 rcases List.mem_cons.1 h3 with rfl | h3
 ·obtain ⟨k', p, g1, g2, g3, _⟩ := (xGv hS.inv).1 hr
  rw [h1] at g1
  cases g1
  exact .inr (hW.b n k p h1 g2 g3 _ h2)
 ·exact .inl ⟨k, s', h1, h2, h3⟩
section
variable {c : Con} {r0 r : Rd} {wl : Int → List Int} {xC3 : List Int} {nn : Nat} {s : Int} {p : Nat} {rest : List Int} {i : Int}
theorem xDm {l : List Int} {p : Nat} {i n : Int} (h : l[p]? = some i) (hn : n ∈ l.drop p) : n = i ∨ n ∈ l.drop (p + 1) := by
 obtain ⟨hl, e⟩ := qzM h
 rw [List.drop_eq_getElem_cons hl, e] at hn
 exact List.mem_cons.1 hn
theorem IN.at_ (h : IN c r0 r wl xC3 nn s p rest) (hi : (wl s)[p]? = some i) : ∃ (n : Nat) (k : Cla) (q : Out × Cnt), i = (n : Int) ∧ c.cl[n]? = some k ∧ r.oc[n]? = some q ∧ k.waived = false ∧ xDv k s := by
 obtain ⟨n, k, h1, h2, h3, h4⟩ := h.a s i (qzK hi)
 exact ⟨n, k, _, h1, h2, qzJ (by rw [h.si.inv.len]; exact (qzM h2).1), h3, h4⟩
theorem IN.skip (h : IN c r0 r wl xC3 nn s p rest) (hi : (wl s)[p]? = some i) {n : Nat} {k : Cla} (hn : i = (n : Int)) (hk : c.cl[n]? = some k) (hc : xCs r k = false) : IN c r0 r wl xC3 nn s (p + 1) (rest ++ [i]) := by
 refine ⟨h.si, h.a, fun n' k' q h1 h2 h3 s' h4 => ⟨(h.b n' k' q h1 h2 h3 s' h4).1, fun e => ?_⟩, fun j hj => ?_, fun n' hr => ?_, h.kn⟩
 ·rcases (h.b n' k' q h1 h2 h3 s' h4).2 e with g | g
  ·exact .inl (List.mem_append_left _ g)
  ·rcases xDm hi g with g | g
   ·exact .inl (by rw [g]; simp)
   ·exact .inr g
 ·rcases List.mem_append.1 hj with g | g
  ·exact h.sub j g
  ·rw [List.mem_singleton.1 g]; exact qzK hi
 ·rcases h.j n' hr with g | g
  ·exact .inl g
  ·rcases xDm hi g with g | g
   ·exfalso
    obtain ⟨k', q, g1, g2, g3, g4, g5⟩ := (xGv h.si.inv).1 hr
    rw [hn] at g
    obtain rfl : n' = n := by omega
    rw [hk] at g1
    cases g1
    rw [hc] at g5
    cases g5
   ·exact .inr g
theorem IN.old (h : IN c r0 r wl xC3 nn s p rest) (hi : (wl s)[p]? = some i) {n : Nat} {k : Cla} {q : Out × Cnt} (hn : i = (n : Int)) (hk : c.cl[n]? = some k) (hq : r.oc[n]? = some q) (hf : 0 ≤ q.1.from_) : IN c r0 r wl xC3 nn s (p + 1) rest := by
 have key : ∀ (n' : Nat) (k' : Cla) (q' : Out × Cnt), c.cl[n']? = some k' → r.oc[n']? = some q' → q'.1.st = 0 → (n' : Int) ≠ i := by
  intro n' k' q' h1 h2 h3 e
  rw [hn] at e
  obtain rfl : n' = n := by omega
  rw [hq] at h2
  cases h2
  have := (h.si.f.f1 n' k' q h1 hq h3).1
  omega
 refine ⟨h.si, h.a, fun n' k' q' h1 h2 h3 s' h4 => ⟨(h.b n' k' q' h1 h2 h3 s' h4).1, fun e => ?_⟩, h.sub, fun n' hr => ?_, h.kn⟩
 ·rcases (h.b n' k' q' h1 h2 h3 s' h4).2 e with g | g
  ·exact .inl g
  ·rcases xDm hi g with g | g
   ·exact absurd g (key n' k' q' h1 h2 h3)
   ·exact .inr g
 ·rcases h.j n' hr with g | g
  ·exact .inl g
  ·rcases xDm hi g with g | g
   ·obtain ⟨k', q', g1, g2, g3, _⟩ := (xGv h.si.inv).1 hr
    exact absurd g (key n' k' q' g1 g2 g3)
   ·exact .inr g
theorem IN.go (hg : CGood c) (hcs : xEq c) (h : IN c r0 r wl xC3 nn s p rest) (hi : (wl s)[p]? = some i) {n : Nat} {k : Cla} {q : Out × Cnt} (hn : i = (n : Int)) (hk : c.cl[n]? = some k) (hq : r.oc[n]? = some q) (hw : k.waived = false) (hf : q.1.from_ < 0) (hc : xCs r k = true) :
  IN c r0 { r with oc := r.oc.set n (xB4 k r0.hol r0.steps q) } wl (xC3 ++ [i]) nn s (p + 1) rest := by
 have hS := (h.si.go hg hk hq hw hf hc).1
 have hnl : n < r.oc.length := (qzM hq).1
 have key : ∀ (n' : Nat) (q' : Out × Cnt), (r.oc.set n (xB4 k r0.hol r0.steps q))[n']? = some q' → q'.1.st = 0 → n ≠ n' ∧ r.oc[n']? = some q' := by
  intro n' q' h2 h3
  by_cases e : n = n'
  ·subst e
   rw [List.getElem?_set_self hnl] at h2
   cases h2
   exfalso
   have e : (1 : Int) = 0 := h3
   omega
  ·rw [List.getElem?_set_ne e] at h2
   exact ⟨e, h2⟩
 obtain ⟨hl, _⟩ := qzM h.kn
 refine ⟨hS, h.a, fun n' k' q' h1 h2 h3 s' h4 => ?_, h.sub, fun n' hr => ?_, by rw [List.getElem?_append_left hl]; exact h.kn⟩
 ·obtain ⟨e, h2'⟩ := key n' q' h2 h3
  refine ⟨(h.b n' k' q' h1 h2' h3 s' h4).1, fun e2 => ?_⟩
  rcases (h.b n' k' q' h1 h2' h3 s' h4).2 e2 with g | g
  ·exact .inl g
  ·rcases xDm hi g with g | g
   ·rw [hn] at g; omega
   ·exact .inr g
 ·obtain ⟨k', q', g1, g2, g3, g4, g5⟩ := (xGv hS.inv).1 hr
  obtain ⟨e, g2'⟩ := key n' q' g2 g3
  rw [List.drop_append_of_le_length (by omega)]
  cases hb : xCs r k' with
  | true =>
   rcases h.j n' ((xGv h.si.inv).2 ⟨k', q', g1, g2', g3, g4, hb⟩) with ⟨k2, s', x1, x2, x3⟩ | g
   ·exact .inl ⟨k2, s', x1, x2, List.mem_append_left _ x3⟩
   ·rcases xDm hi g with g | g
    ·rw [hn] at g; omega
    ·exact .inr g
  | false =>
   refine .inl ⟨k', i, g1, ?_, List.mem_append_right _ (List.mem_singleton.2 rfl)⟩
   unfold xCs at hb g5
   rw [List.all_eq_false] at hb
   obtain ⟨x, hx, hx2⟩ := hb
   have hx3 := List.all_eq_true.1 g5 x hx
   have hx0 := (hcs k' (qzK g1) x hx).1
   refine .inr ⟨x, hx, ?_⟩
   rw [hn]
   by_cases e2 : x.1.toNat = n
   ·omega
   ·exfalso
    apply hx2
    have e3 : stR r x.1 = stR { r with oc := r.oc.set n (xB4 k r0.hol r0.steps q) } x.1 := by
     unfold stR
     show (match r.oc[x.1.toNat]? with | some p => p.1.st | none => 0) = (match (r.oc.set n _)[x.1.toNat]? with | some p => p.1.st | none => 0)
     rw [List.getElem?_set_ne (fun e => e2 e.symm)]
    rw [e3]
    exact hx3
theorem IN.fin (h : IN c r0 r wl xC3 nn s p rest) (hp : (wl s).length ≤ p) : WI c r (fun x => if x = s then rest else wl x) ∧ JI c r (xC3.drop (nn + 1)) := by
 have hd : (wl s).drop p = [] := List.drop_of_length_le hp
 refine ⟨⟨fun s' i hi => ?_, fun n k q h1 h2 h3 s' h4 => ?_⟩, fun n hr => ?_⟩
 ·by_cases e : s' = s
  ·subst e
   rw [if_pos rfl] at hi
   exact h.a _ i (h.sub i hi)
  ·rw [if_neg e] at hi
   exact h.a s' i hi
 ·by_cases e : s' = s
  ·subst e
   show (n : Int) ∈ (if s' = s' then rest else wl s')
   rw [if_pos rfl]
   rcases (h.b n k q h1 h2 h3 s' h4).2 rfl with g | g
   ·exact g
   ·rw [hd] at g; cases g
  ·show (n : Int) ∈ (if s' = s then rest else wl s')
   rw [if_neg e]
   exact (h.b n k q h1 h2 h3 s' h4).1 e
 ·rcases h.j n hr with g | g
  ·exact g
  ·rw [hd] at g; cases g
end
theorem JI.shut {c : Con} {r : Rd} {l : List Int} (h : JI c r l) (hl : l = []) : Shut c (r.marks c) := fun n => by
 cases hr : rdy c (r.marks c) n with
 | false => rfl
 | true =>
  obtain ⟨k, s, _, _, h3⟩ := h n hr
  rw [hl] at h3
  cases h3
end Go.Proofs.YtginnonjdbpamaaGreatDoor
/- The walk of trace.check. -/
namespace Go.Proofs.YtginnonjdbpamaaGreatDoor
open Go.RowKit Go.Sort
def chkL (c : Con) : Int → List Int → Int
 | _, [] => 0
 | d, x :: l => if x < -1 ∨ (c.ac.length : Int) ≤ x then 1 else if d = c.days then 13 else chkL c (if x = -1 then d + 1 else d) l
def Con.chk (c : Con) (l : List Int) : Int := if c.ok = false then 1 else if 4000 < l.length then 3 else chkL c 0 l
structure CkL (w W : World) (c : Con) (m : Cm) (l : List Int) (ba i : Nat) (d : Int) : Prop where
 ga : Blk W ba 27 (coA c m)
 b : Below w.heap.size w W
 e : chkL c d (l.drop i) = chkL c 0 l
 d0 : 0 ≤ d
 d1 : d ≤ i
theorem xIh (c : Con) (m : Cm) (l : List Int) (A : Option Addr) (cap : Nat) (w : World) (hC : Cont w c m) (hA : Seg w w.heap.size 1 eI A l) (nl : l.length ≤ 1000000) :
  Calls Tryz.prog 32 #[.agg (coA c m), .slice A l.length cap] w fun e w' => e = .returned (.int .i64 (c.chk l)) ∧ Below w.heap.size w w' := by
 obtain ⟨E, hE⟩ : ∃ E, c.chk l = E := ⟨_, rfl⟩
 rw [hE]
 have HE : Hid (E = if c.ok = false then 1 else if 4000 < l.length then 3 else chkL c 0 l) := hE.symm
 have HC := qzL hC
 have HA := qzL hA
 have HV := qzL (fun W (hb : Below w.heap.size w W) => xGn c m W (hC.then_ hb))
 have na := hC.na
 clear hE hC hA
 go_enter Tryz.func32, Tryz.ntmps32
 go_upto_region 1 with (fail)
 refine xAf ?_
 intro X hX
 have ga : Blk X w.heap.size 27 (coA c m) := by rw [hX]; exact Blk.new _ _ _
 have HB : Below w.heap.size w X := by rw [hX]; (repeat (first | exact Below.refl _ _ | refine xAc ?_ _))
 obtain ⟨ba, eba⟩ : ∃ b, w.heap.size = b := ⟨_, rfl⟩
 rw [eba] at ga ⊢
 clear hX eba
 go_upto_region 2 with (first | (refine xAi (by rfl) 27 _ rfl ba rfl 27 _ ga ⟨_, Tryz.underlying27⟩ (by kernel_rfl) ?_; simp only [Act.put, qzG, qzH, qzI]) | (go_at_call 50; (with_reducible refine (HV.out _ HB).mono ?_); rintro e w1 ⟨⟨ea, eb, rfl, he⟩, hb1⟩))
 have h0 : Hid (CkL w w1 c m l ba 0 0) := ⟨ga.then_ hb1, xAa HB hb1, rfl, Int.le_refl _, Int.le_refl _⟩
 clear ga HB hb1
 cases hok : c.ok with
 | false =>
  have hea : (ea == 0) = false := by cases hq : (ea == 0) with | false => rfl | true => exact absurd (he.1 (eq_of_beq hq)) (by rw [hok]; decide)
  have t1 : (ea != 0) = true := by simp [bne, hea]
  have e1 : Hid (E = 1) := by unfold Hid; rw [HE.out, if_pos hok]
  clear he hok hea
  go_wp2
  go_ret
  rw [e1.out]
  exact ⟨rfl, h0.out.b⟩
 | true =>
 obtain rfl : ea = 0 := he.2 hok
 have hno : ¬ (c.ok = false) := by rw [hok]; decide
 have HNO := qzL hno
 clear he hok hno
 by_cases h2 : 4000 < l.length
 case pos =>
  have t2 : decide ((4000 : Int) < (l.length : Int)) = true := qzO (by omega)
  have e1 : Hid (E = 3) := by unfold Hid; rw [HE.out, if_neg HNO.out, if_pos h2]
  go_wp2
  go_ret
  rw [e1.out]
  exact ⟨rfl, h0.out.b⟩
 have t2 : decide ((4000 : Int) < (l.length : Int)) = false := qzN (by omega)
 have HE2 : Hid (E = chkL c 0 l) := by unfold Hid; rw [HE.out, if_neg HNO.out, if_neg h2]
 clear HE HNO HV
 go_upto_region 8 with (fail)
 go_loopw [7, 22] (fun v y WR => ∃ (i : Nat) (d : Int), v = .int .i64 d ∧ y = .int .i64 i ∧ i ≤ l.length ∧ Hid (CkL w WR c m l ba i d)) (fun _ y _ => 2000000 - (intOf y).toNat)
 case atStart => exact ⟨0, 0, rfl, rfl, by omega, h0⟩
 case round =>
  clear h0
  obtain ⟨i, d, rfl, rfl, hi, hR⟩ := hrel
  by_cases hlt : i < l.length
  case neg =>
   have tl : decide ((i : Int) < (l.length : Int)) = false := qzN (by omega)
   have hd : l.drop i = [] := List.drop_of_length_le (by omega)
   have e1 : Hid (E = 0) := by unfold Hid; rw [HE2.out, ← hR.out.e, hd]; rfl
   clear hd
   go_wp2
   go_ret
   rw [e1.out]
   exact ⟨rfl, hR.out.b⟩
  obtain ⟨x, hx⟩ : ∃ x, l[i]? = some x := ⟨_, qzJ hlt⟩
  obtain ⟨b0, o0, e0, hb0, hc0⟩ := xAx (HA.out.below hR.out.b) hx
  have hix := fun W => xAq (t := 22) (size := 1) (cap := cap) (len := l.length) e0 hlt (by kernel_rfl) (fun W => by kernel_rfl) W
  have x0 : wr.cell? ⟨b0, o0 + i, none⟩ = some (.int .i64 x) := by have := hc0 0 _ rfl; simpa using this
  have tl : decide ((i : Int) < (l.length : Int)) = true := qzO (by omega)
  have k3 : wr.cell? ⟨ba, 3, none⟩ = some (.slice m.a c.ac.length m.ac) := hR.out.ga.cell 3
  have k5 : wr.cell? ⟨ba, 5, none⟩ = some (.int .i64 c.days) := hR.out.ga.cell 5
  have hd : Hid (chkL c d (x :: l.drop (i + 1)) = E) := by
   obtain ⟨hi, e⟩ := qzM hx
   unfold Hid
   rw [HE2.out, ← hR.out.e, List.drop_eq_getElem_cons hi, e]
  have d0 := hR.out.d0
  have d1 := hR.out.d1
  clear hx hc0 e0
  by_cases h1 : x < -1
  case pos =>
   have t3 := qzO h1
   have e1 : Hid (E = 1) := by unfold Hid; rw [← hd.out, chkL, if_pos (.inl h1)]
   go_wp2
   go_ret
   rw [e1.out]
   exact ⟨rfl, hR.out.b⟩
  have t3 := qzN h1
  by_cases h4 : (c.ac.length : Int) ≤ x
  case pos =>
   have t4 := qzO h4
   have e1 : Hid (E = 1) := by unfold Hid; rw [← hd.out, chkL, if_pos (.inr h4)]
   go_wp2
   go_ret
   rw [e1.out]
   exact ⟨rfl, hR.out.b⟩
  have t4 := qzN h4
  have H14 : Hid (¬ (x < -1 ∨ (c.ac.length : Int) ≤ x)) := by unfold Hid; omega
  by_cases h5 : d = c.days
  case pos =>
   have t5 : (d == c.days) = true := by simpa using h5
   have e1 : Hid (E = 13) := by unfold Hid; rw [← hd.out, chkL, if_neg H14.out, if_pos h5]
   clear h5
   go_wp2
   go_ret
   rw [e1.out]
   exact ⟨rfl, hR.out.b⟩
  have t5 : (d == c.days) = false := by simpa using h5
  have H5 := qzL h5
  clear h5
  cases h6 : (x == -1) with
  | true =>
   have hn : Hid (CkL w wr c m l ba (i + 1) (d + 1)) := ⟨hR.out.ga, hR.out.b, by
    have h := hd.out
    rw [chkL, if_neg H14.out, if_neg H5.out, if_pos (by simpa using h6)] at h
    rw [h, HE2.out], by omega, by push_cast; omega⟩
   clear hd
   go_wp2
   go_roundw
   case rel => exact ⟨i + 1, d + 1, rfl, by simp, by omega, hn⟩
   case measure => simp [intOf]; omega
  | false =>
   have hn : Hid (CkL w wr c m l ba (i + 1) d) := ⟨hR.out.ga, hR.out.b, by
    have h := hd.out
    rw [chkL, if_neg H14.out, if_neg H5.out, if_neg (by simpa using h6)] at h
    rw [h, HE2.out], by omega, by push_cast; omega⟩
   clear hd
   go_wp2
   go_roundw
   case rel => exact ⟨i + 1, d, rfl, by simp, by omega, hn⟩
   case measure => simp [intOf]; omega
end Go.Proofs.YtginnonjdbpamaaGreatDoor
/- A step of a reading up to the starting of clauses; the errors of a trace and of a run. -/
namespace Go.Proofs.YtginnonjdbpamaaGreatDoor
abbrev Rd.bump (r : Rd) : Rd := { r with steps := r.steps + 1 }
def Rd.tickW (c : Con) (r : Rd) : Rd := { r with day := r.day + 1, oc := List.zipWith (xBn (decide (r.day ∈ c.off)) r.steps) c.cl r.oc }
def Atc.takes (a : Atc) (r : Rd) (n : Nat) : Bool := a.kind == 1 || !r.hap.getD n false
def Rd.actA (c : Con) (r : Rd) (n : Nat) (a : Atc) : Rd := { r with hap := r.hap.set n true, oc := List.zipWith (actP n (xA7 a r.hol) r.steps (a.takes r n)) c.cl r.oc }
def Rd.actW (c : Con) (r : Rd) (n : Nat) (a : Atc) : Rd :=
 if a.takes r n = false ∨ a.kind = 1 then r.actA c n a
 else { r.actA c n a with hol := r.hol.set a.give.toNat a.to_, oc := if a.kind = 3 then List.zipWith (xBb a) c.cl (r.actA c n a).oc else (r.actA c n a).oc }
theorem tick_W (c : Con) (r : Rd) : r.tick c = (r.bump.tickW c).startR c := rfl
theorem act_W {c : Con} {r : Rd} {n : Nat} {a : Atc} (ha : c.ac[n]? = some a) : r.act c n = (r.bump.actW c n a).startR c := by
 unfold Rd.act Rd.actW
 rw [ha]
 simp only
 by_cases h : (a.takes r.bump n = false ∨ a.kind = 1)
 ·rw [if_pos h, if_pos (show (a.kind == 1 || !r.hap.getD n false) = false ∨ a.kind = 1 from h)]
  rfl
 ·rw [if_neg h, if_neg (show ¬ ((a.kind == 1 || !r.hap.getD n false) = false ∨ a.kind = 1) from h)]
  rfl
structure Pst (r r' : Rd) : Prop where
 len : r'.oc.length = r.oc.length
 fr : ∀ (j : Nat) p p', r.oc[j]? = some p → r'.oc[j]? = some p' → p'.1.from_ = p.1.from_
 st : ∀ (j : Nat) p p', r.oc[j]? = some p → r'.oc[j]? = some p' → p.1.runs = false → p'.1.st = p.1.st
 nz : ∀ (j : Nat) p p', r.oc[j]? = some p → r'.oc[j]? = some p' → p.1.runs = true → p'.1.st ≠ 0
theorem Pst.zip {c : Con} {r r' : Rd} {f : Cla → Out × Cnt → Out × Cnt} (h : RInv c r) (ho : r'.oc = List.zipWith f c.cl r.oc)
  (hf : ∀ k p, k ∈ c.cl → InvO k p.1 p.2 → (f k p).1.from_ = p.1.from_ ∧ (p.1.runs = false → (f k p).1.st = p.1.st) ∧ (p.1.runs = true → (f k p).1.st ≠ 0)) : Pst r r' := by
 have key : ∀ (j : Nat) p p', r.oc[j]? = some p → r'.oc[j]? = some p' → ∃ k, k ∈ c.cl ∧ InvO k p.1 p.2 ∧ p' = f k p := by
  intro j p p' h1 h2
  obtain ⟨k, hk⟩ : ∃ k, c.cl[j]? = some k := ⟨_, qzJ (by rw [← h.len]; exact (qzM h1).1)⟩
  rw [ho, List.getElem?_zipWith, hk, h1] at h2
  cases h2
  exact ⟨k, qzK hk, (h.inv j k p hk h1).1, rfl⟩
 refine ⟨by rw [ho, List.length_zipWith, h.len, Nat.min_self], ?_, ?_, ?_⟩ <;> intro j p p' h1 h2
 ·obtain ⟨k, g1, g2, rfl⟩ := key j p p' h1 h2; exact (hf k p g1 g2).1
 ·obtain ⟨k, g1, g2, rfl⟩ := key j p p' h1 h2; exact (hf k p g1 g2).2.1
 ·obtain ⟨k, g1, g2, rfl⟩ := key j p p' h1 h2; exact (hf k p g1 g2).2.2
theorem Pst.trans {r a r' : Rd} (h : Pst r a) (k : Pst a r') (hr : ∀ (j : Nat) p p', r.oc[j]? = some p → a.oc[j]? = some p' → p.1.runs = false → p'.1.runs = false) (hz : ∀ (j : Nat) p p', a.oc[j]? = some p → r'.oc[j]? = some p' → p'.1.st = 0 → p.1.st = 0) : Pst r r' := by
 have key : ∀ (j : Nat) p', r'.oc[j]? = some p' → ∃ q, a.oc[j]? = some q := fun j p' h2 => ⟨_, qzJ (by rw [← k.len]; exact (qzM h2).1)⟩
 refine ⟨k.len.trans h.len, ?_, ?_, ?_⟩ <;> intro j p p' h1 h2 <;> obtain ⟨q, hq⟩ := key j p' h2
 ·exact (k.fr j q p' hq h2).trans (h.fr j p q h1 hq)
 ·exact fun e => (k.st j q p' hq h2 (hr j p q h1 hq e)).trans (h.st j p q h1 hq e)
 ·exact fun e e2 => h.nz j p q h1 hq e (hz j q p' hq h2 e2)
theorem Pst.finv {c : Con} {r r' : Rd} (h : Pst r r') (f : FInv c r) : FInv c r' := by
 have key : ∀ (j : Nat) p', r'.oc[j]? = some p' → ∃ q, r.oc[j]? = some q := fun j p' h2 => ⟨_, qzJ (by rw [← h.len]; exact (qzM h2).1)⟩
 refine ⟨fun j k p' hk hp hw hf => ?_, fun j k p' hk hp hs => ?_⟩ <;> obtain ⟨p, hq⟩ := key j p' hp
 ·have e := h.fr j p p' hq hp
  have hr : p.1.runs = false := by unfold Out.runs; rw [qzN (by omega), Bool.false_and]
  rw [h.st j p p' hq hp hr]
  exact f.f0 j k p hk hq hw (by omega)
 ·cases hr : p.1.runs with
  | true => exact absurd hs (h.nz j p p' hq hp hr)
  | false =>
   rw [h.st j p p' hq hp hr] at hs
   rw [h.fr j p p' hq hp]
   exact f.f1 j k p hk hq hs
theorem Pst.wi {c : Con} {r r' : Rd} {wl : Int → List Int} (h : Pst r r') (hw : WI c r wl) : WI c r' wl := by
 refine ⟨hw.a, fun n k p' h1 h2 h3 => ?_⟩
 obtain ⟨p, hq⟩ : ∃ q, r.oc[n]? = some q := ⟨_, qzJ (by rw [← h.len]; exact (qzM h2).1)⟩
 cases hr : p.1.runs with
 | true => exact absurd h3 (h.nz n p p' hq h2 hr)
 | false => exact hw.b n k p h1 hq (by rw [← h.st n p p' hq h2 hr]; exact h3)
structure EndL (c : Con) (r r' : Rd) (l : List Int) : Prop where
 m : ∀ (j : Nat) p p', r.oc[j]? = some p → r'.oc[j]? = some p' → p.1.runs = true → p'.1.runs = false → (j : Int) ∈ l
 b : ∀ i ∈ l, ∃ n : Nat, i = (n : Int) ∧ n < c.cl.length
 n : l.length ≤ c.cl.length
theorem cond_run {st st' is : Int} (h : st = 1 ∨ st = 2) (h' : st' = 1 ∨ st' = 2) : xA1 is st = xA1 is st' := by
 unfold xA1
 rcases h with rfl | rfl <;> rcases h' with rfl | rfl <;> simp
theorem Pst.ji {c : Con} {r r' : Rd} {l : List Int} (h : Pst r r') (hi : RInv c r) (hi' : RInv c r') (hcs : xEq c) (hS : Shut c (r.marks c)) (he : EndL c r r' l) : JI c r' l := by
 intro n hr
 obtain ⟨k, p', g1, g2, g3, g4, g5⟩ := (xGv hi').1 hr
 obtain ⟨p, hq⟩ : ∃ q, r.oc[n]? = some q := ⟨_, qzJ (by rw [← h.len]; exact (qzM g2).1)⟩
 have g3' : p.1.st = 0 := by
  cases hr : p.1.runs with
  | true => exact absurd g3 (h.nz n p p' hq g2 hr)
  | false => rw [← h.st n p p' hq g2 hr]; exact g3
 have hno : xCs r k = false := by
  cases hb : xCs r k with
  | false => rfl
  | true => exact absurd ((xGv hi).2 ⟨k, p, g1, hq, g3', g4, hb⟩) (by rw [hS n]; decide)
 unfold xCs at hno g5
 rw [List.all_eq_false] at hno
 obtain ⟨x, hx, hx2⟩ := hno
 have hx3 := List.all_eq_true.1 g5 x hx
 obtain ⟨x0, x1⟩ := hcs k (qzK g1) x hx
 refine ⟨k, x.1, g1, .inr ⟨x, hx, rfl⟩, ?_⟩
 have hjl : x.1.toNat < r.oc.length := by rw [hi.len]; omega
 obtain ⟨u, hu⟩ : ∃ q, r.oc[x.1.toNat]? = some q := ⟨_, qzJ hjl⟩
 obtain ⟨u', hu'⟩ : ∃ q, r'.oc[x.1.toNat]? = some q := ⟨_, qzJ (by rw [h.len]; exact hjl)⟩
 obtain ⟨ku, hku⟩ : ∃ q, c.cl[x.1.toNat]? = some q := ⟨_, qzJ (by omega)⟩
 unfold stR at hx2 hx3
 rw [hu] at hx2
 rw [hu'] at hx3
 simp only at hx2 hx3
 have iu := (hi.inv _ ku u hku hu).1
 have iu' := (hi'.inv _ ku u' hku hu').1
 cases hr1 : u.1.runs with
 | false => rw [h.st _ u u' hu hu' hr1] at hx3; exact absurd hx3 hx2
 | true =>
  cases hr2 : u'.1.runs with
  | true => rw [cond_run (iu.run.1 hr1) (iu'.run.1 hr2)] at hx2; exact absurd hx3 hx2
  | false =>
   have := he.m _ u u' hu hu' hr1 hr2
   rwa [Int.toNat_of_nonneg x0] at this
theorem xD3 {c : Con} {r : Rd} (h : RInv c r) : RInv c r.bump := ⟨h.len, by have := h.s0; show 0 ≤ r.steps + 1; omega, h.inv⟩
theorem finv_bump {c : Con} {r : Rd} (h : FInv c r) : FInv c r.bump := ⟨h.f0, h.f1⟩
theorem xHb {c : Con} {r : Rd} (hc : CGood c) (h : RInv c r) : RInv c (r.tickW c) ∧ Pst r (r.tickW c) := by
 refine ⟨(xCf (f := xBn (decide (r.day ∈ c.off)) r.steps) (g := xBh (decide (r.day ∈ c.off))) (r.tickW c) rfl h.s0 h
  (fun k p hk hi hg ht => by
   obtain ⟨a, b⟩ := tick_mk (free := decide (r.day ∈ c.off)) (hc.k k hk) h.s0 hi
   obtain ⟨d, e⟩ := xHc (decide (r.day ∈ c.off)) r.steps k p.1 p.2 (hc.k k hk) h.s0 hi hg ht
   exact ⟨a, b, d, e⟩)).2, Pst.zip h rfl fun k p _ hi => ?_⟩
 show (xB3 _ _ k p.1 p.2).1.from_ = _ ∧ (_ → (xB3 _ _ k p.1 p.2).1.st = _) ∧ (_ → (xB3 _ _ k p.1 p.2).1.st ≠ 0)
 cases hr : p.1.runs with
 | false =>
  unfold xB3
  rw [if_pos (.inl hr)]
  exact ⟨rfl, fun _ => rfl, fun e => (by cases e)⟩
 | true =>
  have h0 : p.1.st ≠ 0 := by rcases hi.run.1 hr with e | e <;> omega
  unfold xB3
  repeat' split
  all_goals refine ⟨rfl, fun e => (by cases e), fun _ => ?_⟩
  all_goals first | exact h0 | (simp; done) | (show (if k.kind = 1 then (4 : Int) else if k.kind = 2 then 3 else 5) ≠ 0; repeat' split) <;> simp
theorem xIe {doer steps : Int} {k : Cla} {o : Out} {n : Cnt} (h : o.st ≠ 0) : (xAu doer steps k o n).st ≠ 0 ∧ (xAu doer steps k o n).from_ = o.from_ := by
 unfold xAu
 repeat' split
 all_goals first | exact ⟨h, rfl⟩ | exact ⟨by simp, rfl⟩
theorem actP_pst {act doer steps : Int} {takes : Bool} {k : Cla} {p : Out × Cnt} (hi : InvO k p.1 p.2) : (actP act doer steps takes k p).1.from_ = p.1.from_ ∧ (p.1.runs = false → (actP act doer steps takes k p).1.st = p.1.st) ∧ (p.1.runs = true → (actP act doer steps takes k p).1.st ≠ 0) := by
 show (actO _ _ _ _ k p.1 p.2).1.from_ = _ ∧ (_ → (actO _ _ _ _ k p.1 p.2).1.st = _) ∧ (_ → (actO _ _ _ _ k p.1 p.2).1.st ≠ 0)
 cases hr : p.1.runs with
 | false =>
  unfold actO
  rw [if_pos hr]
  exact ⟨rfl, fun _ => rfl, fun e => (by cases e)⟩
 | true =>
  have h0 : p.1.st ≠ 0 := by rcases hi.run.1 hr with e | e <;> omega
  unfold actO
  rw [if_neg (by rw [hr]; decide)]
  show (if takes = true ∧ k.act = act then xAu doer steps k p.1 p.2 else p.1).from_ = _ ∧ (_ → (if takes = true ∧ k.act = act then xAu doer steps k p.1 p.2 else p.1).st = _) ∧ (_ → (if takes = true ∧ k.act = act then xAu doer steps k p.1 p.2 else p.1).st ≠ 0)
  split
  ·exact ⟨(xIe h0).2, fun e => (by cases e), fun _ => (xIe h0).1⟩
  ·exact ⟨rfl, fun e => (by cases e), fun _ => h0⟩
theorem actA_inv {c : Con} {r : Rd} {n : Nat} {a : Atc} (hc : CGood c) (hp : CPause c) (h : RInv c r) (ha : c.ac[n]? = some a) : RInv c (r.actA c n a) ∧ Pst r (r.actA c n a) := by
 refine ⟨?_, Pst.zip h rfl fun k p _ hi => actP_pst hi⟩
 cases ht : a.takes r n with
 | true =>
  exact (xCf (f := actP (n : Int) (xA7 a r.hol) r.steps true) (g := fun k m => xA0 (n : Int) (xA7 a r.hol) k (xA4 (n : Int) k m)) (r.actA c n a) (by unfold Rd.actA; rw [ht]) h.s0 h
   (fun k p hk hi hg ht => by
    obtain ⟨x1, x2, x3⟩ := act_mk (doer := xA7 a r.hol) (hc.k k hk) (hp n a ha k hk).1 h.s0 hi hg
    exact ⟨x1, x2, x3, actO_to hi ht⟩)).2
 | false =>
  have h1 : a.kind ≠ 1 := by intro e; unfold Atc.takes at ht; rw [e] at ht; simp at ht
  refine (xCf (f := actP (n : Int) (xA7 a r.hol) r.steps false) (g := fun _ m => m) (r.actA c n a) (by unfold Rd.actA; rw [ht]) h.s0 h
   (fun k p hk hi hg ht => ?_)).2
  have e : actP (n : Int) (xA7 a r.hol) r.steps false k p = p := by
   obtain ⟨q1, q2⟩ := (hp n a ha k hk).2 h1
   show actO (n : Int) (xA7 a r.hol) r.steps false k p.1 p.2 = p
   unfold actO
   split
   ·rfl
   ·simp
  rw [e]
  exact ⟨rfl, hi, hg, ht⟩
theorem novP_pst {a : Atc} {k : Cla} {p : Out × Cnt} : (xBb a k p).1.from_ = p.1.from_ ∧ (xBb a k p).1.st = p.1.st ∧ (xBb a k p).1.to_ = p.1.to_ := by
 unfold xBb
 split <;> exact ⟨rfl, rfl, rfl⟩
theorem novW_oc {c : Con} {oc : List (Out × Cnt)} {a : Atc} {j : Nat} {p' : Out × Cnt} (h : (List.zipWith (xBb a) c.cl oc)[j]? = some p') : ∃ k p, c.cl[j]? = some k ∧ oc[j]? = some p ∧ p' = xBb a k p := by
 rw [List.getElem?_zipWith] at h
 cases hk : c.cl[j]? with
 | none => rw [hk] at h; simp at h
 | some k =>
  cases hp : oc[j]? with
  | none => rw [hk, hp] at h; simp at h
  | some p => rw [hk, hp] at h; cases h; exact ⟨k, p, rfl, rfl, rfl⟩
theorem xG8 {c : Con} {r : Rd} {n : Nat} {a : Atc} (hc : CGood c) (hp : CPause c) (h : RInv c r) (ha : c.ac[n]? = some a) : RInv c (r.actW c n a) ∧ Pst r (r.actW c n a) ∧ ∀ l, EndL c r (r.actA c n a) l → EndL c r (r.actW c n a) l := by
 obtain ⟨h1, h2⟩ := actA_inv hc hp h ha
 unfold Rd.actW
 split
 ·exact ⟨h1, h2, fun _ h => h⟩
 ·by_cases h3 : a.kind = 3
  ·rw [if_pos h3]
   have hz := xCf (f := xBb a) (g := xBc a) { r.actA c n a with hol := r.hol.set a.give.toNat a.to_, oc := List.zipWith (xBb a) c.cl (r.actA c n a).oc } rfl h1.s0 h1 (fun k p hk hi hg ht => xHt hi hg ht)
   have hlen : (List.zipWith (xBb a) c.cl (r.actA c n a).oc).length = r.oc.length := by rw [List.length_zipWith, h1.len, Nat.min_self, h.len]
   refine ⟨hz.2, ⟨hlen, fun j p p' e1 e2 => ?_, fun j p p' e1 e2 => ?_, fun j p p' e1 e2 => ?_⟩, fun l hl => ⟨fun j p p' e1 e2 => ?_, hl.b, hl.n⟩⟩
   all_goals
    obtain ⟨k, q, q1, q2, rfl⟩ := novW_oc e2
    obtain ⟨v1, v2, v3⟩ := @novP_pst a k q
   ·rw [v1]; exact h2.fr j p q e1 q2
   ·intro e; rw [v2]; exact h2.st j p q e1 q2 e
   ·intro e; rw [v2]; exact h2.nz j p q e1 q2 e
   ·intro e e3
    refine hl.m j p q e1 q2 e ?_
    unfold Out.runs at e3 ⊢
    rwa [v1, v3] at e3
  ·rw [if_neg h3]
   exact ⟨⟨h1.len, h1.s0, h1.inv⟩, ⟨h2.len, h2.fr, h2.st, h2.nz⟩, fun l hl => ⟨hl.m, hl.b, hl.n⟩⟩
theorem step_day {c : Con} {s : Sta} {x : Int} (_hx : -1 ≤ x) : (s.step c x).day = if x = -1 then s.day + 1 else s.day := by
 unfold Sta.step
 split
 ·rfl
 ·unfold Sta.act
  repeat' split
  all_goals rfl
theorem runE_chk {c : Con} : ∀ (l : List Int) (s : Sta), SOk c s → runE c s l = chkL c s.day l := by
 intro l
 induction l with
 | nil => intro s _; rfl
 | cons x l ih =>
  intro s hs
  have hok : s.ok c = true := ok_iff.2 hs
  unfold runE chkL
  by_cases h1 : x < -1 ∨ (c.ac.length : Int) ≤ x
  ·have e : s.stepE c x = 1 := by unfold Sta.stepE; rw [if_pos (.inr h1)]
   rw [e, if_neg (by decide), if_pos h1]
  ·have h1' : ¬ (s.ok c = false ∨ x < -1 ∨ (c.ac.length : Int) ≤ x) := by rw [hok]; simpa using h1
   by_cases h2 : s.day = c.days
   ·have e : s.stepE c x = 13 := by unfold Sta.stepE; rw [if_neg h1', if_pos h2]
    rw [e, if_neg (by decide), if_neg h1, if_pos h2]
   ·have e : s.stepE c x = 0 := by unfold Sta.stepE; rw [if_neg h1', if_neg h2]
    rw [e, if_pos rfl, if_neg h1, if_neg h2, ih _ (step_ok hs e), step_day (by omega)]
theorem run_chk (c : Con) (l : List Int) : c.runE l = c.chk l := by
 unfold Con.runE Con.chk Con.startE
 cases hok : c.ok with
 | false => simp
 | true =>
  simp only [if_true, ne_eq, not_true_eq_false, if_false, Bool.true_eq_false]
  split
  ·rfl
  ·exact runE_chk l c.first (first_ok hok)
end Go.Proofs.YtginnonjdbpamaaGreatDoor
