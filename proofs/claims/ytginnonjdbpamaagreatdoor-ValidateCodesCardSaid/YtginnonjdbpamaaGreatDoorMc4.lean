/- Contracts of functions and plain laws, joined: VaC, Mem, R01, Kb1, Pk, Kb2, Kb3. -/
import Derived.Test.YtginnonjdbpamaaGreatDoorMc3
import Derived.WalkKit
import Derived.Below
import Derived.Laws.OwnMore
import Derived.Deep.Draws
import Derived.Test.YtginnonjdbpamaaGreatDoorProg
import Derived.Test.YtginnonjdbpamaaGreatDoorMc1
import Derived.IntWalk
import Derived.BigQuiet
import Derived.Deep.QuietTactic
import Derived.Deep.RegionHeld3
import Derived.RegionTactic
import Derived.Outline
import Derived.Lib.Hide
import Derived.Deep.MidRow
set_option maxHeartbeats 3200000
set_option maxRecDepth 100000
/- Marks stay well-formed. -/
namespace Go.Proofs.YtginnonjdbpamaaGreatDoor
theorem xBa {c : Con} {k : Cla} {m : Mk} : xBr c k m = true ↔
  (m.st = 0 ∧ k.waived = false ∧ m = Mk.idle) ∨
  ((m.st = 1 ∧ m.left ≤ k.aft ∨ m.st = 2 ∧ k.kind = 1 ∧ m.left ≤ k.grace) ∧ k.waived = false ∧ 1 ≤ m.left ∧ (m.pau = true → k.pause ≠ -1) ∧ (m.got = 0 ∨ (k.kind = 1 ∧ 0 ≤ m.got ∧ m.got < k.need)) ∧ (k.kind = 4 → m.brr = -1) ∧ (k.kind ≠ 4 → 0 ≤ m.brr ∧ m.brr < c.par)) ∨
  ((m.st = 3 ∨ m.st = 4 ∨ m.st = 5) ∧ m.left = 0 ∧ 0 ≤ m.got ∧ m.got ≤ 9 ∧ -1 ≤ m.brr ∧ m.brr < c.par ∧ m.pau = false) := by
 have hrun : xDt c k m = true ↔ k.waived = false ∧ 1 ≤ m.left ∧ (m.pau = true → k.pause ≠ -1) ∧ (m.got = 0 ∨ (k.kind = 1 ∧ 0 ≤ m.got ∧ m.got < k.need)) ∧ (k.kind = 4 → m.brr = -1) ∧ (k.kind ≠ 4 → 0 ≤ m.brr ∧ m.brr < c.par) := by
  unfold xDt
  by_cases h4 : k.kind = 4
  ·rw [if_pos h4]
   have h1 : (k.kind != 1) = true := by simp [h4]
   rw [h1]
   simp only [Bool.and_eq_true, Bool.not_eq_true', Bool.or_eq_false_iff, Bool.and_eq_false_iff, decide_eq_false_iff_not, beq_iff_eq, bne_eq_false_iff_eq, beq_eq_false_iff_ne, Bool.true_or]
   constructor
   ·rintro ⟨⟨⟨⟨a, b⟩, d⟩, e⟩, f⟩
    refine ⟨a, by omega, fun hp => ?_, ?_, fun _ => f, fun h => absurd h4 h⟩
    ·rcases d with d | d
     ·rw [hp] at d; cases d
     ·exact d
    ·rcases e with e | e
     ·exact .inl e
     ·cases e
   ·rintro ⟨a, b, d, e, f, _⟩
    refine ⟨⟨⟨⟨a, by omega⟩, ?_⟩, ?_⟩, f h4⟩
    ·cases hp : m.pau
     ·exact .inl rfl
     ·exact .inr (d hp)
    ·rcases e with e | ⟨e, _⟩
     ·exact .inl e
     ·omega
  ·rw [if_neg h4]
   simp only [Bool.and_eq_true, Bool.not_eq_true', Bool.or_eq_false_iff, Bool.and_eq_false_iff, decide_eq_false_iff_not, bne_eq_false_iff_eq, beq_eq_false_iff_ne, decide_eq_true_eq]
   constructor
   ·rintro ⟨⟨⟨⟨a, b⟩, d⟩, e⟩, f⟩
    refine ⟨a, by omega, fun hp => ?_, ?_, fun h => absurd h h4, fun _ => f⟩
    ·rcases d with d | d
     ·rw [hp] at d; cases d
     ·exact d
    ·rcases e with e | ⟨⟨e, e2⟩, e3⟩
     ·exact .inl e
     ·exact .inr ⟨e, by omega, by omega⟩
   ·rintro ⟨a, b, d, e, _, f⟩
    refine ⟨⟨⟨⟨a, by omega⟩, ?_⟩, ?_⟩, f h4⟩
    ·cases hp : m.pau
     ·exact .inl rfl
     ·exact .inr (d hp)
    ·rcases e with e | ⟨e, e2, e3⟩
     ·exact .inl e
     ·exact .inr ⟨⟨e, by omega⟩, by omega⟩
 unfold xBr
 by_cases h0 : m.st = 0
 ·rw [if_pos h0]
  simp [h0]
 ·rw [if_neg h0]
  by_cases h1 : m.st = 1
  ·rw [if_pos h1, Bool.and_eq_true, hrun, decide_eq_true_eq]
   simp [h1]
  ·rw [if_neg h1]
   by_cases h2 : m.st = 2
   ·rw [if_pos h2, Bool.and_eq_true, Bool.and_eq_true, hrun, decide_eq_true_eq, beq_iff_eq]
    simp [h2]
   ·rw [if_neg h2]
    by_cases h3 : m.st = 3 ∨ m.st = 4 ∨ m.st = 5
    ·rw [if_pos h3]
     simp only [Bool.and_eq_true, decide_eq_true_eq, beq_iff_eq, Bool.not_eq_true']
     constructor
     ·rintro ⟨⟨⟨⟨⟨a, b⟩, d⟩, e⟩, f⟩, g⟩
      exact .inr (.inr ⟨h3, a, b, d, e, f, g⟩)
     ·rintro (⟨h, _⟩ | ⟨⟨h, _⟩ | ⟨h, _⟩, _⟩ | ⟨_, a, b, d, e, f, g⟩)
      ·exact absurd h h0
      ·exact absurd h h1
      ·exact absurd h h2
      ·exact ⟨⟨⟨⟨⟨a, b⟩, d⟩, e⟩, f⟩, g⟩
    ·rw [if_neg h3]
     simp [h0, h1, h2]
     intro h
     exact absurd h (by simpa using h3)
theorem live_ok {c : Con} {k : Cla} {hol : List Int} (hv : KV c k) (hw : k.waived = false) (hl : hol.length = c.hold.length) (hr : ∀ x ∈ hol, 0 ≤ x ∧ x < c.par) : xBr c k (live k hol) = true := by
 rw [xBa]
 refine .inr (.inl ⟨.inl ⟨rfl, Int.le_refl _⟩, hw, hv.a1, (fun h => by cases h), .inl rfl, fun h4 => by simp [live, h4], fun h4 => ?_⟩)
 have h := hv.r h4
 have e : (live k hol).brr = xD2 hol k.role := by simp [live, h4]
 rw [e]
 unfold xD2
 rw [List.getD_eq_getElem?_getD, qzJ (by omega)]
 exact hr _ (List.getElem_mem _)
theorem tick1_ok {c : Con} {k : Cla} {m : Mk} {free : Bool} (hv : KV c k) (hp : 1 ≤ c.par) (h : xBr c k m = true) : xBr c k (xBh free k m) = true := by
 unfold xBh
 split
 ·exact h
 next h1 =>
 have hrn : m.runs = true := by
  cases hr : m.runs with
  | true => rfl
  | false => exact absurd (.inl hr) h1
 have hpn : m.pau = false := by
  cases hr : m.pau with
  | false => rfl
  | true => exact absurd (.inr (.inl hr)) h1
 have hn := hv.n1
 have hg0 := hv.g0
 rw [xBa] at h ⊢
 simp only [Mk.runs, Bool.or_eq_true, beq_iff_eq] at hrn
 rcases h with ⟨h0, _⟩ | ⟨ha, hw, hl, hpp, hg, hb, hb2⟩ | ⟨h0, _⟩
 ·omega
 ·have hbr : -1 ≤ m.brr ∧ m.brr < c.par := by
   by_cases h4 : k.kind = 4
   ·have := hb h4; omega
   ·have := hb2 h4; omega
  have hgt : 0 ≤ m.got ∧ m.got ≤ 9 := by omega
  split
  ·next hne =>
   refine .inr (.inl ⟨?_, hw, ?_, hpp, hg, hb, hb2⟩)
   ·rcases ha with ⟨a, b⟩ | ⟨a, b, d⟩
    ·exact .inl ⟨a, by show m.left - 1 ≤ _; omega⟩
    ·exact .inr ⟨a, b, by show m.left - 1 ≤ _; omega⟩
   ·show 1 ≤ m.left - 1; omega
  ·split
   ·next hk1 =>
    split
    ·next hs =>
     exact .inr (.inl ⟨.inr ⟨rfl, hk1, Int.le_refl _⟩, hw, by show 1 ≤ k.grace; omega, hpp, hg, hb, hb2⟩)
    ·exact .inr (.inr ⟨.inr (.inl rfl), rfl, hgt.1, hgt.2, hbr.1, hbr.2, rfl⟩)
   ·split
    ·exact .inr (.inr ⟨.inl rfl, rfl, hgt.1, hgt.2, hbr.1, hbr.2, rfl⟩)
    ·exact .inr (.inr ⟨.inr (.inr rfl), rfl, hgt.1, hgt.2, hbr.1, hbr.2, rfl⟩)
 ·omega
theorem pause1_ok {c : Con} {k : Cla} {m : Mk} {n : Nat} (h : xBr c k m = true) : xBr c k (xA4 (n : Int) k m) = true := by
 unfold xA4
 split
 ·exact h
 next hr =>
 have hrn : m.runs = true := by cases hb : m.runs <;> simp_all
 simp only [Mk.runs, Bool.or_eq_true, beq_iff_eq] at hrn
 rw [xBa] at h
 rcases h with ⟨h0, _⟩ | ⟨ha, hw, hl, hpp, hg, hb, hb2⟩ | ⟨h0, _⟩
 ·omega
 ·split
  ·next hp => rw [xBa]; exact .inr (.inl ⟨ha, hw, hl, fun _ => by omega, hg, hb, hb2⟩)
  ·split
   ·rw [xBa]; exact .inr (.inl ⟨ha, hw, hl, (fun h => by cases h), hg, hb, hb2⟩)
   ·rw [xBa]; exact .inr (.inl ⟨ha, hw, hl, hpp, hg, hb, hb2⟩)
 ·omega
theorem count1_ok {c : Con} {k : Cla} {m : Mk} {n doer : Int} (hv : KV c k) (hp : 1 ≤ c.par) (h : xBr c k m = true) : xBr c k (xA0 n doer k m) = true := by
 unfold xA0
 split
 ·exact h
 next hr =>
 have hrn : m.runs = true := by
  cases hb : m.runs with
  | true => rfl
  | false => exact absurd (.inl hb) hr
 simp only [Mk.runs, Bool.or_eq_true, beq_iff_eq] at hrn
 have hn := hv.n1
 rw [xBa] at h
 rcases h with ⟨h0, _⟩ | ⟨ha, hw, hl, hpp, hg, hb, hb2⟩ | ⟨h0, _⟩
 ·omega
 ·have hbr : -1 ≤ m.brr ∧ m.brr < c.par := by
   by_cases h4 : k.kind = 4
   ·have := hb h4; omega
   ·have := hb2 h4; omega
  have hgt : 0 ≤ m.got ∧ m.got ≤ 9 := by omega
  split
  ·next h1 =>
   have hgn : 0 ≤ m.got ∧ m.got < k.need := by omega
   split
   ·next he => rw [xBa]; exact .inr (.inr ⟨.inl rfl, rfl, by show 0 ≤ m.got + 1; omega, by show m.got + 1 ≤ 9; omega, hbr.1, hbr.2, rfl⟩)
   ·next he => rw [xBa]; exact .inr (.inl ⟨ha, hw, hl, hpp, .inr ⟨h1, by show 0 ≤ m.got + 1; omega, by show m.got + 1 < k.need; omega⟩, hb, hb2⟩)
  ·split
   ·split
    ·rw [xBa]; exact .inr (.inl ⟨ha, hw, hl, hpp, hg, hb, hb2⟩)
    ·rw [xBa]; exact .inr (.inr ⟨.inr (.inl rfl), rfl, hgt.1, hgt.2, hbr.1, hbr.2, rfl⟩)
   ·rw [xBa]; exact .inr (.inr ⟨.inl rfl, rfl, hgt.1, hgt.2, hbr.1, hbr.2, rfl⟩)
 ·omega
theorem novate1_ok {c : Con} {k : Cla} {m : Mk} {a : Atc} (ha : 0 ≤ a.to_ ∧ a.to_ < c.par) (h : xBr c k m = true) : xBr c k (xBc a k m) = true := by
 unfold xBc
 split
 ·next hr =>
  obtain ⟨hr, h4, _⟩ := hr
  simp only [Mk.runs, Bool.or_eq_true, beq_iff_eq] at hr
  rw [xBa] at h
  rcases h with ⟨h0, _⟩ | ⟨hx, hw, hl, hpp, hg, hb, hb2⟩ | ⟨h0, _⟩
  ·omega
  ·rw [xBa]
   exact .inr (.inl ⟨hx, hw, hl, hpp, hg, fun h => absurd h h4, fun _ => ha⟩)
  ·omega
 ·exact h
def MAll (c : Con) (ms : List Mk) : Prop := ms.length = c.cl.length ∧ ∀ (i : Nat) k x, c.cl[i]? = some k → ms[i]? = some x → xBr c k x = true
theorem xEy {c : Con} {ms : List Mk} {f : Cla → Mk → Mk} (h : MAll c ms) (hf : ∀ k m, k ∈ c.cl → xBr c k m = true → xBr c k (f k m) = true) : MAll c (List.zipWith f c.cl ms) := by
 refine ⟨by rw [List.length_zipWith, h.1, Nat.min_self], fun i k x hk hx => ?_⟩
 rw [List.getElem?_zipWith, hk] at hx
 cases hm : ms[i]? with
 | none => rw [hm] at hx; simp at hx
 | some m =>
  rw [hm] at hx
  simp only [Option.some.injEq] at hx
  rw [← hx]
  exact hf k m (qzK hk) (h.2 i k m hk hm)
theorem xDh {c : Con} {hol : List Int} {ms : List Mk} (hc : c.ok = true) (hl : hol.length = c.hold.length) (hr : ∀ x ∈ hol, 0 ≤ x ∧ x < c.par) (h : MAll c ms) : MAll c (xAs c hol ms) ∧ Shut c (xAs c hol ms) := by
 obtain ⟨hS, hE⟩ := xB2 (hol := hol) (ms := ms) h.1
 refine ⟨⟨hE.1.trans h.1, fun i k x hk hx => ?_⟩, hS⟩
 rcases hE.2 i with e | ⟨k', m', g1, g2, g3, g4⟩
 ·exact h.2 i k x hk (e ▸ hx)
 ·rw [hk] at g1
  cases g1
  rw [hx] at g4
  cases g4
  have hmo := h.2 i k m' hk g2
  rw [xBa] at hmo
  refine live_ok (xDr hc (qzK hk)) ?_ hl hr
  rcases hmo with ⟨_, hw, _⟩ | ⟨_, hw, _⟩ | ⟨h0, _⟩
  ·exact hw
  ·exact hw
  ·omega
theorem xGz {c : Con} (hc : c.ok = true) : 1 ≤ c.par ∧ 1 ≤ c.days ∧ 0 < c.hold.length ∧ (∀ x ∈ c.hold, 0 ≤ x ∧ x < c.par) := by
 unfold Con.ok Con.framed at hc
 simp only [Bool.and_eq_true, List.all_eq_true, decide_eq_true_eq] at hc
 exact ⟨hc.1.2.1.1.1.1.1.1, hc.1.2.1.1.1.1.1.2, hc.1.2.1.1.1.1.2, hc.1.2.1.1.1.2⟩
theorem first_ok {c : Con} (hc : c.ok = true) : SOk c c.first := by
 obtain ⟨hp, hd, _, hr⟩ := xGz hc
 have hM : MAll c (c.cl.map fun k => if k.waived then { Mk.idle with st := 5 } else Mk.idle) := by
  refine ⟨by simp, fun i k x hk hx => ?_⟩
  rw [List.getElem?_map, hk] at hx
  simp only [Option.map_some, Option.some.injEq] at hx
  rw [← hx, xBa]
  cases hw : k.waived
  ·exact .inl ⟨rfl, rfl, rfl⟩
  ·exact .inr (.inr ⟨.inr (.inr rfl), rfl, by decide, by decide, by decide, by show (-1 : Int) < c.par; omega, rfl⟩)
 obtain ⟨h1, h2⟩ := xDh hc rfl hr hM
 refine ⟨hc, Int.le_refl _, by show (0 : Int) ≤ c.days; omega, rfl, by simp [Con.first], h1.1, hr, ?_, h1.2, h2⟩
 intro i a b _ hb
 have := qzK hb
 have : b = false := (List.mem_replicate.1 this).2
 simp [this]
theorem step_ok {c : Con} {s : Sta} {x : Int} (h : SOk c s) (he : s.stepE c x = 0) : SOk c (s.step c x) := by
 unfold Sta.stepE at he
 have hok : s.ok c = true := ok_iff.2 h
 split at he
 ·omega
 next h1 =>
 split at he
 ·omega
 next h2 =>
 have hx : -1 ≤ x ∧ x < (c.ac.length : Int) := by omega
 obtain ⟨hp, hd, _, _⟩ := xGz h.vc
 have hM : MAll c s.marks := ⟨h.m, h.mr⟩
 unfold Sta.step
 split
 ·obtain ⟨g1, g2⟩ := xDh (hol := s.hol) h.vc h.h h.hr (xEy (f := xBh (decide (s.day ∈ c.off))) hM fun k m hk hm => tick1_ok (xDr h.vc hk) hp hm)
  have := h.d0
  have := h.d1
  exact ⟨h.vc, by show 0 ≤ s.day + 1; omega, by show s.day + 1 ≤ c.days; omega, h.h, h.u, g1.1, h.hr, h.ur, g1.2, g2⟩
 ·next hne =>
  obtain ⟨n, rfl⟩ : ∃ n : Nat, x = (n : Int) := ⟨x.toNat, by omega⟩
  obtain ⟨a, ha⟩ : ∃ a, c.ac[n]? = some a := ⟨_, qzJ (by omega)⟩
  have hao := ok_act h.vc (qzK ha)
  unfold Sta.act
  rw [Int.toNat_natCast, ha]
  simp only
  split
  ·exact h
  have hM2 : MAll c (List.zipWith (xA0 (n : Int) (xA7 a s.hol)) c.cl (List.zipWith (xA4 (n : Int)) c.cl s.marks)) :=
   xEy (xEy hM fun k m _ hm => pause1_ok hm) fun k m hk hm => count1_ok (xDr h.vc hk) hp hm
  split
  ·obtain ⟨g1, g2⟩ := xDh (hol := s.hol) h.vc h.h h.hr hM2
   exact ⟨h.vc, h.d0, h.d1, h.h, h.u, g1.1, h.hr, h.ur, g1.2, g2⟩
  ·next hk1 =>
   obtain ⟨a1, a2, a3, a4⟩ := hao.2.2 hk1
   have hM3 : MAll c (if a.kind = 3 then List.zipWith (xBc a) c.cl (List.zipWith (xA0 (n : Int) (xA7 a s.hol)) c.cl (List.zipWith (xA4 (n : Int)) c.cl s.marks)) else List.zipWith (xA0 (n : Int) (xA7 a s.hol)) c.cl (List.zipWith (xA4 (n : Int)) c.cl s.marks)) := by
    split
    ·exact xEy hM2 fun k m _ hm => novate1_ok ⟨a3, a4⟩ hm
    ·exact hM2
   have hl' : (s.hol.set a.give.toNat a.to_).length = c.hold.length := by rw [List.length_set]; exact h.h
   have hr' : ∀ y ∈ s.hol.set a.give.toNat a.to_, 0 ≤ y ∧ y < c.par := fun y hy => by
    rcases List.mem_or_eq_of_mem_set hy with hy | rfl
    ·exact h.hr y hy
    ·exact ⟨a3, a4⟩
   obtain ⟨g1, g2⟩ := xDh (hol := s.hol.set a.give.toNat a.to_) h.vc hl' hr' hM3
   refine ⟨h.vc, h.d0, h.d1, hl', by show (s.used.set n true).length = _; rw [List.length_set]; exact h.u, g1.1, hr', ?_, g1.2, g2⟩
   intro i b u hb hu ⟨e1, e2⟩
   by_cases e : n = i
   ·subst e
    rw [ha] at hb
    cases hb
    exact hk1 e2
   ·exact h.ur i b u hb (by rw [← List.getElem?_set_ne e]; exact hu) ⟨e1, e2⟩
end Go.Proofs.YtginnonjdbpamaaGreatDoor
/- Words for memory: a slice that xCt as a list of elements, each of a fixed number of cells; kept over what calls do. -/
namespace Go.Proofs.YtginnonjdbpamaaGreatDoor
open Go.RowKit
def Seg {α : Type} (w : World) (B : Nat) (size : Nat) (enc : α → List Value) (A : Option Addr) (xs : List α) : Prop :=
 ∀ k x, xs[k]? = some x → ∃ b off, A = some ⟨b, off, none⟩ ∧ b < B ∧ ∀ j u, (enc x)[j]? = some u → w.cell? ⟨b, off + k * size + j, none⟩ = some u
section
variable {α : Type} {w w' : World} {B B' size : Nat} {enc : α → List Value} {A : Option Addr} {xs : List α}
theorem Seg.nil (w : World) (B size : Nat) (enc : α → List Value) (A : Option Addr) : Seg w B size enc A [] := fun k x h => by simp at h
theorem Seg.some_ (h : Seg w B size enc A xs) (hk : 0 < xs.length) : ∃ b off, A = some ⟨b, off, none⟩ ∧ b < B := by
 obtain ⟨b, off, e, hb, _⟩ := h 0 _ (qzJ hk)
 exact ⟨b, off, e, hb⟩
theorem Seg.keep (h : Seg w B size enc A xs) (hk : ∀ b o, b < B → w'.cell? ⟨b, o, none⟩ = w.cell? ⟨b, o, none⟩) : Seg w' B size enc A xs := fun k x hx => by
 obtain ⟨b, off, e, hb, hc⟩ := h k x hx
 exact ⟨b, off, e, hb, fun j u hu => (hk _ _ hb).trans (hc j u hu)⟩
theorem Seg.more (h : Seg w B size enc A xs) (hB : B ≤ B') : Seg w B' size enc A xs := fun k x hx => by
 obtain ⟨b, off, e, hb, hc⟩ := h k x hx
 exact ⟨b, off, e, by omega, hc⟩
theorem Seg.below (h : Seg w B size enc A xs) (hb : Below B w w') : Seg w' B size enc A xs := h.keep fun b o hp => hb.cell (p := ⟨b, o, none⟩) hp
end
theorem xAk {B : Nat} {a w : World} (h : Below B a w) (n : Nat) : Below B a (w.drewN n) := ⟨h.os, h.tape, h.output, h.size, h.block⟩
theorem xAa {w a b : World} (h : Below w.heap.size w a) (k : Below a.heap.size a b) : Below w.heap.size w b := h.trans (k.mono h.size)
theorem xAc {w a : World} (h : Below w.heap.size w a) (o : Obj) : Below w.heap.size w (a.alloc o) := h.alloc h.size o
theorem bcell {W w1 : World} (hb : Below W.heap.size W w1) : (∀ b o, b < W.heap.size → w1.cell? ⟨b, o, none⟩ = W.cell? ⟨b, o, none⟩) ∧ (∀ b o, b < W.heap.size → w1.frozen? ⟨b, o, none⟩ = W.frozen? ⟨b, o, none⟩) :=
 ⟨fun b o h => hb.cell (p := ⟨b, o, none⟩) h, fun b o h => hb.frozen (p := ⟨b, o, none⟩) h⟩
def Blk (w : World) (g : Nat) (t : TypeId) (cs : Array Value) : Prop := w.heap[g]? = some (.cells cs t (0, 0))
section
variable {w w' : World} {g : Nat} {t : TypeId} {cs : Array Value}
theorem Blk.lt (h : Blk w g t cs) : g < w.heap.size := by
 rcases Nat.lt_or_ge g w.heap.size with hlt | hge
 ·exact hlt
 ·unfold Blk at h; rw [Array.getElem?_eq_none hge] at h; cases h
theorem Blk.cell (h : Blk w g t cs) (i : Nat) : w.cell? ⟨g, i, none⟩ = cs[i]? := cell_of_row w g i cs t (0, 0) h
theorem Blk.frozen (h : Blk w g t cs) (i : Nat) : w.frozen? ⟨g, i, none⟩ = false := by
 unfold Blk at h
 simp [World.frozen?, h]
theorem Blk.new (w : World) (t : TypeId) (cs : Array Value) : Blk (w.alloc (.cells cs t)) w.heap.size t cs := heap_alloc_new w _
theorem Blk.drew (h : Blk w g t cs) : Blk w.drew g t cs := h
theorem Blk.drewN (h : Blk w g t cs) (n : Nat) : Blk (w.drewN n) g t cs := h
theorem Blk.alloc (h : Blk w g t cs) (o : Obj) : Blk (w.alloc o) g t cs := (Below.heap_alloc w o g h.lt).trans h
theorem Blk.set_ (h : Blk w g t cs) (i : Nat) (u : Value) : Blk (w.setCell ⟨g, i, none⟩ u) g t (cs.setIfInBounds i u) := by
 unfold Blk at h ⊢
 simp [World.setCell, Array.getElem?_modify, h]
theorem Blk.far (h : Blk w g t cs) {p : Addr} (hp : g ≠ p.block) (u : Value) : Blk (w.setCell p u) g t cs := (Below.heap_setCell w p u g hp).trans h
theorem Blk.below {B : Nat} (h : Blk w g t cs) (hb : Below B w w') (hg : g < B) : Blk w' g t cs := (hb.block g hg).trans h
theorem Blk.then_ (h : Blk w g t cs) (hb : Below w.heap.size w w') : Blk w' g t cs := h.below hb h.lt
theorem Blk.grown {row : Option Nat} (h : Blk w g t cs) (hb : w.grownBy w' row) (hg : some g ≠ row) : Blk w' g t cs := (hb.block g h.lt hg).trans h
theorem Blk.setT0 {x y u : Value} (h : Blk w g t #[x, y]) : Blk (w.setCell ⟨g, 0, none⟩ u) g t #[u, y] := h.set_ 0 u
theorem Blk.setT1 {x y u : Value} (h : Blk w g t #[x, y]) : Blk (w.setCell ⟨g, 1, none⟩ u) g t #[x, u] := h.set_ 1 u
theorem Blk.two {x y : Value} (h : Blk w g t #[x, y]) : w.cell? ⟨g, 0, none⟩ = some x ∧ w.cell? ⟨g, 1, none⟩ = some y ∧ w.frozen? ⟨g, 0, none⟩ = false ∧ w.frozen? ⟨g, 1, none⟩ = false :=
 ⟨h.cell 0, h.cell 1, h.frozen 0, h.frozen 1⟩
theorem Blk.one {x : Value} (h : Blk w g t #[x]) : w.cell? ⟨g, 0, none⟩ = some x ∧ w.frozen? ⟨g, 0, none⟩ = false := ⟨h.cell 0, h.frozen 0⟩
end
theorem xFf {k : IntKind} {a b : Int} (h : a = b) : Ending.returned (.int k a) = .returned (.int k b) := by rw [h]
theorem xAb {a b : Bool} (h : a = b) : Ending.returned (.bool a) = .returned (.bool b) := by rw [h]
theorem wa1 (w : World) (o : Obj) : Below w.heap.size w (w.alloc o) := (Below.refl _ _).alloc (Nat.le_refl _) o
end Go.Proofs.YtginnonjdbpamaaGreatDoor
/- The contracts of the functions of package ratio and of its reference: magnitudes, divisors, validity, making, adding, subtracting, dividing, comparing. -/
namespace Go.Proofs.YtginnonjdbpamaaGreatDoor
open Go.RowKit
theorem mag_any (n : Int) (w : World) (h1 : -9223372036854775808 ≤ n) (h2 : n ≤ 9223372036854775807) :
  Calls Tryz.prog 141 #[.int .i64 n] w fun e w' => e = .returned (.int .u64 (mag n)) ∧ w = w' := by
 by_cases h : n < 0
 ·have hm := qzL (mag_neg h)
  go_enter Tryz.func141, Tryz.ntmps141
  go_wp2
  go_ret
  exact ⟨xFf (by rw [hm.out]; omega), rfl⟩
 ·have hm := qzL (mag_pos (Int.not_lt.1 h))
  go_enter Tryz.func141, Tryz.ntmps141
  go_wp2
  go_ret
  exact ⟨xFf (by rw [hm.out]), rfl⟩
theorem dvs_any (b : Nat) (x y : Int) (w : World) (hx : 0 ≤ x) (hy : 0 ≤ y) (hx' : x < 18446744073709551616) (hy' : y < 18446744073709551616)
  (c0 : w.cell? ⟨b, 0, none⟩ = some (.int .u64 x)) (c1 : w.cell? ⟨b, 1, none⟩ = some (.int .u64 y)) :
  Calls Tryz.prog 140 #[.slice (some ⟨b, 0, none⟩) 2 2] w fun e w' => e = .returned (.int .u64 (Int.gcd x y)) ∧ ∃ n, w' = w.drewN n := by
 have C := qzL (And.intro c0 c1)
 clear c0 c1
 go_enter Tryz.func140, Tryz.ntmps140
 go_wp2
 go_loopw [3, 8] (fun u i wr => ∃ (g : Int) (k : Nat), k ≤ 2 ∧ 0 ≤ g ∧ g < 18446744073709551616 ∧ i = .int .i64 k ∧ u = .int .u64 g ∧ Hid (g = if k = 0 then 0 else if k = 1 then x else Int.gcd x y) ∧ ∃ n, wr = w.drewN n) (fun _ i _ => (2 - intOf i).toNat)
 case atStart => exact ⟨0, 0, by omega, by omega, by omega, rfl, rfl, rfl, 0, rfl⟩
 case round =>
  obtain ⟨g, k, hk, hg, hg', rfl, rfl, hG, n, rfl⟩ := hrel
  by_cases h0 : k < 2
  ·have hz : ∃ z : Int, 0 ≤ z ∧ z < 18446744073709551616 ∧ w.cell? ⟨b, k, none⟩ = some (.int .u64 z) ∧ Hid ((Int.gcd g z : Int) = if k = 0 then x else Int.gcd x y) := by
    have hG := hG.out
    match k, h0 with
    | 0, _ => simp at hG; subst hG; exact ⟨x, hx, hx', C.out.1, by simp [Hid]; omega⟩
    | 1, _ => simp at hG; subst hG; exact ⟨y, hy, hy', C.out.2, by simp [Hid]⟩
   obtain ⟨z, hz, hz', cz, hgz⟩ := hz
   go_wp2
   go_loopw [3, 5] (fun u v wr => ∃ x y : Int, 0 ≤ x ∧ 0 ≤ y ∧ x < 18446744073709551616 ∧ y < 18446744073709551616 ∧ Hid (Int.gcd x y = Int.gcd g z) ∧ u = .int .u64 x ∧ v = .int .u64 y ∧ ∃ n, wr = w.drewN n) (fun _ v _ => (intOf v).toNat)
   case atStart => exact ⟨g, z, by omega, by omega, by omega, by omega, rfl, rfl, rfl, n, rfl⟩
   case round =>
    obtain ⟨g1, z1, hg1, hz1, hg1', hz1', hG1, rfl, rfl, n1, rfl⟩ := hrel
    by_cases h1 : 0 < z1
    ·have hq := Int.emod_nonneg g1 (show z1 ≠ 0 by omega)
     have hq2 := Int.emod_lt_of_pos g1 h1
     go_wp2
     go_quiet (fail)
     go_wp2
     go_roundw
     case rel => exact ⟨z1, g1 % z1, by omega, by omega, by omega, by omega, (gcd_step g1 z1 hg1 hz1).trans hG1.out, rfl, rfl, _, World.drewN_drewN ..⟩
     case measure => simp [intOf]; omega
    ·go_wp2
     go_roundw
     case rel =>
      obtain rfl : z1 = 0 := by omega
      have e1 := hG1.out
      rw [Int.gcd_zero_right] at e1
      refine ⟨g1, k + 1, by omega, by omega, by omega, by go_num, rfl, ?_, _, rfl⟩
      have e2 := hgz.out
      have e3 : g1 = Int.gcd g z := by omega
      rw [Hid, e3, e2]
      by_cases hk0 : k = 0
      ·simp [hk0]
      ·obtain rfl : k = 1 := by omega
       simp
     case measure => simp [intOf]; omega
  ·go_wp2
   go_ret
   obtain rfl : k = 2 := by omega
   exact ⟨xFf (by have := hG.out; simpa using this), _, rfl⟩
theorem xHa (n d : Int) (w : World) (hn1 : -9223372036854775808 ≤ n) (hn2 : n ≤ 9223372036854775807) (hd1 : -9223372036854775808 ≤ d) (hd2 : d ≤ 9223372036854775807) :
  Calls Tryz.prog 129 #[.agg #[.int .i64 n, .int .i64 d]] w fun e w' => e = .returned (.bool (vld n d)) ∧ Below w.heap.size w w' := by
 by_cases hr : 1 ≤ d ∧ d ≤ 1000000 ∧ -1000000000000 ≤ n ∧ n ≤ 1000000000000
 ·obtain ⟨h1, h2, h3, h4⟩ := hr
  have hv : vld n d = decide ((Int.gcd (mag n) (mag d) : Int) = 1) := by
   rw [gcd_mag]; simp only [vld, h1, h2, h3, h4, true_and]; congr 1; simp; omega
  have HV := qzL hv
  clear hv
  have m1 := mag_bd (n := n) (by omega) (by omega)
  have m2 := mag_bd (n := d) (by omega) (by omega)
  go_enter Tryz.func129, Tryz.ntmps129
  go_wp2_with fail
  go_region_held3 (fun w' => w'.cell? ⟨w.heap.size, 0, none⟩ = some (.int .i64 n) ∧ w'.cell? ⟨w.heap.size, 1, none⟩ = some (.int .i64 d)) (go_keep) (first | (go_at_call 141; refine (mag_any _ _ (by omega) (by omega)).mono ?_; rintro e w' ⟨rfl, rfl⟩) | (go_at_call 140; refine (dvs_any _ (mag n) (mag d) _ (by omega) (by omega) (by omega) (by omega) (by simp [go_sem]) (by simp [go_sem])).mono ?_; rintro e w' ⟨rfl, nn, rfl⟩))
  all_goals go_wp2
  go_ret
  exact ⟨xAb (by rw [HV.out]; simp only [Bool.beq_eq_decide_eq]), xAk ((wa1 _ _).alloc (by simp) _) _⟩
 ·have hv := qzL (vld_no (n := n) (d := d) (fun h => hr ⟨h.1, h.2.1, h.2.2.1, h.2.2.2.1⟩))
  have hc : d < 1 ∨ (1 ≤ d ∧ 1000000 < d) ∨ (1 ≤ d ∧ d ≤ 1000000 ∧ n < -1000000000000) ∨ (1 ≤ d ∧ d ≤ 1000000 ∧ -1000000000000 ≤ n ∧ 1000000000000 < n) := by omega
  clear hr
  rcases hc with h | ⟨h, h'⟩ | ⟨h, h', h''⟩ | ⟨h, h', h'', h3⟩
  all_goals
   go_enter Tryz.func129, Tryz.ntmps129
   go_wp2
   go_ret
   exact ⟨xAb hv.out.symm, wa1 _ _⟩
end Go.Proofs.YtginnonjdbpamaaGreatDoor
/- Contracts and patches in memory. -/
namespace Go.Proofs.YtginnonjdbpamaaGreatDoor
open Go.RowKit
abbrev I64 (n : Int) : Prop := -9223372036854775808 ≤ n ∧ n ≤ 9223372036854775807
def eI (n : Int) : List Value := [.int .i64 n]
def eU (u : Uni) : List Value := [.string u.nm, .int .i64 u.kind, .int .i64 u.base, .int .i64 u.f.1, .int .i64 u.f.2]
def eA (a : Atc) : List Value := [.int .i64 a.kind, .int .i64 a.role, .int .i64 a.give, .int .i64 a.to_, .int .i64 a.unit, .int .i64 a.lot.1, .int .i64 a.lot.2]
def eS (x : Int × Int) : List Value := [.int .i64 x.1, .int .i64 x.2]
structure Km where
 k : Cla
 A : Option Addr
 cap : Nat
def eK (x : Km) : List Value := [.int .i64 x.k.kind, .int .i64 x.k.role, .int .i64 x.k.act, .int .i64 x.k.need, .slice x.A x.k.start.length x.cap, .int .i64 x.k.aft, .int .i64 x.k.grace, .bool x.k.bus, .bool x.k.fin, .int .i64 x.k.pause, .int .i64 x.k.resume, .int .i64 x.k.v.1, .int .i64 x.k.v.2, .int .i64 x.k.unit, .int .i64 x.k.to_, .bool x.k.waived]
theorem xAz (n : Int) : (eI n).length = 1 := rfl
theorem eU_len (u : Uni) : (eU u).length = 5 := rfl
theorem eA_len (a : Atc) : (eA a).length = 7 := rfl
theorem xFv (x : Int × Int) : (eS x).length = 2 := rfl
theorem eK_len (x : Km) : (eK x).length = 16 := rfl
structure Cm where
 h : Option Addr
 hc : Nat
 u : Option Addr
 uc : Nat
 a : Option Addr
 ac : Nat
 k : Option Addr
 kc : Nat
 o : Option Addr
 oc : Nat
 ks : List Km
abbrev coA (c : Con) (m : Cm) : Array Value := #[.int .i64 c.par, .slice m.h c.hold.length m.hc, .slice m.u c.un.length m.uc, .slice m.a c.ac.length m.ac, .slice m.k c.cl.length m.kc, .int .i64 c.days, .slice m.o c.off.length m.oc]
structure KOk (w : World) (x : Km) : Prop where
 s : Seg w w.heap.size 2 eS x.A x.k.start
 v : I64 x.k.v.1 ∧ I64 x.k.v.2
 n : x.k.start.length ≤ 1000000
 c : x.k.start.length ≤ x.cap
theorem KOk.then_ {w w' : World} {x : Km} (h : KOk w x) (hb : Below w.heap.size w w') : KOk w' x := ⟨(h.s.below hb).more hb.size, h.v, h.n, h.c⟩
structure Cont (w : World) (c : Con) (m : Cm) : Prop where
 h : Seg w w.heap.size 1 eI m.h c.hold
 u : Seg w w.heap.size 5 eU m.u c.un
 a : Seg w w.heap.size 7 eA m.a c.ac
 k : Seg w w.heap.size 16 eK m.k m.ks
 o : Seg w w.heap.size 1 eI m.o c.off
 e : m.ks.map (·.k) = c.cl
 t : ∀ x ∈ m.ks, KOk w x
 bu : ∀ x ∈ c.un, I64 x.f.1 ∧ I64 x.f.2
 ba : ∀ x ∈ c.ac, I64 x.lot.1 ∧ I64 x.lot.2
 nh : c.hold.length ≤ 1000000
 nu : c.un.length ≤ 1000000
 na : c.ac.length ≤ 1000000
 nk : c.cl.length ≤ 1000000
 no : c.off.length ≤ 1000000
 ch : c.hold.length ≤ m.hc
 cu : c.un.length ≤ m.uc
 ca : c.ac.length ≤ m.ac
 ck : c.cl.length ≤ m.kc
 co : c.off.length ≤ m.oc
theorem Cont.then_ {w w' : World} {c : Con} {m : Cm} (h : Cont w c m) (hb : Below w.heap.size w w') : Cont w' c m :=
 ⟨(h.h.below hb).more hb.size, (h.u.below hb).more hb.size, (h.a.below hb).more hb.size, (h.k.below hb).more hb.size, (h.o.below hb).more hb.size, h.e, fun x hx => (h.t x hx).then_ hb, h.bu, h.ba, h.nh, h.nu, h.na, h.nk, h.no, h.ch, h.cu, h.ca, h.ck, h.co⟩
theorem xAx {α : Type} {w : World} {B size : Nat} {enc : α → List Value} {A : Option Addr} {xs : List α} {k : Nat} {x : α} (h : Seg w B size enc A xs) (hx : xs[k]? = some x) :
  ∃ b off, A = some ⟨b, off, none⟩ ∧ b < B ∧ ∀ j v, (enc x)[j]? = some v → w.cell? ⟨b, off + k * size + j, none⟩ = some v := by
 obtain ⟨b, off, e, hb, hc⟩ := h k x hx
 exact ⟨b, off, e, hb, hc⟩
theorem xCv {c : Con} {m : Cm} (e : m.ks.map (·.k) = c.cl) {i : Nat} {k : Cla} (hk : c.cl[i]? = some k) : ∃ x, m.ks[i]? = some x ∧ x.k = k := by
 rw [← e, List.getElem?_map] at hk
 cases hx : m.ks[i]? with
 | none => rw [hx] at hk; cases hk
 | some x => rw [hx] at hk; exact ⟨x, rfl, Option.some.inj hk⟩
structure Pm where
 p : Option Addr
 pc : Nat
 A : Option Addr
 cap : Nat
abbrev paA (p : Pat) (m : Pm) : Array Value := (#[.int .i64 p.kind, .slice m.p p.cls.length m.pc] ++ (eK ⟨p.new, m.A, m.cap⟩).toArray) ++ #[.int .i64 p.days]
theorem coC {W : World} {b : Nat} {T : TypeId} {vs : Array Value} {c : Con} {m : Cm} (h : Blk W b T vs) (e : vs.toList.take 7 = [.int .i64 c.par, .slice m.h c.hold.length m.hc, .slice m.u c.un.length m.uc, .slice m.a c.ac.length m.ac, .slice m.k c.cl.length m.kc, .int .i64 c.days, .slice m.o c.off.length m.oc]) : W.cell? ⟨b, 0, none⟩ = some (.int .i64 c.par) ∧ W.cell? ⟨b, 1, none⟩ = some (.slice m.h c.hold.length m.hc) ∧ W.cell? ⟨b, 2, none⟩ = some (.slice m.u c.un.length m.uc) ∧ W.cell? ⟨b, 3, none⟩ = some (.slice m.a c.ac.length m.ac) ∧ W.cell? ⟨b, 4, none⟩ = some (.slice m.k c.cl.length m.kc) ∧ W.cell? ⟨b, 5, none⟩ = some (.int .i64 c.days) ∧ W.cell? ⟨b, 6, none⟩ = some (.slice m.o c.off.length m.oc) := by
 have k : ∀ i, i < 7 → W.cell? ⟨b, i, none⟩ = [.int .i64 c.par, .slice m.h c.hold.length m.hc, .slice m.u c.un.length m.uc, .slice m.a c.ac.length m.ac, .slice m.k c.cl.length m.kc, .int .i64 c.days, .slice m.o c.off.length m.oc][i]? := fun i hi => by rw [← e, List.getElem?_take_of_lt hi, Array.getElem?_toList]; exact h.cell i
 exact ⟨k 0 (by decide), k 1 (by decide), k 2 (by decide), k 3 (by decide), k 4 (by decide), k 5 (by decide), k 6 (by decide)⟩
theorem atC {W : World} {b : Nat} {T : TypeId} {vs : Array Value} {c : Atc} (h : Blk W b T vs) (e : vs.toList.take 7 = [.int .i64 c.kind, .int .i64 c.role, .int .i64 c.give, .int .i64 c.to_, .int .i64 c.unit, .int .i64 c.lot.1, .int .i64 c.lot.2]) : W.cell? ⟨b, 0, none⟩ = some (.int .i64 c.kind) ∧ W.cell? ⟨b, 1, none⟩ = some (.int .i64 c.role) ∧ W.cell? ⟨b, 2, none⟩ = some (.int .i64 c.give) ∧ W.cell? ⟨b, 3, none⟩ = some (.int .i64 c.to_) ∧ W.cell? ⟨b, 4, none⟩ = some (.int .i64 c.unit) ∧ W.cell? ⟨b, 5, none⟩ = some (.int .i64 c.lot.1) ∧ W.cell? ⟨b, 6, none⟩ = some (.int .i64 c.lot.2) := by
 have k : ∀ i, i < 7 → W.cell? ⟨b, i, none⟩ = [.int .i64 c.kind, .int .i64 c.role, .int .i64 c.give, .int .i64 c.to_, .int .i64 c.unit, .int .i64 c.lot.1, .int .i64 c.lot.2][i]? := fun i hi => by rw [← e, List.getElem?_take_of_lt hi, Array.getElem?_toList]; exact h.cell i
 exact ⟨k 0 (by decide), k 1 (by decide), k 2 (by decide), k 3 (by decide), k 4 (by decide), k 5 (by decide), k 6 (by decide)⟩
end Go.Proofs.YtginnonjdbpamaaGreatDoor
/- One walked step for 'x := l[i]' at a struct: the load, the new variable, the store. No cell is opened. -/
namespace Go.Proofs.YtginnonjdbpamaaGreatDoor
open Go.RowKit
structure ElT (P : Program) (ty : TypeId) (n : Nat) : Prop where
 u : ∃ fs, P.underlying ty = some (.struct fs)
 i : (P.info? ty).map (·.size) = some n
 z : ∃ v : Value, v.cells.size = n ∧ ∀ w : World, (zeroValue ty).run P w = .ok v w
theorem xEm (w : World) (t : TypeId) : ∀ (vs pre rest : List Value), rest.length = vs.length → (w.alloc (.cells (pre ++ rest).toArray t)).setCells w.heap.size pre.length vs = w.alloc (.cells (pre ++ vs).toArray t)
 | [], pre, rest, h => by
  obtain rfl : rest = [] := List.eq_nil_of_length_eq_zero h
  rfl
 | v :: vs, pre, rest, h => by
  cases rest with
  | nil => simp at h
  | cons r rest =>
   have h2 := xEm w t vs (pre ++ [v]) rest (by simpa using h)
   simp only [World.setCells]
   rw [World.setCell_alloc_at _ _ _ _ _ rfl]
   simp only [List.length_append, List.length_cons, List.length_nil, Nat.zero_add, List.append_assoc, qzE, qzF] at h2
   rw [show ((pre ++ r :: rest).toArray.setIfInBounds pre.length v) = (pre ++ v :: rest).toArray by simp]
   exact h2
theorem xD1 (w : World) (t : TypeId) (c : Array Value) (vs : List Value) (h : c.size = vs.length) : (w.alloc (.cells c t)).setCells w.heap.size 0 vs = w.alloc (.cells vs.toArray t) := by
 have := xEm w t vs [] c.toList (by simpa using h)
 simpa using this
theorem xAo {P : Program} {ops : Array Oper} {rest : List Oper} {o1 o2 o3 : Oper} {a : Act} {w : World} {Q : Exit → Act → World → Prop} {n : Nat} (ty : TypeId) (E : ElT P ty n) (x : Operand) (d1 d2 : Tmp)
  (g1 : o1.guard = none) (g2 : o2.guard = none) (g3 : o3.guard = none)
  (ho1 : o1.op = .load ty x) (hd1 : o1.dst = some d1) (ho2 : o2.op = .alloc ty) (hd2 : o2.dst = some d2) (ho3 : o3.op = .store ty (.tmp d2) (.tmp d1)) (hd3 : o3.dst = none)
  (b o : Nat) (hx : a.eval x = .pointer (some ⟨b, o, none⟩)) (cs : List Value) (hn : cs.length = n) (hc : w.rangeAt b o cs) (h1 : ∀ v ∈ cs, v.oneCell' = true) (hne : d1 ≠ d2) (s1 : d1 < a.tmps.size) (s2 : d2 < a.tmps.size)
  (h : wpList P ops Q rest ((a.put (some d1) (.agg cs.toArray)).put (some d2) (.pointer (some ⟨w.heap.size, 0, none⟩))) (w.alloc (.cells cs.toArray ty))) : wpList P ops Q (o1 :: o2 :: o3 :: rest) a w := by
 subst hn
 obtain ⟨⟨fs, hu⟩, hi, v, hz, hzr⟩ := E
 refine wpList_load_mid g1 ty x ho1 b o hx cs _ hc hu rfl hi ?_
 rw [hd1]
 refine wpList_plain g2 fun K hK => ?_
 have hrun : (execOp (Act.eval (a.put (some d1) (.agg cs.toArray))) o2).run P w = .ok (.value (.pointer (some ⟨w.heap.size, 0, none⟩))) (w.alloc (.cells v.cells ty)) := by
  unfold execOp
  simp only [ho2, Instr.alloc, Sem.run_bind, hzr, Result.andThen_ok, newVar, newRow]
  rfl
 unfold Oper.wp
 rw [hrun, Oper.upon_value]
 refine hK _ _ ?_
 rw [hd2]
 refine wpList_store_mid g3 ty _ _ ho3 w.heap.size 0 cs.toArray ?_ ?_ ?_ (by simpa using hi) (all_oneCell_toArray h1) ?_
 ·simp [Act.eval, Act.put, s2]
 ·simp [Act.eval, Act.put, Array.getD_eq_getD_getElem?, hne.symm, s1]
 ·intro j hj
  simp only [Nat.zero_add, List.size_toArray] at hj ⊢
  rw [World.cell?_alloc_at _ _ _ _ rfl, World.frozen?_alloc_at _ _ _ _ rfl]
  simp [hz, hj]
 ·rw [hd3]
  simp only
  rw [xD1 w ty _ cs hz]
  exact h
section
variable {P : Program} {ops : Array Oper} {Q : Exit → Act → World → Prop} {a : Act} {w : World} {rest : List Oper} {o : Oper}
theorem xGj (hw : Region.wanted o (yielded ops a.tmps) = true)
  (h : ∀ K : Act → World → Prop, (∀ a w, wpList P ops Q rest a w → K a w) → o.wp P a w K Q) : wpList P ops Q (o :: rest) a w :=
 wpList_step fun K hK => by simp only [hw, if_true]; exact h K hK
theorem xAi (hw : Region.wanted o (yielded ops a.tmps) = true) (ty : TypeId) (x : Operand) (ho : o.op = .load ty x) (g : Nat) (hx : a.eval x = .pointer (some ⟨g, 0, none⟩)) (t : TypeId) (cs : Array Value) (hg : Blk w g t cs)
  (hu : ∃ fs, P.underlying ty = some (.struct fs)) (hi : (P.info? ty).map (·.size) = some cs.size)
  (h : wpList P ops Q rest (a.put o.dst (.agg cs)) w) : wpList P ops Q (o :: rest) a w := by
 obtain ⟨fs, hu⟩ := hu
 exact xGj hw fun K hK => wp_load_row ty x ho g hx t cs (0, 0) _ hg hu rfl hi (hK _ _ h)
end
end Go.Proofs.YtginnonjdbpamaaGreatDoor
/- The walks of contract.movable, none, positive, natural and of isIndex on a table of units. -/
namespace Go.Proofs.YtginnonjdbpamaaGreatDoor
open Go.RowKit
theorem xDc (c : Con) (m : Cm) (r : Int) (w : World) : Calls Tryz.prog 107 #[.agg (coA c m), .int .i64 r] w fun e w' => e = .returned (.bool (c.mov r)) ∧ Below w.heap.size w w' := by
 go_enter Tryz.func107, Tryz.ntmps107
 go_wp2
 all_goals go_ret
 all_goals exact ⟨xAb (by first | (simp_all [Con.mov, isI]; done) | (simp_all [Con.mov, isI]; omega)), wa1 _ _⟩
theorem isIx_any (t : List Uni) (A : Option Addr) (cap : Nat) (i : Int) (w : World) : Calls Tryz.prog 139 #[.slice A t.length cap, .int .i64 i] w fun e w' => e = .returned (.bool (isI i t.length)) ∧ w' = w := by
 go_enter Tryz.func139, Tryz.ntmps139
 go_wp2
 all_goals go_ret
 all_goals exact ⟨xAb (by first | (simp_all [isI]; done) | (simp_all [isI]; omega)), rfl⟩
theorem xG0 (w : World) : Calls Tryz.prog 105 #[] w fun e w' => e = .returned (.agg #[.int .i64 0, .int .i64 1]) ∧ Below w.heap.size w w' := by
 go_enter Tryz.func105, Tryz.ntmps105
 go_wp2
 refine bodyPost_ret (by simp [results, Tryz.results105, go_sem, *]; rfl) rfl ⟨?_, ?_⟩
 ·rfl
 ·(repeat (first | exact Below.refl _ _ | refine xAk ?_ _ | refine Below.drew ?_ | refine xAc ?_ _ | refine Below.setCell ?_ (by first | omega | (simp; done) | (simp; omega)) _ | refine xAa ?_ (by assumption)))
theorem xIy (a b : Int) (w : World) (ha : I64 a) (hb : I64 b) : Calls Tryz.prog 106 #[.agg #[.int .i64 a, .int .i64 b]] w fun e w' => e = .returned (.bool (psv (a, b))) ∧ Below w.heap.size w w' := by
 have HV := qzL (fun W => xHa a b W ha.1 ha.2 hb.1 hb.2)
 clear ha hb
 by_cases h : 0 < a
 ·have t1 := qzO h
  have hp : Hid (psv (a, b) = vld a b) := by unfold Hid psv; rw [t1]; rfl
  clear h
  go_enter Tryz.func106, Tryz.ntmps106
  go_wp2_with (go_at_call 129; refine (HV.out _).mono ?_; rintro e w1 ⟨rfl, hb⟩; obtain ⟨hc, hf⟩ := bcell hb; have hz := hb.size; (try simp at hz); (have zl0 : w.heap.size < w1.heap.size := by omega); (have ze0 : w.heap.size ≤ w1.heap.size := by omega))
  go_ret
  exact ⟨xAb hp.out.symm, by (repeat (first | exact Below.refl _ _ | refine xAk ?_ _ | refine Below.drew ?_ | refine xAc ?_ _ | refine Below.setCell ?_ (by first | omega | (simp; done) | (simp; omega)) _ | refine xAa ?_ (by assumption)))⟩
 ·have t1 := qzN h
  have hp : Hid (psv (a, b) = false) := by unfold Hid psv; rw [t1]; rfl
  clear h
  go_enter Tryz.func106, Tryz.ntmps106
  go_wp2
  go_ret
  exact ⟨xAb hp.out.symm, by (repeat (first | exact Below.refl _ _ | refine xAk ?_ _ | refine Below.drew ?_ | refine xAc ?_ _ | refine Below.setCell ?_ (by first | omega | (simp; done) | (simp; omega)) _ | refine xAa ?_ (by assumption)))⟩
theorem xI1 (c : Con) (m : Cm) (a : Int) (w : World) (hs : Seg w w.heap.size 7 eA m.a c.ac) : Calls Tryz.prog 104 #[.agg (coA c m), .int .i64 a] w fun e w' => e = .returned (.bool (c.nat a)) ∧ Below w.heap.size w w' := by
 by_cases hi : isI a c.ac.length = true
 ·obtain ⟨h1, h2⟩ := xCb.1 hi
  obtain ⟨k, rfl⟩ := Int.eq_ofNat_of_zero_le h1
  have hk : k < c.ac.length := by omega
  have hx := qzJ hk
  obtain ⟨x, ex⟩ : ∃ x, c.ac[k] = x := ⟨_, rfl⟩
  rw [ex] at hx
  obtain ⟨b, off, eA', hb, hc⟩ := xAx hs hx
  have d1 : (w.alloc (.cells (coA c m) 27)).cell? ⟨b, off + k * 7, none⟩ = some (.int .i64 x.kind) := ((wa1 w _).cell (p := ⟨b, off + k * 7, none⟩) hb).trans (hc 0 _ rfl)
  have d2 : (w.alloc (.cells (coA c m) 27)).cell? ⟨b, off + k * 7 + 1, none⟩ = some (.int .i64 x.role) := ((wa1 w _).cell (p := ⟨b, off + k * 7 + 1, none⟩) hb).trans (hc 1 _ rfl)
  have HR : Hid (c.nat k = (x.kind == 1 && x.role == -1)) := by
   unfold Hid Con.nat
   rw [hi]
   simp only [Int.toNat_natCast, hx, Bool.true_and]
  have t1 : decide ((0 : Int) ≤ (k : Int)) = true := qzO (by omega)
  have t2 : decide ((k : Int) < (c.ac.length : Int)) = true := qzO (by omega)
  clear hc ex hx hs hi h1 h2
  go_enter Tryz.func104, Tryz.ntmps104
  go_wp2
  all_goals go_ret
  all_goals exact ⟨xAb (by rw [HR.out]; simp_all), wa1 _ _⟩
 ·have HR : Hid (c.nat a = false) := by
   unfold Hid Con.nat
   rw [Bool.eq_false_iff.2 hi]; rfl
  have hno : a < 0 ∨ (0 ≤ a ∧ ¬ a < c.ac.length) := by
   rcases Int.lt_or_le a 0 with h | h
   ·exact .inl h
   ·exact .inr ⟨h, fun h2 => hi (xCb.2 ⟨h, h2⟩)⟩
  clear hi hs
  rcases hno with h | ⟨h, h2⟩
  ·have t1 : decide (0 ≤ a) = false := qzN (by omega)
   clear h
   go_enter Tryz.func104, Tryz.ntmps104
   go_wp2
   go_ret
   exact ⟨xAb HR.out.symm, wa1 _ _⟩
  ·have t1 := qzO h
   have t2 := qzN h2
   clear h h2
   go_enter Tryz.func104, Tryz.ntmps104
   go_wp2
   go_ret
   exact ⟨xAb HR.out.symm, wa1 _ _⟩
end Go.Proofs.YtginnonjdbpamaaGreatDoor
/- The walk of contract.validKind. -/
namespace Go.Proofs.YtginnonjdbpamaaGreatDoor
open Go.RowKit
abbrev kA (x : Km) : Array Value := #[.int .i64 x.k.kind, .int .i64 x.k.role, .int .i64 x.k.act, .int .i64 x.k.need, .slice x.A x.k.start.length x.cap, .int .i64 x.k.aft, .int .i64 x.k.grace, .bool x.k.bus, .bool x.k.fin, .int .i64 x.k.pause, .int .i64 x.k.resume, .int .i64 x.k.v.1, .int .i64 x.k.v.2, .int .i64 x.k.unit, .int .i64 x.k.to_, .bool x.k.waived]
theorem kind_key (c : Con) (m : Cm) (x : Km) (mv nt : Bool) (w : World) (HM : Hid (∀ W, Calls Tryz.prog 107 #[.agg (coA c m), .int .i64 x.k.role] W fun e w' => e = .returned (.bool mv) ∧ Below W.heap.size W w')) (HN : Hid (∀ W, Below w.heap.size w W → Calls Tryz.prog 104 #[.agg (coA c m), .int .i64 x.k.act] W fun e w' => e = .returned (.bool nt) ∧ Below W.heap.size W w'))
  (R : Bool) (hR : Hid (R = if x.k.kind == 4 then x.k.role == -1 && x.k.need == 1 && x.k.grace == 0 && !x.k.fin else mv && !nt && (
   if x.k.kind == 1 then decide (1 ≤ x.k.need) && decide (x.k.need ≤ 9) && decide (0 ≤ x.k.grace) && decide (x.k.grace ≤ 400)
   else if x.k.kind == 2 then x.k.need == 1 && x.k.grace == 0
   else x.k.kind == 3 && x.k.need == 1 && x.k.grace == 0 && !x.k.fin))) :
  Calls Tryz.prog 103 #[.agg (coA c m), .agg (kA x)] w fun e w' => e = .returned (.bool R) ∧ Below w.heap.size w w' := by
 cases mv <;> cases nt
 all_goals
  go_enter Tryz.func103, Tryz.ntmps103
  go_wp2_with (first | (go_at_call 107; refine (HM.out _).mono ?_; rintro e w1 ⟨rfl, hb⟩; obtain ⟨hc, hf⟩ := bcell hb; have hz := hb.size; (try simp at hz); (have zl0 : w.heap.size < w1.heap.size := by omega); (have ze0 : w.heap.size ≤ w1.heap.size := by omega); (have zl1 : w.heap.size + 1 < w1.heap.size := by omega); (have ze1 : w.heap.size + 1 ≤ w1.heap.size := by omega)) | (go_at_call 104; refine (HN.out _ (by (repeat (first | exact Below.refl _ _ | refine xAk ?_ _ | refine Below.drew ?_ | refine xAc ?_ _ | refine Below.setCell ?_ (by first | omega | (simp; done) | (simp; omega)) _ | refine xAa ?_ (by assumption))))).mono ?_; rintro e w1 ⟨rfl, hb⟩; obtain ⟨hc, hf⟩ := bcell hb; have hz := hb.size; (try simp at hz); (have zl0 : w.heap.size < w1.heap.size := by omega); (have ze0 : w.heap.size ≤ w1.heap.size := by omega); (have zl1 : w.heap.size + 1 < w1.heap.size := by omega); (have ze1 : w.heap.size + 1 ≤ w1.heap.size := by omega)))
  all_goals go_ret
  all_goals exact ⟨xAb (by rw [hR.out]; first | (simp_all; done) | (simp_all; omega)), by (repeat (first | exact Below.refl _ _ | refine xAk ?_ _ | refine Below.drew ?_ | refine xAc ?_ _ | refine Below.setCell ?_ (by first | omega | (simp; done) | (simp; omega)) _ | refine xAa ?_ (by assumption)))⟩
end Go.Proofs.YtginnonjdbpamaaGreatDoor
