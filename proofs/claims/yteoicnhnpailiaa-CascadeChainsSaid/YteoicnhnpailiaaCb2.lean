/- The walk of the closure that adds an amount (cascade.owed$1). What a call may change: two blocks. -/
import Derived.Test.YteoicnhnpailiaaCb1
namespace Go.Proofs.Yteoicnhnpailiaa
open Go.RowKit Go.Sort

/-- everything stays but two blocks -/
structure Kp (x y : Nat) (w w' : World) : Prop where
  os : w'.os = w.os
  tape : w'.tape = w.tape
  output : w'.output = w.output
  size : w.heap.size ≤ w'.heap.size
  block : ∀ k, k < w.heap.size → k ≠ x → k ≠ y → w'.heap[k]? = w.heap[k]?
section
variable {x y : Nat} {w w' w'' : World}
theorem Kp.refl (x y : Nat) (w : World) : Kp x y w w := ⟨rfl, rfl, rfl, Nat.le_refl _, fun _ _ _ _ => rfl⟩
theorem Kp.of (h : Below w.heap.size w w') : Kp x y w w' := ⟨h.os, h.tape, h.output, h.size, fun k hk _ _ => h.block k hk⟩
theorem Kp.trans (h : Kp x y w w') (h' : Kp x y w' w'') : Kp x y w w'' :=
  ⟨h'.os.trans h.os, h'.tape.trans h.tape, h'.output.trans h.output, Nat.le_trans h.size h'.size, fun k hk h1 h2 => (h'.block k (Nat.lt_of_lt_of_le hk h.size) h1 h2).trans (h.block k hk h1 h2)⟩
theorem Kp.setX (h : Kp x y w w') {o : Nat} (v : Value) : Kp x y w (w'.setCell ⟨x, o, none⟩ v) :=
  ⟨h.os, h.tape, h.output, by simpa using h.size, fun k hk h1 h2 => (Below.heap_setCell _ _ _ _ h1).trans (h.block k hk h1 h2)⟩
theorem Kp.setY (h : Kp x y w w') {o : Nat} (v : Value) : Kp x y w (w'.setCell ⟨y, o, none⟩ v) :=
  ⟨h.os, h.tape, h.output, by simpa using h.size, fun k hk h1 h2 => (Below.heap_setCell _ _ _ _ h2).trans (h.block k hk h1 h2)⟩
theorem Kp.blk {g : Nat} {t : TypeId} {cs : Array Value} (h : Kp x y w w') (hg : Blk w g t cs) (h1 : g ≠ x) (h2 : g ≠ y) : Blk w' g t cs := (h.block g hg.lt h1 h2).trans hg
theorem Kp.below {B : Nat} (h : Kp x y w w') (h1 : B ≤ x) (h2 : B ≤ y) (h3 : B ≤ w.heap.size) : Below B w w' := ⟨h.os, h.tape, h.output, h.size, fun k hk => h.block k (by omega) (by omega) (by omega)⟩
theorem Kp.own {α : Type} {B : Nat} {T : TypeId} {size : Nat} {enc : α → List Value} {v : Value} {xs : List α} (h : Kp x y w w') (ho : Own w B T size enc v xs) (hn : ∀ k, v.ownBlock = some k → k ≠ x ∧ k ≠ y) : Own w' B T size enc v xs := by
  refine ⟨ho.1, ?_⟩
  rcases ho.2 with h2 | ⟨g, cap, cur, hv, hg', hh, r⟩
  · exact .inl h2
  · have := hn g (by rw [hv]; rfl)
    exact .inr ⟨g, cap, cur, hv, hg', (h.block g (Array.getElem?_eq_some_iff.1 hh).1 this.1 this.2).trans hh, r⟩
end
def stN (s : Option Rat) : Int := match s with | some q => q.num | none => 0
def stD (s : Option Rat) : Int := match s with | some q => q.den | none => 0
def stE (s : Option Rat) : Int := match s with | some _ => 0 | none => 2
/-- the sum and its error in memory -/
structure St (w : World) (bE bT : Nat) (s : Option Rat) : Prop where
  e : Blk w bE 31 #[.int .i64 (stE s)]
  t : Blk w bT 44 #[.int .i64 (stN s), .int .i64 (stD s)]
  r : ∀ q, s = some q → inR q = true
theorem St.then_ {w w' : World} {bE bT : Nat} {s : Option Rat} (h : St w bE bT s) (hb : Below w.heap.size w w') : St w' bE bT s := ⟨h.e.then_ hb, h.t.then_ hb, h.r⟩
theorem addE_some (s q : Rat) : stN (addE (some s) q) = oN (s + q) ∧ stD (addE (some s) q) = oD (s + q) ∧ stE (addE (some s) q) = oE (s + q) := by
  unfold addE
  cases h : inR (s + q) with
  | true => simp [h, stN, stD, stE, oN_yes h, oD_yes h, oE_yes h]
  | false => simp [h, stN, stD, stE, oN_no h, oD_no h, oE_no h]
set_option maxRecDepth 100000 in
set_option maxHeartbeats 1600000 in
theorem oadd_any (q : Rat) (s : Option Rat) (bE bT : Nat) (w : World) (hq : inR q = true) (hne : bE ≠ bT) (hs : St w bE bT s) :
    Calls Try.prog 50 #[.agg #[.int .i64 q.num, .int .i64 q.den], .pointer (some ⟨bE, 0, none⟩), .pointer (some ⟨bT, 0, none⟩)] w fun e w' => e = .returned (.tuple #[]) ∧ St w' bE bT (addE s q) ∧ Kp bE bT w w' := by
  obtain ⟨hE, hT, hR⟩ := hs
  have lE := hE.lt
  have lT := hT.lt
  obtain ⟨e0, fe⟩ := hE.one
  obtain ⟨t0, t1, ft0, ft1⟩ := hT.two
  cases s with
  | none =>
    have HE := Lib.hid hE
    have HT := Lib.hid hT
    simp only [stE, stN, stD] at e0 t0 t1
    clear hE hT hR
    go_enter Try.func50, Try.ntmps50
    go_wp2
    refine bodyPost_ret (results_none rfl _ _ _) rfl ?_
    exact ⟨rfl, ⟨HE.out.alloc _, HT.out.alloc _, fun _ h => by cases h⟩, Kp.of (wa1 _ _)⟩
  | some a =>
    have hr := hR a rfl
    have HE := Lib.hid hE
    have HT := Lib.hid hT
    obtain ⟨a1, a2, a3⟩ := addE_some a q
    have HA := Lib.hid (And.intro a1 (And.intro a2 a3))
    have HI : Hid (∀ z, addE (some a) q = some z → inR z = true) := fun z hz => by
      unfold addE at hz
      by_cases h : inR (a + q) = true
      · simp [h] at hz; rw [← hz]; exact h
      · simp [h] at hz
    have HK := Lib.hid (fun W => add_any a q W hr hq)
    simp only [stE, stN, stD] at e0 t0 t1
    clear hE hT hR a1 a2 a3
    go_enter Try.func50, Try.ntmps50
    go_wp2_with (go_at_call 19; with_reducible refine (HK.out _).mono ?_; rintro e w1 ⟨rfl, hb⟩; have hb' := below_then (wa1 _ _) hb; have h1 : bE < w1.heap.size := Nat.lt_of_lt_of_le lE hb'.size; have h2 : bT < w1.heap.size := Nat.lt_of_lt_of_le lT hb'.size; obtain ⟨g0, gf⟩ := (HE.out.then_ hb').one; obtain ⟨g1, g2, gf1, gf2⟩ := (HT.out.then_ hb').two; simp only [stE, stN, stD] at g0 g1 g2; clear hb)
    go_end0
    refine ⟨rfl, ⟨?_, ?_, HI.out⟩, (((Kp.of hb').setY _).setY _).setX _⟩
    · rw [HA.out.2.2]
      exact (((HE.out.then_ hb').far hne _).far hne _).set_ 0 _
    · rw [HA.out.1, HA.out.2.1]
      exact ((HT.out.then_ hb').setT0.setT1).far hne.symm _
end Go.Proofs.Yteoicnhnpailiaa
