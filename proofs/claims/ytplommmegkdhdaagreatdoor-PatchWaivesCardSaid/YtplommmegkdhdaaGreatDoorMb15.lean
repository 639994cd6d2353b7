/- Contracts of functions and plain laws, joined: Apl, Px0, Kc5, Kc6, Kc7. -/
import Derived.Test.YtplommmegkdhdaaGreatDoorMb9
import Derived.Test.YtplommmegkdhdaaGreatDoorMb4
import Derived.Test.YtplommmegkdhdaaGreatDoorMb14
import Derived.Test.YtplommmegkdhdaaGreatDoorMb13
/- Append of a whole list to a slice of the call's own, at one operation; what stays beside it. -/
namespace Go.Proofs.YtplommmegkdhdaaGreatDoor
open Go.RowKit

theorem wp_app_list {P : Program} {α : Type} (w : World) {o : Oper} {a : Act} {K : Act → World → Prop} {Q : Exit → Act → World → Prop} (s x : Operand) (t : TypeId)
    (ho : o.op = .call { callee := .builtin .append, args := #[s, x], argTypes := #[t, t] })
    (B : Nat) (e : TypeId) (i : TypeInfo) (z : Value) (size bytes : Nat) (ht : P.underlying t = some (.slice e)) (hi : P.info? e = some i) (hz : i.zero = some z)
    (hsize : i.size = size) (hby : i.bytes = bytes) (hzs : z.cells.size = size) (hsz : 0 < size) (hb1 : bytes ≤ 100000)
    (enc : α → List Value) (he : ∀ y, (enc y).length = size) (h1 : ∀ y, ∀ u ∈ enc y, u.oneCell' = true)
    (v : Value) (xs : List α) (hs : a.eval s = v) (hown : Own w B e size enc v xs)
    (A : Option Addr) (l : List α) (c n : Nat) (hx : a.eval x = .slice A n c) (hn : n = l.length) (hl : xs.length + l.length ≤ 1000000) (C : Nat) (hsrc : Seg w C size enc A l) (hnil : A = none → l = [] ∧ c = 0) (hbase : B ≤ w.heap.size)
    (h : ∀ v' w', Own w' B e size enc v' (xs ++ l) → Below B w w' → w.grownBy w' v.ownBlock → K (a.put o.dst v') w') : o.wp P a w K Q := by
  subst hn
  cases A with
  | none =>
    obtain ⟨rfl, rfl⟩ := hnil rfl
    have hrun := run_append_owned_none (P := P) (w := w) B t o.type e i size ht hi v xs.length (xs.flatMap enc) hown
    have h2 := h v w (by simpa using hown) (Below.refl _ _) (grown_of_below (Below.refl _ _) _)
    unfold Oper.wp
    simp [execOp, ho, resolve, invoke, builtin, hs, hx, hrun, Result.andThen]
    exact h2
  | some A =>
    refine wp_append_own w s x t ho B e i z size bytes ht hi hz hsize hby hzs hsz v xs.length (xs.flatMap enc) hs hown A l.length c (l.flatMap enc) hx (flat_len he l) (src_cells he hsz hsrc) ?_ (by unfold maxLen; omega) ?_ hbase ?_
    · intro u hu
      obtain ⟨y, _, hy⟩ := List.mem_flatMap.1 hu
      exact h1 y u hy
    · have : (xs.length + l.length) * bytes ≤ 1000000 * 100000 := Nat.mul_le_mul hl hb1
      omega
    · intro v' w' h2 h3 h4
      refine h v' w' ?_ ((Below.refl B w).grown h3 hbase fun k hk => (World.ownsRow.lt hown k hk).1) h3
      unfold Own
      rw [List.length_append, List.flatMap_append]
      exact h2
theorem Blk.grownBy {α : Type} {w w' : World} {b : Nat} {t : TypeId} {cs : Array Value} {B : Nat} {T : TypeId} {size : Nat} {enc : α → List Value} {v : Value} {xs : List α} (h : Blk w b t cs) (hO : Own w B T size enc v xs) (hT : T ≠ t) (hg : w.grownBy w' v.ownBlock) : Blk w' b t cs := by
  have hne : v.ownBlock ≠ some b := fun e => by
    rcases hO.2 with ⟨e1, _⟩ | ⟨k, cap, cur, hv, _, hh, _⟩
    · rw [e1] at e; cases e
    · rw [hv] at e
      obtain rfl : k = b := Option.some.inj e
      have h2 := h.symm.trans hh
      injection h2 with h2
      injection h2 with _ h3 _
      exact hT h3.symm
  exact (hg.block b h.lt (Ne.symm hne)).trans h
theorem own_new {α : Type} {B size : Nat} {enc : α → List Value} {W V : World} {T : TypeId} (h : V = W.alloc (.cells #[] T)) (hB : B ≤ W.heap.size) : Own V B T size enc (.slice (some ⟨W.heap.size, 0, none⟩) 0 0) [] ∧ Below W.heap.size W V := by
  subst h
  exact ⟨⟨by simp, .inr ⟨W.heap.size, 0, #[], rfl, hB, Blk.new _ _ _, Nat.le_refl _, by simp, by simp, by simp⟩⟩, wa1 _ _⟩
end Go.Proofs.YtplommmegkdhdaaGreatDoor
/- Where the variables of patch.Parse lie, and what a read number leaves of them. -/
namespace Go.Proofs.YtplommmegkdhdaaGreatDoor
open Go.RowKit

/-- the cells of a patch that is being read -/
abbrev pcs (kd : Int) (v : Value) (a b c d : Int) (sl : Value) (e f : Int) (bu fi : Bool) (g h i j k l : Int) (wv : Bool) (dy : Int) : Array Value :=
  #[.int .i64 kd, v, .int .i64 a, .int .i64 b, .int .i64 c, .int .i64 d, sl, .int .i64 e, .int .i64 f, .bool bu, .bool fi, .int .i64 g, .int .i64 h, .int .i64 i, .int .i64 j, .int .i64 k, .int .i64 l, .bool wv, .int .i64 dy]
abbrev paZ : Array Value := pcs 0 (.slice none 0 0) 0 0 0 0 (.slice none 0 0) 0 0 false false 0 0 0 0 0 0 false 0
structure Ds (w0 : World) (A R X P : Nat) : Prop where
  a : w0.heap.size ≤ A
  r : w0.heap.size ≤ R
  x : w0.heap.size ≤ X
  p : w0.heap.size ≤ P
  ar : A ≠ R
  xr : X ≠ R
  pr : P ≠ R
  ap : A ≠ P
  xp : X ≠ P
/-- the variables: the result, the reader's pointer, the patch being read (with the cells cs), the reader (in the state s) -/
structure PsW (w0 W : World) (A R X P : Nat) (cs : Array Value) (s : Rs) : Prop where
  a : Blk W A 34 paZ
  r : Blk W R 83 (rdA s)
  x : Blk W X 81 #[.pointer (some ⟨R, 0, none⟩)]
  p : Blk W P 34 cs
  k : Below w0.heap.size w0 W
  n : s.rest.length ≤ 1000000
section
variable {w0 W W' : World} {A R X P : Nat} {cs : Array Value} {s s' : Rs}
theorem PsW.kp (h : PsW w0 W A R X P cs s) (d : Ds w0 A R X P) (k : Kp R R W W') (hr : Blk W' R 83 (rdA s')) (hb : Below w0.heap.size w0 W') (hn : s'.rest.length ≤ 1000000) : PsW w0 W' A R X P cs s' :=
  ⟨k.blk h.a d.ar d.ar, hr, k.blk h.x d.xr d.xr, k.blk h.p d.pr d.pr, hb, hn⟩
theorem PsW.then_ (h : PsW w0 W A R X P cs s) (hb : Below W.heap.size W W') : PsW w0 W' A R X P cs s :=
  ⟨h.a.then_ hb, h.r.then_ hb, h.x.then_ hb, h.p.then_ hb, below_then h.k hb, h.n⟩
theorem PsW.set (h : PsW w0 W A R X P cs s) (d : Ds w0 A R X P) (o : Nat) (v : Value) {cs' : Array Value} (e : cs.setIfInBounds o v = cs') : PsW w0 (W.setCell ⟨P, o, none⟩ v) A R X P cs' s :=
  ⟨h.a.far (p := ⟨P, o, none⟩) d.ap _, h.r.far (p := ⟨P, o, none⟩) (Ne.symm d.pr) _, h.x.far (p := ⟨P, o, none⟩) d.xp _, by rw [← e]; exact h.p.set_ o v, h.k.setCell (p := ⟨P, o, none⟩) d.p _, h.n⟩
theorem PsW.grown {α : Type} {B : Nat} {T : TypeId} {size : Nat} {enc : α → List Value} {v : Value} {xs : List α} (h : PsW w0 W A R X P cs s) (hO : Own W B T size enc v xs) (h1 : T ≠ 34) (h2 : T ≠ 83) (h3 : T ≠ 81) (hg : W.grownBy W' v.ownBlock) (hb : Below w0.heap.size W W') : PsW w0 W' A R X P cs s :=
  ⟨h.a.grownBy hO h1 hg, h.r.grownBy hO h2 hg, h.x.grownBy hO h3 hg, h.p.grownBy hO h1 hg, h.k.trans hb, h.n⟩
theorem Own.kp {α : Type} {B : Nat} {T : TypeId} {size : Nat} {enc : α → List Value} {v : Value} {xs : List α} (h : Own W B T size enc v xs) (k : Kp R R W W') (hR : R < B) : Own W' B T size enc v xs := by
  refine World.ownsRow.kept h (row := some R) ⟨k.os, k.tape, k.output, k.size, fun i hi hne => k.block i hi (fun e => hne (by rw [e])) (fun e => hne (by rw [e]))⟩ ?_
  cases hv : v.ownBlock with
  | none => exact .inl rfl
  | some g =>
    refine .inr fun e => ?_
    have := (World.ownsRow.lt h g hv).1
    injection e with e
    omega
theorem own_ne_ty {α β : Type} {w : World} {B B' : Nat} {T T' : TypeId} {size size' : Nat} {enc : α → List Value} {enc' : β → List Value} {v v' : Value} {xs : List α} {ys : List β} (h : Own w B T size enc v xs) (h' : Own w B' T' size' enc' v' ys) (hT : T ≠ T') : ∀ k, v.ownBlock = some k → v'.ownBlock ≠ some k := by
  intro k hk e
  rcases h.2 with ⟨h5, _⟩ | ⟨g, cap, cur, hv, _, hh, _⟩
  · rw [h5] at hk; cases hk
  rcases h'.2 with ⟨h6, _⟩ | ⟨g', cap', cur', hv', _, hh', _⟩
  · rw [h6] at e; cases e
  rw [hv] at hk
  rw [hv'] at e
  have e1 : g = k := Option.some.inj hk
  have e2 : g' = k := Option.some.inj e
  rw [e1] at hh
  rw [e2] at hh'
  have h2 := hh.symm.trans hh'
  injection h2 with h2
  injection h2 with _ h3 _
  exact hT h3
theorem Own.grownT {α β : Type} {w w' : World} {B B' : Nat} {T T' : TypeId} {size size' : Nat} {enc : α → List Value} {enc' : β → List Value} {v v' : Value} {xs : List α} {ys : List β} (h : Own w B T size enc v xs) (h' : Own w B' T' size' enc' v' ys) (hT : T ≠ T') (hg : w.grownBy w' v'.ownBlock) : Own w' B T size enc v xs :=
  World.ownsRow.kept h hg (by
    cases hq : v.ownBlock with
    | none => exact .inl rfl
    | some k => exact .inr fun e => own_ne_ty h h' hT k hq e.symm)
theorem Own.updN {α : Type} {w w' : World} {g B : Nat} {T : TypeId} {size : Nat} {enc : α → List Value} {v : Value} {xs : List α} (h : Own w B T size enc v xs) (u : Upd w w' g) (hne : ∀ k, v.ownBlock = some k → k ≠ g) : Own w' B T size enc v xs :=
  World.ownsRow.kept h (row := some g) ⟨(u.b 0 (Nat.zero_le _)).os, (u.b 0 (Nat.zero_le _)).tape, (u.b 0 (Nat.zero_le _)).output, by rw [u.s]; exact Nat.le_refl _, fun i hi hx => u.f i (fun e => hx (by rw [e]))⟩ (by
    cases hq : v.ownBlock with
    | none => exact .inl rfl
    | some k => exact .inr fun e => hne k hq (Option.some.inj e))
theorem PsW.upd {g : Nat} (h : PsW w0 W A R X P cs s) (u : Upd W W' g) (h0 : w0.heap.size ≤ g) (hA : A ≠ g) (hR : R ≠ g) (hX : X ≠ g) (hP : P ≠ g) : PsW w0 W' A R X P cs s :=
  ⟨h.a.upd u hA, h.r.upd u hR, h.x.upd u hX, h.p.upd u hP, h.k.trans (u.b _ h0), h.n⟩
theorem seg_blk {α : Type} {w : World} {g : Nat} {T : TypeId} {size : Nat} {enc : α → List Value} {xs : List α} (he : ∀ x, (enc x).length = size) (h : Blk w g T (xs.flatMap enc).toArray) : Seg w w.heap.size size enc (some ⟨g, 0, none⟩) xs := fun k x hx => by
  refine ⟨g, 0, rfl, h.lt, fun j u hu => ?_⟩
  have hj : j < size := by rw [← he x]; exact (List.getElem?_eq_some_iff.1 hu).1
  rw [Nat.zero_add, h.cell, List.getElem?_toArray, getElem?_flatMap he xs k j x hx hj]
  exact hu
theorem own_open {α : Type} {w : World} {B : Nat} {T : TypeId} {size : Nat} {enc : α → List Value} {v : Value} {xs : List α} (h : Own w B T size enc v xs) : ∃ A n c, v = .slice A n c := by
  rcases h.2 with ⟨h5, _⟩ | ⟨g, cap, cur, hv, _⟩
  · exact ⟨_, _, _, h5⟩
  · exact ⟨_, _, _, hv⟩
theorem num_len (s : Rs) : s.num.2.rest.length ≤ s.rest.length := by
  cases h : rd s.rest with
  | none => rw [num_no h]; exact Nat.zero_le _
  | some q =>
    obtain ⟨n, t⟩ := q
    rw [num_yes h]
    have := (rd_some h).1
    rw [this, List.length_append]
    exact Nat.le_add_left _ _
theorem upTo_len (s : Rs) (m : Int) : (s.upTo m).2.rest.length ≤ s.rest.length := by
  unfold Rs.upTo
  split
  · exact Nat.zero_le _
  · exact num_len s
theorem PsW.num (h : PsW w0 W A R X P cs s) (hL : Lw w0) (d : Ds w0 A R X P) {n : Int} (e : s.num = (n, s')) :
    Calls Tryz.prog 32 #[.pointer (some ⟨R, 0, none⟩)] W fun e w' => e = .returned (.int .i64 n) ∧ PsW w0 w' A R X P cs s' ∧ Kp R R W w' := by
  refine (number_any w0 hL R d.r s W h.k h.r h.n).mono ?_
  rintro e' w' ⟨rfl, h1, h2, h3⟩
  have hl := num_len s
  rw [e] at h1 hl
  exact ⟨by rw [e], h.kp d h2 h1 h3 (Nat.le_trans hl h.n), h2⟩
theorem PsW.up (h : PsW w0 W A R X P cs s) (hL : Lw w0) (d : Ds w0 A R X P) (m : Int) {n : Int} (e : s.upTo m = (n, s')) :
    Calls Tryz.prog 34 #[.pointer (some ⟨R, 0, none⟩), .int .i64 m] W fun e w' => e = .returned (.int .i64 n) ∧ PsW w0 w' A R X P cs s' ∧ Kp R R W w' := by
  refine (upTo_any w0 hL R d.r s m W h.k h.r h.n).mono ?_
  rintro e' w' ⟨rfl, h1, h2, h3⟩
  have hl := upTo_len s m
  rw [e] at h1 hl
  exact ⟨by rw [e], h.kp d h2 h1 h3 (Nat.le_trans hl h.n), h2⟩
theorem PsW.flag (h : PsW w0 W A R X P cs s) (hL : Lw w0) (d : Ds w0 A R X P) {b : Bool} {n : Int} (e : s.upTo 1 = (n, s')) (hb : (n == 1) = b) :
    Calls Tryz.prog 33 #[.pointer (some ⟨X, 0, none⟩)] W fun e w' => e = .returned (.bool b) ∧ PsW w0 w' A R X P cs s' ∧ Kp R R W w' := by
  refine (flag_any w0 hL R X d.r s W h.k h.r h.x h.n).mono ?_
  rintro e' w' ⟨rfl, h1, h2, h3⟩
  have hl := upTo_len s 1
  rw [e] at h1 hl
  exact ⟨by rw [e, hb], h.kp d h2 h1 h3 (Nat.le_trans hl h.n), h2⟩
theorem upTo_rng (s : Rs) {m : Int} (hm : 0 ≤ m) : 0 ≤ (s.upTo m).1 ∧ (s.upTo m).1 ≤ m := by
  unfold Rs.upTo
  split
  · exact ⟨Int.le_refl _, hm⟩
  · rename_i h; exact ⟨by omega, by omega⟩
end
end Go.Proofs.YtplommmegkdhdaaGreatDoor
/- Plain: patches that waive and give days: when they commute. -/
namespace Go.Proofs.YtplommmegkdhdaaGreatDoor

theorem kinds {k : Int} (h : known k = true) : k = 1 ∨ k = 2 ∨ k = 3 ∨ k = 4 ∨ k = 5 := by
  unfold known at h
  simp only [Bool.or_eq_true, beq_iff_eq] at h
  omega
theorem Fit.days {c : Con} {p : Pat} (h : Fit c p) (hk : p.kind = 5) : 1 ≤ p.days ∧ p.days ≤ 400 := by
  have := h.fi
  unfold Pat.fits at this
  simp only [Bool.and_eq_true] at this
  have h2 := this.2
  rw [if_pos (by simpa using hk)] at h2
  simpa using h2
theorem Fit.start {c : Con} {p : Pat} (h : Fit c p) (hk : 3 ≤ p.kind) : p.new.start = [] := by
  have := h.fi
  unfold Pat.fits at this
  simp only [Bool.and_eq_true, Bool.or_eq_true, beq_iff_eq] at this
  have h2 := this.1.2
  have h3 : zeroC p.new = true := by
    rcases h2 with (h2 | h2) | h2
    · omega
    · omega
    · exact h2
  unfold zeroC at h3
  simp only [Bool.and_eq_true, decide_eq_true_eq] at h3
  exact List.eq_nil_of_length_eq_zero h3.1.1.1.1.1.1.1.1.1.1.1.1.1.1
/-- a mild patch's change of one clause -/
theorem one_cases (p : Pat) (h : p.kind ≠ 2) (k : Cla) : p.one k = if p.kind = 5 then { k with aft := p.days } else { k with waived := true } := by
  unfold Pat.one
  rw [if_neg (by simpa using h)]
  by_cases h5 : p.kind = 5
  · rw [if_pos (by simpa using h5), if_pos h5]
  · rw [if_neg (by simpa using h5), if_neg h5]
theorem claOk_one {c : Con} {p : Pat} (hk : p.kind ≠ 2) (hd : p.kind = 5 → 1 ≤ p.days ∧ p.days ≤ 400) {i : Nat} {k : Cla} (h : c.claOk i k = true) : c.claOk i (p.one k) = true := by
  rw [one_cases p hk]
  by_cases h5 : p.kind = 5
  · rw [if_pos h5]
    have := hd h5
    unfold Con.claOk at h ⊢
    simp only [Bool.and_eq_true, decide_eq_true_eq] at h ⊢
    obtain ⟨⟨⟨⟨⟨⟨⟨a1, a2⟩, a3⟩, a4⟩, a5⟩, a6⟩, a7⟩, a8⟩ := h
    exact ⟨⟨⟨⟨⟨⟨⟨a1, this.1⟩, this.2⟩, a4⟩, a5⟩, a6⟩, a7⟩, a8⟩
  · rw [if_neg h5]
    exact h
theorem mild_after {c : Con} {p q : Pat} (hp : Fit c p) (hq : Fit c q) (kp : 3 ≤ p.kind) (kq : 3 ≤ q.kind) : Fit (c.ap p) q := by
  have lp := do_len (p := p) c.cl
  have lpq := do_len (p := q) (p.do_ c.cl)
  rw [if_neg (by omega)] at lp lpq
  have xp : (c.wc (p.do_ c.cl)).ok = true := hp.re
  rw [ok_wc] at xp
  have hcl : (c.ap p).cl = p.do_ c.cl := rfl
  refine ⟨hp.re, hq.kn, ?_, fun h => by omega, ?_⟩
  · rw [hcl, lp]; exact hq.fi
  · show (c.wc (q.do_ (p.do_ c.cl))).ok = true
    rw [ok_wc]
    refine ⟨⟨xp.1.1, by rw [lpq]; exact xp.1.2⟩, xp.2.1, ?_⟩
    intro i k hik
    rw [do_get (fun x hx => (hq.cls x hx).1) (by omega)] at hik
    cases ha : (p.do_ c.cl)[i]? with
    | none => rw [ha] at hik; cases hik
    | some a =>
      rw [ha] at hik
      simp only [Option.map_some, Option.some.injEq] at hik
      have h1 := claOk_mono (m := q.do_ (p.do_ c.cl)) (by rw [lpq]; omega) (xp.2.2 i a ha)
      by_cases hi : (i : Int) ∈ q.cls
      · rw [if_pos hi] at hik
        subst hik
        exact claOk_one (by omega) (fun h => hq.days h) h1
      · rw [if_neg hi] at hik
        subst hik
        exact h1
theorem mild_law {c : Con} {p q : Pat} (hp : c.apE p = 0) (hq : c.apE q = 0) (kp : 3 ≤ p.kind) (kq : 3 ≤ q.kind) (hx : ∃ x, x ∈ c.tch p ∧ x ∈ c.tch q) : c.com p q = true ↔ ¬ (p.kind = 5 ∧ q.kind = 5 ∧ p.days ≠ q.days) := by
  rw [apE_iff] at hp hq
  have f1 := mild_after hp hq kp kq
  have f2 := mild_after hq hp kq kp
  obtain ⟨a1, a2⟩ := al2 hp f1
  obtain ⟨b1, b2⟩ := al2 hq f2
  have hk : ¬ (p.kind = 1 ∧ q.kind = 1) := by omega
  have hcom : c.com p q = true ↔ q.do_ (p.do_ c.cl) = p.do_ (q.do_ c.cl) := by
    unfold Con.com
    rw [a1, b1, a2, b2, if_neg hk]
    simp only [decide_true, Bool.true_and, decide_eq_true_eq]
    exact Iff.rfl
  rw [hcom]
  constructor
  · rintro h ⟨h5, h6, hne⟩
    obtain ⟨x, hx1, hx2⟩ := hx
    unfold Con.tch at hx1 hx2
    rw [hp.start kp, if_neg (by omega)] at hx1
    rw [hq.start kq, if_neg (by omega)] at hx2
    simp only [List.append_nil, List.map_nil] at hx1 hx2
    obtain ⟨y0, y1⟩ := hp.cls x hx1
    have e := congrArg (fun l => l[x.toNat]?) h
    have lx : x.toNat < c.cl.length := by omega
    have ex : ((x.toNat : Nat) : Int) = x := by omega
    rw [do_get (fun x hx => (hq.cls x hx).1) (by omega), do_get (fun x hx => (hp.cls x hx).1) (by omega), do_get (fun x hx => (hp.cls x hx).1) (by omega), do_get (fun x hx => (hq.cls x hx).1) (by omega), List.getElem?_eq_getElem lx] at e
    simp only [Option.map_some, ex, if_pos hx1, if_pos hx2, Option.some.injEq] at e
    simp only [one_cases p (show p.kind ≠ 2 by omega), one_cases q (show q.kind ≠ 2 by omega), if_pos h5, if_pos h6, Cla.mk.injEq, true_and, and_true] at e
    exact hne e.symm
  · intro h
    refine after_same hp hq hk (fun x _ _ k => ?_)
    rw [one_cases p (by omega), one_cases q (by omega), one_cases q (by omega), one_cases p (by omega)]
    by_cases h5 : p.kind = 5 <;> by_cases h6 : q.kind = 5
    · have hd : p.days = q.days := by
        by_cases hd : p.days = q.days
        · exact hd
        · exact absurd ⟨h5, h6, hd⟩ h
      simp only [if_pos h5, if_pos h6, hd]
    · simp only [if_pos h5, if_neg h6]
    · simp only [if_neg h5, if_pos h6]
    · simp only [if_neg h5, if_neg h6]
end Go.Proofs.YtplommmegkdhdaaGreatDoor
/- Plain: contracts whose clauses stand in another order: what a patch makes of them. -/
namespace Go.Proofs.YtplommmegkdhdaaGreatDoor

def Cla.mapC (π : Int → Int) (k : Cla) : Cla := { k with start := k.start.map fun s => (π s.1, s.2) }
def Pat.mapP (π : Int → Int) (p : Pat) : Pat := { p with cls := p.cls.map π, new := p.new.mapC π }
theorem ren_map (p : Pat) (n k : Nat) : p.ren n k = p.mapP (renI n k) := rfl
/-- π exchanges the numbers below N, with the inverse ι -/
structure Prm (π ι : Int → Int) (N : Nat) : Prop where
  l : ∀ x, ι (π x) = x
  r : ∀ x, π (ι x) = x
  out : ∀ x, (x < 0 ∨ (N : Int) ≤ x) → π x = x
theorem Prm.inj {π ι : Int → Int} {N : Nat} (h : Prm π ι N) {x y : Int} (e : π x = π y) : x = y := by rw [← h.l x, e, h.l]
theorem Prm.symm {π ι : Int → Int} {N : Nat} (h : Prm π ι N) : Prm ι π N := ⟨h.r, h.l, fun x hx => h.inj (by rw [h.r, h.out x hx])⟩
theorem Prm.mem {π ι : Int → Int} {N : Nat} (h : Prm π ι N) {x : Int} (h0 : 0 ≤ x) (h1 : x < N) : 0 ≤ π x ∧ π x < N := by
  by_cases hx : π x < 0 ∨ (N : Int) ≤ π x
  · have := h.inj (h.out _ hx)
    omega
  · omega
theorem Prm.mem_iff {π ι : Int → Int} {N : Nat} (h : Prm π ι N) {x : Int} : (0 ≤ π x ∧ π x < N) ↔ (0 ≤ x ∧ x < N) := by
  constructor
  · intro hx
    have := h.symm.mem hx.1 hx.2
    rw [h.l] at this
    exact this
  · exact fun hx => h.mem hx.1 hx.2
theorem Prm.more {π ι : Int → Int} {N M : Nat} (h : Prm π ι N) (hM : N ≤ M) : Prm π ι M := ⟨h.l, h.r, fun x hx => h.out x (by omega)⟩
theorem mapC_comp (π ρ : Int → Int) (k : Cla) : (k.mapC π).mapC ρ = k.mapC (fun x => ρ (π x)) := by
  unfold Cla.mapC; simp [Function.comp_def]
theorem mapC_id {π : Int → Int} (h : ∀ x, π x = x) (k : Cla) : k.mapC π = k := by
  unfold Cla.mapC
  have : (k.start.map fun s => (π s.1, s.2)) = k.start := by simp [h]
  rw [this]
theorem mapP_comp (π ρ : Int → Int) (p : Pat) : (p.mapP π).mapP ρ = p.mapP (fun x => ρ (π x)) := by
  unfold Pat.mapP; simp [mapC_comp, Function.comp_def]
theorem mapP_id {π : Int → Int} (h : ∀ x, π x = x) (p : Pat) : p.mapP π = p := by
  unfold Pat.mapP
  rw [mapC_id h]
  have : p.cls.map π = p.cls := by rw [show π = id from funext h, List.map_id]
  rw [this]
/-- d is c with its clauses in another order -/
structure Rel (π : Int → Int) (c d : Con) : Prop where
  e : d = c.wc d.cl
  len : d.cl.length = c.cl.length
  at_ : ∀ (i : Nat) k, c.cl[i]? = some k → d.cl[(π i).toNat]? = some (k.mapC π)
theorem wc_cl (c : Con) (l : List Cla) : (c.wc l).cl = l := rfl
theorem wc_wc (c : Con) (l m : List Cla) : (c.wc l).wc m = c.wc m := rfl
theorem Rel.id_ (c : Con) {π : Int → Int} (h : ∀ x, π x = x) : Rel π c c := ⟨rfl, rfl, fun i k hk => by rw [h, mapC_id h]; simpa using hk⟩
theorem Rel.comp {π ρ ι : Int → Int} {a b c : Con} (hp : Prm π ι a.cl.length) (h1 : Rel π a b) (h2 : Rel ρ b c) : Rel (fun x => ρ (π x)) a c := by
  refine ⟨?_, by rw [h2.len, h1.len], fun i k hk => ?_⟩
  · rw [h2.e, h1.e]; rfl
  · have hi := (List.getElem?_eq_some_iff.1 hk).1
    have hm := hp.mem (x := i) (by omega) (by omega)
    have := h2.at_ _ _ (h1.at_ i k hk)
    rw [show (((π i).toNat : Nat) : Int) = π i by omega] at this
    rw [this, mapC_comp]
theorem Rel.symm {π ι : Int → Int} {c d : Con} (hp : Prm π ι c.cl.length) (h : Rel π c d) : Rel ι d c := by
  refine ⟨?_, h.len.symm, fun j k hk => ?_⟩
  · rw [h.e]; rfl
  · have hj := (List.getElem?_eq_some_iff.1 hk).1
    rw [h.len] at hj
    have hm := hp.symm.mem (x := j) (by omega) (by omega)
    obtain ⟨i, hi⟩ : ∃ i : Nat, ι j = i := ⟨(ι j).toNat, by omega⟩
    have hi2 : i < c.cl.length := by omega
    have h1 := h.at_ i _ (List.getElem?_eq_getElem hi2)
    rw [← hi, hp.r] at h1
    simp only [Int.toNat_natCast] at h1
    rw [hk] at h1
    injection h1 with h1
    rw [hi, h1, mapC_comp, mapC_id hp.l]
    simp
theorem Rel.uniq {π ι : Int → Int} {a b a' b' : Con} (hp : Prm π ι a.cl.length) (h : Rel π a b) (h' : Rel π a' b') (e : a.cl = a'.cl) : b.cl = b'.cl := by
  apply List.ext_getElem?
  intro j
  by_cases hj : j < a.cl.length
  · have hm := hp.symm.mem (x := j) (by omega) (by omega)
    obtain ⟨i, hi⟩ : ∃ i : Nat, ι j = i := ⟨(ι j).toNat, by omega⟩
    have hi2 : i < a.cl.length := by omega
    have h1 := h.at_ i _ (List.getElem?_eq_getElem hi2)
    have h2 := h'.at_ i (a.cl[i]) (by rw [← e]; exact List.getElem?_eq_getElem hi2)
    rw [← hi, hp.r] at h1 h2
    simp only [Int.toNat_natCast] at h1 h2
    rw [h1, h2]
  · rw [List.getElem?_eq_none (by rw [h.len]; omega), List.getElem?_eq_none (by rw [h'.len, ← e]; omega)]
theorem condOk_map {π ι : Int → Int} {N : Nat} (hp : Prm π ι N) (i j : Nat) (hj : (j : Int) = π i) (s : Int × Int) : condOk N j (π s.1, s.2) = condOk N i s := by
  unfold condOk isI
  have h1 := hp.mem_iff (x := s.1)
  have h2 : (π s.1 = π i) ↔ s.1 = i := ⟨fun h => hp.inj h, fun h => by rw [h]⟩
  rw [hj, Bool.eq_iff_iff]
  simp only [Bool.and_eq_true, decide_eq_true_eq, bne_iff_ne, ne_eq, h2]
  rw [and_assoc, and_assoc, and_assoc, and_assoc, and_assoc, and_assoc, ← and_assoc, ← and_assoc (a := 0 ≤ s.1), h1]
theorem claOk_map {π ι : Int → Int} {c d : Con} (hp : Prm π ι c.cl.length) (h : Rel π c d) (i j : Nat) (hj : (j : Int) = π i) (k : Cla) : d.claOk j (k.mapC π) = c.claOk i k := by
  have e : d.claOk j (k.mapC π) = c.claOk j (k.mapC π) := Con.claOk_same (by rw [h.e]; rfl) (by rw [h.e]; rfl) (by rw [h.e]; rfl) h.len j _
  rw [e]
  unfold Con.claOk
  have h1 : (k.mapC π).start.length = k.start.length := by simp [Cla.mapC]
  have h2 : (k.mapC π).start.all (condOk c.cl.length j) = k.start.all (condOk c.cl.length i) := by
    simp only [Cla.mapC, List.all_map]
    congr 1
    funext s
    exact condOk_map hp i j hj s
  rw [h1, h2]
  rfl
theorem ok_rel1 {π ι : Int → Int} {c d : Con} (hp : Prm π ι c.cl.length) (h : Rel π c d) (hc : c.ok = true) : d.ok = true := by
  have hc' : (c.wc c.cl).ok = true := hc
  rw [h.e]
  rw [ok_wc] at hc' ⊢
  refine ⟨⟨hc'.1.1, by rw [h.len]; exact hc'.1.2⟩, hc'.2.1, fun j k hk => ?_⟩
  have hj := (List.getElem?_eq_some_iff.1 hk).1
  rw [h.len] at hj
  have hm := hp.symm.mem (x := j) (by omega) (by omega)
  obtain ⟨i, hi⟩ : ∃ i : Nat, ι j = i := ⟨(ι j).toNat, by omega⟩
  have h1 := (h.symm hp).at_ j k hk
  rw [hi] at h1
  simp only [Int.toNat_natCast] at h1
  have h2 := hc'.2.2 i _ h1
  rw [← h.e]
  have h3 := claOk_map hp h i j (by rw [← hi, hp.r]) (k.mapC ι)
  rw [mapC_comp, mapC_id hp.r] at h3
  rw [h3]
  exact h2
theorem ok_rel {π ι : Int → Int} {c d : Con} (hp : Prm π ι c.cl.length) (h : Rel π c d) : d.ok = c.ok := by
  rw [Bool.eq_iff_iff]
  exact ⟨fun hd => ok_rel1 (by rw [h.len]; exact hp.symm) (h.symm hp) hd, ok_rel1 hp h⟩
theorem one_map (π : Int → Int) (p : Pat) (k : Cla) : (p.mapP π).one (k.mapC π) = (p.one k).mapC π := by
  unfold Pat.one
  show (if (p.kind == 2) = true then _ else _) = _
  split
  · rfl
  · show (if (p.kind == 5) = true then _ else _) = _
    split <;> rfl
theorem ap_rel {π ι : Int → Int} {c d : Con} {p : Pat} (hp : Prm π ι c.cl.length) (h : Rel π c d) (hi : ∀ x ∈ p.cls, 0 ≤ x ∧ x < c.cl.length) : Rel π (c.ap p) (d.ap (p.mapP π)) := by
  have e1 : (c.ap p).cl = p.do_ c.cl := rfl
  have e2 : (d.ap (p.mapP π)).cl = (p.mapP π).do_ d.cl := rfl
  have l1 := do_len (p := p) c.cl
  have l2 := do_len (p := p.mapP π) d.cl
  have hkk : (p.mapP π).kind = p.kind := rfl
  refine ⟨?_, ?_, fun i k hk => ?_⟩
  · show (d.wc _) = _
    rw [h.e]; rfl
  · rw [e1, e2, l1, l2, hkk, h.len]
  · rw [e1] at hk
    rw [e2]
    have hlt := (List.getElem?_eq_some_iff.1 hk).1
    by_cases hk1 : p.kind = 1
    · rw [do_add hk1] at hk
      rw [do_add (p := p.mapP π) hk1]
      rw [if_pos hk1] at l1
      by_cases hi2 : i < c.cl.length
      · rw [List.getElem?_append_left hi2] at hk
        have hm := hp.mem (x := i) (by omega) (by omega)
        rw [List.getElem?_append_left (by rw [h.len]; omega)]
        exact h.at_ i k hk
      · have hi3 : i = c.cl.length := by omega
        subst hi3
        rw [List.getElem?_append_right (by omega)] at hk
        simp only [Nat.sub_self, List.getElem?_cons_zero, Option.some.injEq] at hk
        subst hk
        rw [hp.out _ (Or.inr (by omega))]
        rw [List.getElem?_append_right (by rw [h.len]; simp)]
        simp [h.len]
        rfl
    · rw [if_neg hk1] at l1
      rw [do_get (fun x hx => (hi x hx).1) hk1] at hk
      have hm := hp.mem (x := i) (by omega) (by omega)
      rw [do_get (p := p.mapP π) (fun x hx => by
        obtain ⟨y, hy, rfl⟩ := List.mem_map.1 hx
        exact (hp.mem (hi y hy).1 (hi y hy).2).1) hk1]
      cases ha : c.cl[i]? with
      | none => rw [ha] at hk; cases hk
      | some a =>
        rw [ha] at hk
        simp only [Option.map_some, Option.some.injEq] at hk
        rw [h.at_ i a ha]
        simp only [Option.map_some, Option.some.injEq]
        rw [show (((π i).toNat : Nat) : Int) = π i by omega]
        have hiff : π i ∈ (p.mapP π).cls ↔ (i : Int) ∈ p.cls := by
          show π i ∈ p.cls.map π ↔ _
          constructor
          · intro hx
            obtain ⟨y, hy, e⟩ := List.mem_map.1 hx
            rw [← hp.inj e]; exact hy
          · exact fun hx => List.mem_map.2 ⟨_, hx, rfl⟩
        by_cases hx : (i : Int) ∈ p.cls
        · rw [if_pos hx] at hk
          rw [if_pos (hiff.2 hx), one_map, hk]
        · rw [if_neg hx] at hk
          rw [if_neg (fun h => hx (hiff.1 h)), hk]
theorem zeroC_map (π : Int → Int) (k : Cla) : zeroC (k.mapC π) = zeroC k := by
  unfold zeroC
  have h1 : (k.mapC π).start.length = k.start.length := by simp [Cla.mapC]
  rw [h1]
  rfl
theorem fits_map {π : Int → Int} {p : Pat} {N : Nat} (h1 : incI N (-1) p.cls = true) (h2 : incI N (-1) (p.cls.map π) = true) : (p.mapP π).fits N = p.fits N := by
  unfold Pat.fits
  have e1 : (p.mapP π).cls = p.cls.map π := rfl
  have e2 : (p.mapP π).kind = p.kind := rfl
  have e3 : (p.mapP π).days = p.days := rfl
  have e4 : (p.mapP π).new = p.new.mapC π := rfl
  rw [e1, e2, e3, e4, zeroC_map, List.length_map, h1, h2]
/-- the indices of a patch, and of what a renumbering makes of it, are those of a list of N clauses -/
def Idx (π : Int → Int) (N : Nat) (p : Pat) : Prop := incI N (-1) p.cls = true ∧ incI N (-1) (p.cls.map π) = true
theorem Idx.more {π : Int → Int} {N M : Nat} {p : Pat} (h : Idx π N p) (hM : N ≤ M) : Idx π M p := ⟨incI_mono _ _ _ _ hM h.1, incI_mono _ _ _ _ hM h.2⟩
theorem Idx.mem {π : Int → Int} {N : Nat} {p : Pat} (h : Idx π N p) : ∀ x ∈ p.cls, 0 ≤ x ∧ x < N := fun x hx => by
  have := incI_mem _ _ _ h.1 x hx
  omega
theorem Idx.symm {π ι : Int → Int} {N : Nat} {p : Pat} (hp : Prm π ι N) (h : Idx π N p) : Idx ι N (p.mapP π) := ⟨h.2, by
  show incI N (-1) ((p.cls.map π).map ι) = true
  rw [List.map_map, show ι ∘ π = id from funext hp.l, List.map_id]; exact h.1⟩
theorem apE_rel {π ι : Int → Int} {c d : Con} {p : Pat} (hp : Prm π ι c.cl.length) (h : Rel π c d) (hi : Idx π c.cl.length p) : d.apE (p.mapP π) = c.apE p := by
  have hr := ap_rel (p := p) hp h hi.mem
  have l1 := do_len (p := p) c.cl
  have hle : c.cl.length ≤ (c.ap p).cl.length := by
    show _ ≤ (p.do_ c.cl).length
    rw [l1]; split <;> omega
  have ho : (d.wc ((p.mapP π).do_ d.cl)).ok = (c.wc (p.do_ c.cl)).ok := ok_rel (hp.more hle) hr
  unfold Con.apE
  rw [ok_rel hp h, h.len, fits_map hi.1 hi.2, ho]
  rfl
theorem ap_len {c : Con} {p : Pat} : (c.ap p).cl.length = if p.kind = 1 then c.cl.length + 1 else c.cl.length := do_len _
theorem ap_le (c : Con) (p : Pat) : c.cl.length ≤ (c.ap p).cl.length := by rw [ap_len]; split <;> omega
theorem swapL_get (n : Nat) (l : List Cla) (hl : n + 1 < l.length) (i : Nat) : (swapL n l)[i]? = if i = n then l[n + 1]? else if i = n + 1 then l[n]? else l[i]? := by
  have h1 := List.getElem?_eq_getElem (l := l) (i := n) (by omega)
  have h2 := List.getElem?_eq_getElem (l := l) (i := n + 1) hl
  unfold swapL
  rw [h1, h2]
  simp only
  by_cases e1 : i = n + 1
  · subst e1
    rw [List.getElem?_set_self (by simpa using hl), if_neg (by omega), if_pos rfl]
  · rw [List.getElem?_set_ne (by omega)]
    by_cases e2 : i = n
    · subst e2
      rw [List.getElem?_set_self (by omega), if_pos rfl]
    · rw [List.getElem?_set_ne (by omega), if_neg e2, if_neg e1]
theorem swapL_len (n : Nat) (l : List Cla) : (swapL n l).length = l.length := by
  unfold swapL
  split <;> simp
theorem swap_rel {π ι : Int → Int} {N : Nat} {a b : Con} (hp : Prm π ι N) (h : Rel π a b) (hl : N + 1 < a.cl.length) : Rel π (a.wc (swapL N a.cl)) (b.wc (swapL N b.cl)) := by
  refine ⟨?_, ?_, fun i k hk => ?_⟩
  · rw [h.e]; rfl
  · rw [wc_cl, wc_cl, swapL_len, swapL_len, h.len]
  · rw [wc_cl] at hk ⊢
    rw [swapL_get N _ hl] at hk
    rw [swapL_get N _ (by rw [h.len]; exact hl)]
    have hN := hp.out (N : Int) (Or.inr (by omega))
    have hN1 := hp.out ((N : Int) + 1) (Or.inr (by omega))
    by_cases e1 : i = N
    · subst e1
      rw [if_pos rfl] at hk
      have := h.at_ _ _ hk
      rw [hN, if_pos (by simp)]
      rw [show (((i + 1 : Nat)) : Int) = (i : Int) + 1 by omega, hN1] at this
      rw [← this]; congr 1
    · by_cases e2 : i = N + 1
      · subst e2
        rw [if_neg (by omega), if_pos rfl] at hk
        have := h.at_ _ _ hk
        rw [show (((N + 1 : Nat)) : Int) = (N : Int) + 1 by omega, hN1, if_neg (by omega), if_pos (by omega)]
        rw [hN] at this
        simpa using this
      · rw [if_neg e1, if_neg e2] at hk
        have hi := (List.getElem?_eq_some_iff.1 hk).1
        have hm := (hp.more (M := a.cl.length) (by omega)).mem (x := i) (by omega) (by omega)
        have n1 : π i ≠ N := fun e => e1 (by have := hp.inj (e.trans hN.symm); omega)
        have n2 : π i ≠ (N : Int) + 1 := fun e => e2 (by have := hp.inj (e.trans hN1.symm); omega)
        rw [if_neg (by omega), if_neg (by omega)]
        exact h.at_ _ _ hk
theorem com_rel1 {π ι : Int → Int} {c d : Con} {p q : Pat} (hp : Prm π ι c.cl.length) (h : Rel π c d) (hi : Idx π c.cl.length p) (hj : Idx π c.cl.length q) (hc : c.com p q = true) : d.com (p.mapP π) (q.mapP π) = true := by
  unfold Con.com at hc ⊢
  simp only [Bool.and_eq_true, decide_eq_true_eq] at hc ⊢
  obtain ⟨⟨h1, h2⟩, h3⟩ := hc
  obtain ⟨a1, a2, a3⟩ := al_two h1
  obtain ⟨b1, b2, b3⟩ := al_two h2
  have rp := ap_rel (p := p) hp h hi.mem
  have rq := ap_rel (p := q) hp h hj.mem
  have Pp := hp.more (ap_le c p)
  have Pq := hp.more (ap_le c q)
  have rpq := ap_rel (p := q) Pp rp (hj.more (ap_le c p)).mem
  have rqp := ap_rel (p := p) Pq rq (hi.more (ap_le c q)).mem
  have c1 := apE_rel hp h hi
  have c2 := apE_rel hp h hj
  have c3 := apE_rel Pp rp (hj.more (ap_le c p))
  have c4 := apE_rel Pq rq (hi.more (ap_le c q))
  rw [a1] at c1
  rw [b1] at c2
  rw [a2] at c3
  rw [b2] at c4
  rw [al_yes _ c1, al_yes _ c3, al_yes _ c2, al_yes _ c4]
  refine ⟨⟨rfl, rfl⟩, ?_⟩
  rw [a3, b3] at h3
  have hk : ((p.mapP π).kind = 1 ∧ (q.mapP π).kind = 1) ↔ (p.kind = 1 ∧ q.kind = 1) := Iff.rfl
  simp only [Con.al, hk]
  have Ppq := Pp.more (ap_le (c.ap p) q)
  by_cases hb : p.kind = 1 ∧ q.kind = 1
  · rw [if_pos hb] at h3 ⊢
    have hlen : c.cl.length + 1 < ((c.ap q).ap p).cl.length := by
      rw [ap_len, if_pos hb.1, ap_len, if_pos hb.2]; omega
    have hs := swap_rel hp rqp hlen
    rw [h.len]
    exact Rel.uniq Ppq rpq hs h3
  · rw [if_neg hb] at h3 ⊢
    exact Rel.uniq Ppq rpq rqp h3
theorem com_rel {π ι : Int → Int} {c d : Con} {p q : Pat} (hp : Prm π ι c.cl.length) (h : Rel π c d) (hi : Idx π c.cl.length p) (hj : Idx π c.cl.length q) : d.com (p.mapP π) (q.mapP π) = c.com p q := by
  rw [Bool.eq_iff_iff]
  refine ⟨fun hd => ?_, com_rel1 hp h hi hj⟩
  have hp2 : Prm ι π d.cl.length := by rw [h.len]; exact hp.symm
  have := com_rel1 hp2 (h.symm hp) (by rw [h.len]; exact hi.symm hp) (by rw [h.len]; exact hj.symm hp) hd
  rw [mapP_comp, mapP_comp, mapP_id hp.l, mapP_id hp.l] at this
  exact this
end Go.Proofs.YtplommmegkdhdaaGreatDoor
/- Plain: merging the other way round: the clauses that the two lists add are exchanged. -/
namespace Go.Proofs.YtplommmegkdhdaaGreatDoor

/-- the numbers n .. n + a - 1 and the b numbers after them, exchanged -/
def sg (n a b : Nat) (x : Int) : Int := if (n : Int) ≤ x ∧ x < n + a then x + b else if (n : Int) + a ≤ x ∧ x < n + a + b then x - a else x
theorem sg_prm (n a b N : Nat) (h : n + a + b ≤ N) : Prm (sg n a b) (sg n b a) N := by
  refine ⟨fun x => ?_, fun x => ?_, fun x hx => ?_⟩
  · unfold sg; split <;> split <;> (try split) <;> (try split) <;> omega
  · unfold sg; split <;> split <;> (try split) <;> (try split) <;> omega
  · unfold sg; split
    · omega
    · split <;> omega
theorem sg_zero (n a : Nat) (x : Int) : sg n a 0 x = x := by unfold sg; split <;> (try split) <;> omega
theorem sg_zero' (n b : Nat) (x : Int) : sg n 0 b x = x := by unfold sg; split <;> (try split) <;> omega
theorem sg_tau (m b : Nat) (x : Int) : sg m b 1 (sg (m + b) 1 1 x) = sg m (b + 1) 1 x := by
  unfold sg; repeat' split
  all_goals omega
theorem sg_rho (n a b : Nat) (x : Int) : sg n (a + 1) b (sg (n + a) b 1 x) = sg n a b x := by
  unfold sg; repeat' split
  all_goals omega
/-- indices below m -/
def InD (p : Pat) (m : Nat) : Prop := incI m (-1) p.cls = true ∧ ∀ s ∈ p.new.start, 0 ≤ s.1 ∧ s.1 < m
theorem InD.congr {p : Pat} {m : Nat} (h : InD p m) {π π' : Int → Int} (e : ∀ x : Int, 0 ≤ x → x < m → π x = π' x) : p.mapP π = p.mapP π' := by
  unfold Pat.mapP Cla.mapC
  have h1 : p.cls.map π = p.cls.map π' := List.map_congr_left fun x hx => by
    have := incI_mem _ _ _ h.1 x hx
    exact e x (by omega) (by omega)
  have h2 : (p.new.start.map fun s => (π s.1, s.2)) = p.new.start.map fun s => (π' s.1, s.2) := List.map_congr_left fun s hs => by
    rw [e s.1 (h.2 s hs).1 (h.2 s hs).2]
  rw [h1, h2]
/-- an increasing list stays one where the map does not change the order -/
theorem incI_map {f : Int → Int} {m N : Nat} (hf : ∀ x y : Int, 0 ≤ x → x < y → y < m → f x < f y) (h0 : ∀ x : Int, 0 ≤ x → x < m → 0 ≤ f x ∧ f x < N) : ∀ (l : List Int), incI m (-1) l = true → incI N (-1) (l.map f) = true := by
  have key : ∀ (l : List Int) (last : Int), 0 ≤ last → last < m → incI m last l = true → incI N (f last) (l.map f) = true := by
    intro l
    induction l with
    | nil => intro last _ _ _; rfl
    | cons d l ih =>
      intro last a b h
      simp only [incI, Bool.and_eq_true, decide_eq_true_eq, List.map_cons] at h ⊢
      exact ⟨⟨hf _ _ a h.1.1 h.1.2, (h0 d (by omega) h.1.2).2⟩, ih d (by omega) h.1.2 h.2⟩
  intro l h
  cases l with
  | nil => rfl
  | cons d l =>
    simp only [incI, Bool.and_eq_true, decide_eq_true_eq, List.map_cons] at h ⊢
    have := h0 d (by omega) h.1.2
    exact ⟨⟨by omega, this.2⟩, key l d (by omega) h.1.2 h.2⟩
theorem InD.idx {p : Pat} {m N : Nat} (h : InD p m) {π : Int → Int} (hm : m ≤ N) (hf : ∀ x y : Int, 0 ≤ x → x < y → y < m → π x < π y) (h0 : ∀ x : Int, 0 ≤ x → x < m → 0 ≤ π x ∧ π x < N) : Idx π N p := ⟨incI_mono _ _ _ _ hm h.1, incI_map hf h0 _ h.1⟩
theorem InD.ren {p : Pat} {n m k : Nat} (h : InD p m) : incI (m + k) (-1) (p.ren n k).cls = true ∧ ∀ s ∈ (p.ren n k).new.start, 0 ≤ s.1 ∧ s.1 < ((m + k : Nat) : Int) := by
  refine ⟨incI_map (m := m) (fun x y _ h1 h2 => by unfold renI; split <;> split <;> omega) (fun x a b => by unfold renI; split <;> omega) _ h.1, fun s hs => ?_⟩
  obtain ⟨t, ht, rfl⟩ := List.mem_map.1 hs
  have := h.2 t ht
  show 0 ≤ renI n k t.1 ∧ renI n k t.1 < _
  unfold renI
  split <;> omega
/-- the conditions of a valid clause lie in the list -/
theorem claOk_cond {c : Con} {i : Nat} {k : Cla} (h : c.claOk i k = true) : ∀ s ∈ k.start, 0 ≤ s.1 ∧ s.1 < c.cl.length ∧ s.1 ≠ i := by
  unfold Con.claOk at h
  simp only [Bool.and_eq_true] at h
  have h2 := h.1.1.2
  rw [List.all_eq_true] at h2
  intro s hs
  have := h2 s hs
  unfold condOk isI at this
  simp only [Bool.and_eq_true, decide_eq_true_eq, bne_iff_ne, ne_eq] at this
  exact ⟨this.1.1.1.1, this.1.1.1.2, this.1.1.2⟩
theorem ok_cl {c : Con} (h : c.ok = true) {i : Nat} {k : Cla} (hk : c.cl[i]? = some k) : c.claOk i k = true := by
  have h' : (c.wc c.cl).ok = true := h
  rw [ok_wc] at h'
  exact h'.2.2 i k hk
theorem Fit.ind {c : Con} {p : Pat} (h : Fit c p) : InD p c.cl.length := by
  have hf := h.fi
  unfold Pat.fits at hf
  simp only [Bool.and_eq_true] at hf
  refine ⟨hf.1.1.2, ?_⟩
  have hre : (c.wc (p.do_ c.cl)).ok = true := h.re
  have hl := do_len (p := p) c.cl
  have hlc : (c.wc (p.do_ c.cl)).cl.length = (p.do_ c.cl).length := rfl
  rcases kinds h.kn with hk | hk | hk
  · rw [if_pos hk] at hl
    intro s hs
    have := claOk_cond (ok_cl hre (i := c.cl.length) (k := p.new) (by show (p.do_ c.cl)[_]? = _; rw [do_add hk]; simp)) s hs
    omega
  · rw [if_neg (by omega)] at hl
    -- the only place
    have hc : ∃ x, x ∈ p.cls := by
      have h1 := hf.1.1.1.1
      unfold fewest at h1
      rw [if_neg (by rw [hk]; decide)] at h1
      simp only [decide_eq_true_eq] at h1
      cases hp : p.cls with
      | nil => rw [hp] at h1; simp at h1
      | cons x l => exact ⟨x, List.mem_cons_self ..⟩
    obtain ⟨x, hx⟩ := hc
    have hb := h.cls x hx
    intro s hs
    have hg : (p.do_ c.cl)[x.toNat]? = some p.new := by
      rw [do_get (fun x hx => (h.cls x hx).1) (by omega), List.getElem?_eq_getElem (by omega)]
      simp only [Option.map_some, Option.some.injEq]
      rw [show ((x.toNat : Nat) : Int) = x by omega, if_pos hx]
      unfold Pat.one
      rw [if_pos (by rw [hk]; rfl)]
    have := claOk_cond (ok_cl hre hg) s hs
    omega
  · rw [h.start (by omega)]
    intro s hs
    cases hs
theorem apE_fit {c : Con} {p : Pat} (h : c.apE p = 0) : Fit c p := apE_iff.1 h
theorem addsN_app (l r : List Pat) : addsN (l ++ r) = addsN l + addsN r := by unfold addsN; rw [List.filter_append, List.length_append]
theorem addsN_ren (n k : Nat) (l : List Pat) : addsN (l.map fun p => p.ren n k) = addsN l := by
  unfold addsN
  rw [List.filter_map, List.length_map]
  rfl
theorem addsN_one (p : Pat) : addsN [p] = if p.kind = 1 then 1 else 0 := by
  unfold addsN
  by_cases h : p.kind = 1
  · simp [h]
  · simp [h]
theorem al_snoc {c : Con} {l : List Pat} {p : Pat} (h : (c.al l).1 = 0) (hp : (c.al l).2.apE p = 0) : (c.al (l ++ [p])).1 = 0 ∧ (c.al (l ++ [p])).2 = (c.al l).2.ap p := by
  rw [al_app c l [p] h, al_yes _ hp]
  exact ⟨rfl, rfl⟩
theorem al_snoc' {c : Con} {l : List Pat} {p : Pat} (h : (c.al (l ++ [p])).1 = 0) : (c.al l).1 = 0 ∧ (c.al l).2.apE p = 0 := by
  by_cases h0 : (c.al l).1 = 0
  · refine ⟨h0, ?_⟩
    rw [al_app c l [p] h0] at h
    by_cases h1 : (c.al l).2.apE p = 0
    · exact h1
    · rw [al_no _ h1] at h; exact absurd h h1
  · rw [al_app_no c l [p] h0] at h; exact absurd h h0
theorem al_len : ∀ (l : List Pat) (c : Con), (c.al l).1 = 0 → (c.al l).2.cl.length = c.cl.length + addsN l
  | [], c, _ => by simp [Con.al, addsN]
  | p :: l, c, h => by
    by_cases h0 : c.apE p = 0
    · rw [al_yes l h0] at h ⊢
      rw [al_len l _ h, ap_len, show addsN (p :: l) = addsN [p] + addsN l from addsN_app [p] l, addsN_one]
      split <;> omega
    · rw [al_no l h0] at h; exact absurd h h0
theorem take_snoc {l : List Pat} {i : Nat} {p : Pat} (h : l[i]? = some p) : l.take (i + 1) = l.take i ++ [p] := by rw [List.take_add_one, h]; rfl
/-- the first i patches of the left list, then the first j of the right one -/
def Con.fr (c : Con) (L : List Pat) (i : Nat) : Con := (c.al (L.take i)).2
def rens (n k : Nat) (r : List Pat) : List Pat := r.map fun q => q.ren n k
def Con.st (c : Con) (L R : List Pat) (i j : Nat) : Con := ((c.fr L i).al (rens c.cl.length (addsN (L.take i)) (R.take j))).2
/-- all pairs commute where they meet -/
def Con.grid (c : Con) (L R : List Pat) : Prop := ∀ i p, L[i]? = some p → ∀ j q, R[j]? = some q → (c.st L R i j).com p (q.ren c.cl.length (addsN (L.take i))) = true
theorem inner_iff (n k : Nat) (p : Pat) : ∀ (r : List Pat) (c : Con) (j0 : Nat), inner n k p c j0 r = none ↔ ∀ j q, r[j]? = some q → (c.al (rens n k (r.take j))).1 = 0 → (c.al (rens n k (r.take j))).2.com p (q.ren n k) = true
  | [], c, j0 => by simp [inner]
  | q :: r, c, j0 => by
    unfold inner
    constructor
    · intro h j x hx
      by_cases hc : c.com p (q.ren n k) = true
      · have hq := (com_apE hc).2
        rw [if_pos hc, if_pos hq] at h
        cases j with
        | zero =>
          intro _
          simp at hx
          subst hx
          exact hc
        | succ j =>
          have e : rens n k ((q :: r).take (j + 1)) = q.ren n k :: rens n k (r.take j) := rfl
          rw [e, al_yes _ hq]
          exact (inner_iff n k p r _ _).1 h j x (by simpa using hx)
      · rw [if_neg hc] at h; cases h
    · intro h
      have hc : c.com p (q.ren n k) = true := h 0 q rfl rfl
      have hq := (com_apE hc).2
      rw [if_pos hc, if_pos hq]
      refine (inner_iff n k p r _ _).2 fun j x hx h0 => ?_
      have e : rens n k ((q :: r).take (j + 1)) = q.ren n k :: rens n k (r.take j) := rfl
      have := h (j + 1) x (by simpa using hx)
      rw [e, al_yes _ hq] at this
      exact this h0
theorem outer_iff (n : Nat) (R : List Pat) : ∀ (L : List Pat) (c : Con) (k i0 : Nat), (c.al L).1 = 0 → (outer n R c k i0 L = none ↔ ∀ i p, L[i]? = some p → inner n (k + addsN (L.take i)) p (c.al (L.take i)).2 0 R = none)
  | [], c, k, i0, _ => by simp [outer]
  | p :: L, c, k, i0, h => by
    have hp : c.apE p = 0 := by
      by_cases h0 : c.apE p = 0
      · exact h0
      · rw [al_no _ h0] at h; exact absurd h h0
    rw [al_yes _ hp] at h
    have ih := outer_iff n R L (c.ap p) (k + addsN [p]) (i0 + 1) h
    have e : ∀ i, addsN ((p :: L).take (i + 1)) = addsN [p] + addsN (L.take i) := fun i => addsN_app [p] (L.take i)
    have e2 : ∀ i, (c.al ((p :: L).take (i + 1))).2 = ((c.ap p).al (L.take i)).2 := fun i => by rw [List.take_succ_cons, al_yes _ hp]
    unfold outer
    constructor
    · intro ho
      cases hi : inner n k p c 0 R with
      | some j => rw [hi] at ho; cases ho
      | none =>
        rw [hi] at ho
        simp only [hp, if_true] at ho
        intro i x hx
        cases i with
        | zero =>
          simp at hx
          subst hx
          exact hi
        | succ i =>
          have := ih.1 ho i x (by simpa using hx)
          rw [e, e2, ← Nat.add_assoc]
          exact this
    · intro ho
      have hi : inner n k p c 0 R = none := ho 0 p rfl
      rw [hi]
      simp only [hp, if_true]
      refine ih.2 fun i x hx => ?_
      have := ho (i + 1) x (by simpa using hx)
      rw [e, e2, ← Nat.add_assoc] at this
      exact this
end Go.Proofs.YtplommmegkdhdaaGreatDoor
