/- Chains of defaults: what cascade.Why gives; the ranks as a look-up in the map has them. -/
import Derived.Test.YteoicnhnpailiaaCd2
import Derived.Test.YteoicnhnpailiaaCd3
import Derived.Test.YteoicnhnpailiaaCc2
namespace Go.Proofs.Yteoicnhnpailiaa
open Go.RowKit Go.Sort Go.Maps

/-- a chain that explains why party i defaults, in round k -/
structure Chn (p : Pf) (k : Nat) (i : Int) (ch : List Int) : Prop where
  len : ch.length = k + 1
  last : ch[k]? = some i
  rk : ∀ (t : Nat) (x : Int), ch[t]? = some x → 0 ≤ x ∧ x < p.n ∧ Rk p x t
  be : ∀ (t : Nat) (x y : Int), ch[t]? = some x → ch[t + 1]? = some y → bea p x y = true
/-- a chain under way: from its end on; the next one's rank is q - 1 -/
structure Rcn (p : Pf) (k q : Nat) (i : Int) (rc : List Int) : Prop where
  len : rc.length + q = k + 2
  last : rc[0]? = some i
  rk : ∀ (t : Nat) (x : Int), rc[t]? = some x → 0 ≤ x ∧ x < p.n ∧ Rk p x (k - t)
  be : ∀ (t : Nat) (x y : Int), rc[t]? = some x → rc[t + 1]? = some y → bea p y x = true
theorem Rcn.start {p : Pf} {k : Nat} {i : Int} (h0 : 0 ≤ i) (h1 : i < p.n) (h : Rk p i k) : Rcn p k (k + 1) i [i] :=
  ⟨by simp; omega, rfl, fun t x hx => by
    cases t with
    | zero => simp at hx; subst hx; exact ⟨h0, h1, h⟩
    | succ t => simp at hx, fun t x y _ hy => by simp at hy⟩
theorem Rcn.next {p : Pf} {k q : Nat} {i : Int} {rc : List Int} (h : Rcn p k (q + 2) i rc) {y j : Int} (hy : rc[rc.length - 1]? = some y) (h0 : 0 ≤ j) (h1 : j < p.n) (hr : Rk p j q) (hb : bea p j y = true) : Rcn p k (q + 1) i (rc ++ [j]) := by
  have hl := h.len
  have hpos : 0 < rc.length := (by have := (List.getElem?_eq_some_iff.1 hy).1; omega)
  refine ⟨by simp; omega, by rw [List.getElem?_append_left hpos]; exact h.last, fun t x hx => ?_, fun t x z hx hz => ?_⟩
  · rcases Nat.lt_or_ge t rc.length with ht | ht
    · rw [List.getElem?_append_left ht] at hx; exact h.rk t x hx
    · have ht' : t = rc.length := by have := (List.getElem?_eq_some_iff.1 hx).1; simp at this; omega
      subst ht'
      simp at hx
      subst hx
      rw [show k - rc.length = q by omega]
      exact ⟨h0, h1, hr⟩
  · rcases Nat.lt_or_ge (t + 1) rc.length with ht | ht
    · rw [List.getElem?_append_left ht] at hz
      rw [List.getElem?_append_left (by omega)] at hx
      exact h.be t x z hx hz
    · have ht' : t + 1 = rc.length := by have := (List.getElem?_eq_some_iff.1 hz).1; simp at this; omega
      rw [List.getElem?_append_left (by omega), show t = rc.length - 1 by omega, hy] at hx
      rw [ht'] at hz
      simp at hx hz
      subst hx hz
      exact hb
theorem Rcn.done {p : Pf} {k : Nat} {i : Int} {rc : List Int} (h : Rcn p k 1 i rc) : Chn p k i rc.reverse := by
  have hl := h.len
  have hl' : rc.length = k + 1 := by omega
  have hg : ∀ (t : Nat) (x : Int), rc.reverse[t]? = some x → t ≤ k ∧ rc[k - t]? = some x := fun t x hx => by
    have ht := (List.getElem?_eq_some_iff.1 hx).1
    rw [List.length_reverse] at ht
    rw [List.getElem?_reverse ht] at hx
    exact ⟨by omega, by rw [show k - t = rc.length - 1 - t by omega]; exact hx⟩
  refine ⟨by simp; omega, by rw [List.getElem?_reverse (by omega), show rc.length - 1 - k = 0 by omega]; exact h.last, fun t x hx => ?_, fun t x y hx hy => ?_⟩
  · obtain ⟨h1, h2⟩ := hg t x hx
    have := h.rk _ x h2
    rwa [show k - (k - t) = t by omega] at this
  · obtain ⟨h1, h2⟩ := hg t x hx
    obtain ⟨h3, h4⟩ := hg (t + 1) y hy
    exact h.be (k - (t + 1)) y x h4 (by rw [show k - (t + 1) + 1 = k - t by omega]; exact h2)
/-- what the map says of a party -/
theorem MapIs.at_ {p : Pf} (hp : VP p) {K : Nat} (ho : ∀ j, j < K → okS p (Dk p j)) {D : DataW Unit} (h : MapIs p K 0 D) {i : Int} (h0 : 0 ≤ i) (h1 : i < p.n) :
    ∃ c : Int, D.atKey (.int .i64 i) (.lit (.int .i64 0)) = .lit (.int .i64 c) ∧ ∀ r : Nat, r < K → (c = (r : Int) + 1 ↔ Rk p i r) := by
  rcases Classical.em (∃ k, k < K ∧ Rk p i k) with ⟨k, hk, hr⟩ | hn
  · refine ⟨(k : Int) + 1, (h.y i k h0 h1 (by rw [if_neg (by omega)]; exact hk) hr).2, fun r hrK => ⟨fun e => ?_, fun hr' => ?_⟩⟩
    · have : r = k := by omega
      subst this; exact hr
    · have := Rk.uniq hp ho h0 h1 hk hrK hr hr'
      omega
  · refine ⟨0, atKey_of_not_has (h.n i h0 h1 fun k hk hr => hn ⟨k, by rw [if_neg (by omega)] at hk; exact hk, hr⟩) _, fun r hrK => ⟨fun e => by omega, fun hr' => (hn ⟨r, hrK, hr'⟩).elim⟩⟩
theorem MapIs.has_yes {p : Pf} {K : Nat} {D : DataW Unit} (h : MapIs p K 0 D) {i : Int} (h0 : 0 ≤ i) (h1 : i < p.n) {k : Nat} (hk : k < K) (hr : Rk p i k) : Maps.has D (.int .i64 i) = true ∧ D.atKey (.int .i64 i) (.lit (.int .i64 0)) = .lit (.int .i64 (k + 1)) :=
  h.y i k h0 h1 (by rw [if_neg (by omega)]; exact hk) hr
theorem MapIs.has_no {p : Pf} {K : Nat} {D : DataW Unit} (h : MapIs p K 0 D) {i : Int} (h0 : 0 ≤ i) (h1 : i < p.n) (hd : has (Dk p K) i = false) (hle : ∀ k, k < K → sub p.n (Dk p (k + 1)) (Dk p K)) : Maps.has D (.int .i64 i) = false :=
  h.n i h0 h1 fun k hk hr => by
    rw [if_neg (by omega)] at hk
    have := hle k hk i h0 h1 hr.1
    rw [hd] at this; cases this
theorem look_run {W : World} {bM cnt : Nat} {D : DataW Unit} (h : mapO W bM cnt D) {i c : Int} (hi : 0 ≤ i) (hi2 : i < 1000) (hc : D.atKey (.int .i64 i) (.lit (.int .i64 0)) = .lit (.int .i64 c)) :
    (Instr.lookup 67 (.map (some bM)) (.int .i64 i) false).run Try.prog W = .ok (.int .i64 c) W := by
  obtain ⟨c', h1, h2, _⟩ := h.lookup_int keyI Try.underlying67 Try.underlying3 (zeroI W) (keyOf_int_mk (P := Try.prog) (k := 3) (q := .i64) (a := i) Try.underlying3 (by simp [Lit.wf, IntKind.min, IntKind.max, IntKind.signed, IntKind.bits]; omega))
  rw [hc] at h2
  simp only [DataW.lit.injEq, Lit.int.injEq, true_and] at h2
  rw [h1, h2]
theorem mapO_below {w w' : World} {bM cnt : Nat} {D : DataW Unit} (h : mapO w bM cnt D) (hb : Below w.heap.size w w') : mapO w' bM cnt D := h.kept (grown_of_below hb none) (by simp)
/-- a slice of one's own that is not empty -/
theorem Own.slice_ {α : Type} {w : World} {B : Nat} {T : TypeId} {size : Nat} {enc : α → List Value} {v : Value} {xs : List α} (h : Own w B T size enc v xs) (hne : 0 < xs.length) : ∃ g cap, v = .slice (some ⟨g, 0, none⟩) xs.length cap ∧ B ≤ g ∧ g < w.heap.size := by
  rcases h.2 with ⟨_, h2⟩ | ⟨g, cap, cur, hv, hg, hh, _⟩
  · omega
  · exact ⟨g, cap, hv, hg, (Array.getElem?_eq_some_iff.1 hh).1⟩
end Go.Proofs.Yteoicnhnpailiaa
