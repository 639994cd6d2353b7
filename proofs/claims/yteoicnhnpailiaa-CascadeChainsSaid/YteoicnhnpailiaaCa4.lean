/- Plain laws of the cascade, as the statements ask them. No program in sight. -/
import Derived.Test.YteoicnhnpailiaaCa3
namespace Go.Proofs.Yteoicnhnpailiaa

/-- a list of bools as a set of twelve -/
def pad (l : List Bool) : List Bool := (List.range 12).map fun i => l.getD i false
theorem pad_len (l : List Bool) : (pad l).length = 12 := by simp [pad]
theorem has_pad {l : List Bool} (hl : l.length ≤ 12) (i : Int) : has (pad l) i = has l i := by
  unfold has pad
  generalize i.toNat = k
  simp only [List.getD_eq_getElem?_getD]
  by_cases hk : k < 12
  · simp [hk]
  · rw [List.getElem?_eq_none (by simp; omega), List.getElem?_eq_none (by omega)]
theorem has_take {l : List Bool} {n : Nat} (i : Int) (h : i.toNat < n) : has (l.take n) i = has l i := by
  unfold has
  simp only [List.getD_eq_getElem?_getD, List.getElem?_take, if_pos h]
theorem has_take_out {l : List Bool} {n : Nat} (i : Int) (h : n ≤ i.toNat) : has (l.take n) i = false := by
  unfold has
  simp only [List.getD_eq_getElem?_getD]
  rw [List.getElem?_eq_none (by simp; omega)]
  rfl
/-- the parties that default, as a list -/
def outD (p : Pf) (K : Nat) : List Bool := (Dk p K).take p.n.toNat
theorem outD_len {p : Pf} (hp : VP p) (K : Nat) : ((outD p K).length : Int) = p.n := by
  have := hp.n12
  have := hp.n1
  simp only [outD, List.length_take, Dk_len]; omega
theorem pad_outD {p : Pf} (hp : VP p) (K : Nat) : pad (outD p K) = Dk p K := by
  have h1 := hp.n12
  have h0 := hp.n1
  have hl := outD_len hp K
  refine eq12 (pad_len _) (Dk_len _ _) fun i hi => ?_
  rw [has_pad (by omega)]
  by_cases h : (i : Int) < p.n
  · exact has_take _ (by omega)
  · rw [outD, has_take_out _ (by omega), has_out K (by omega) (by omega)]
theorem has_outD {p : Pf} (hp : VP p) (K : Nat) (i : Int) : has (outD p K) i = has (Dk p K) i := by
  have h1 := hp.n12
  have hl := outD_len hp K
  rw [← pad_outD hp K, has_pad (by omega)]
theorem okS_some {p : Pf} {S : List Bool} (h : okS p S) {i : Int} (h0 : 0 ≤ i) (h1 : i < p.n) : ∃ q, ow p S i = some q := Option.isSome_iff_exists.1 (h i h0 h1)
theorem ovr_some {p : Pf} {S : List Bool} {i : Int} {q : Rat} (h : ow p S i = some q) : ovr p S i = decide (asQ p i.toNat < q) := by unfold ovr; rw [h]
/-- CascadeLeast -/
theorem least_law {p : Pf} (hp : VP p) {K : Nat} {T : List Bool} (ho : okS p T) (hc : ∀ i : Int, 0 ≤ i → i < p.n → ovr p T i = true → has T i = true) {i : Int} (h0 : 0 ≤ i) (h1 : i < p.n) (h : has (Dk p K) i = true) : has T i = true := Dk_least hp ho hc K i h0 h1 h
/-- CascadeAnyOrder: who has to pay too much for a set within the last one is in the last one -/
theorem grow_law {p : Pf} (hp : VP p) {K : Nat} (hs : SpOk p K) {T : List Bool} (ht : sub p.n T (Dk p K)) {i : Int} (h0 : 0 ≤ i) (h1 : i < p.n) (h : ovr p T i = true) : has (Dk p K) i = true := by
  rw [hs.fix hp h0 h1]
  exact ovr_mono hp ht (hs.2.1 i h0 h1) h
theorem any_law {p : Pf} (hp : VP p) {K : Nat} (hs : SpOk p K) {T : List Bool} (hl : T.length = 12) (hz : ∀ i : Int, p.n ≤ i → has T i = false) (ht : sub p.n T (Dk p K)) (ho : okS p T) (hc : ∀ i : Int, 0 ≤ i → i < p.n → ovr p T i = true → has T i = true) : T = Dk p K := by
  refine eq12 hl (Dk_len _ _) fun i _ => ?_
  by_cases h1 : (i : Int) < p.n
  · cases h : has T i with
    | true => exact (ht i (by omega) h1 h).symm
    | false =>
      cases h' : has (Dk p K) i with
      | false => rfl
      | true => rw [Dk_least hp ho hc K i (by omega) h1 h'] at h; cases h
  · rw [hz i (by omega), has_out K (by omega) (by omega)]
/-- another portfolio in which nobody comes to default more -/
theorem less_law {p q : Pf} (hp : VP p) (hn : q.n = p.n) (hq : VP q) {K K' : Nat} (hs : SpOk p K) (hs' : SpOk q K')
    (hm : ∀ (S T : List Bool) (i : Int) (a b : Rat), sub p.n S T → 0 ≤ i → i < p.n → ow q S i = some a → ow p T i = some b → asQ q i.toNat < a → asQ p i.toNat < b) :
    ∀ j, j ≤ K' → sub p.n (Dk q j) (Dk p K)
  | 0, _ => fun i _ _ h => by rw [show Dk q 0 = List.replicate 12 false from rfl, has_0] at h; cases h
  | j + 1, hj => fun i h0 h1 h => by
    rw [show Dk q (j + 1) = nx q (Dk q j) from rfl, has_nx hq _ h0 (by omega)] at h
    rw [hs.fix hp h0 h1]
    obtain ⟨b, hb⟩ := okS_some hs.2.1 h0 h1
    cases ha : ow q (Dk q j) i with
    | none => unfold ovr at h; rw [ha] at h; cases h
    | some a =>
      rw [ovr_some ha] at h
      rw [ovr_some hb]
      exact decide_eq_true (hm _ _ i a b (less_law hp hn hq hs hs' hm j (by omega)) h0 h1 ha hb (of_decide_eq_true h))
/-- CascadeMore -/
def rich (p : Pf) (k : Nat) (a : Int × Int) : Pf := { p with as := p.as.set k a }
theorem amtC_rich (p : Pf) (k : Nat) (a : Int × Int) (S : List Bool) (i : Int) : amtC (rich p k a) S i = amtC p S i := rfl
theorem asQ_rich {p : Pf} {k : Nat} {a : Int × Int} (hk : k < p.as.length) (h : asQ p k ≤ Rat.divInt a.1 a.2) (i : Nat) : asQ p i ≤ asQ (rich p k a) i := by
  unfold asQ rich
  by_cases hi : i = k
  · subst hi
    simp only [List.getElem?_set_self hk]
    exact h
  · rw [List.getElem?_set_ne (by omega)]
    exact Rat.le_refl
theorem VP.rich {p : Pf} (hp : VP p) {k : Nat} {a : Int × Int} (ha : vld a.1 a.2 = true) (h0 : 0 ≤ a.1) : VP (rich p k a) := by
  refine ⟨hp.n1, hp.n12, by simpa [Proofs.Yteoicnhnpailiaa.rich] using hp.len, hp.ldu, hp.lla, hp.lgu, hp.ltr, fun x hx => ?_, hp.du, hp.la, hp.gu, hp.tr⟩
  rcases List.mem_or_eq_of_mem_set hx with h | rfl
  · exact hp.as x h
  · exact ⟨ha, h0⟩
theorem more_law {p : Pf} (hp : VP p) {k : Nat} {a : Int × Int} (hk : k < p.as.length) (ha : vld a.1 a.2 = true) (h0 : 0 ≤ a.1) (h : asQ p k ≤ Rat.divInt a.1 a.2) {K K' : Nat} (hs : SpOk p K) (hs' : SpOk (rich p k a) K') : sub p.n (Dk (rich p k a) K') (Dk p K) :=
  less_law (q := rich p k a) hp rfl (VP.rich hp ha h0) hs hs' (fun S T i x y hST i0 i1 hx hy hlt => by
    have h1 := ow_mono hp hST (show ow p S i = some x from hx) hy
    have h2 := asQ_rich hk h i.toNat
    grind) K' (Nat.le_refl _)
/-- CascadeOwn -/
def bare (p : Pf) : Pf := { p with gu := [], tr := [] }
theorem VP.bare {p : Pf} (hp : VP p) : VP (bare p) := ⟨hp.n1, hp.n12, hp.len, hp.ldu, hp.lla, by simp [Proofs.Yteoicnhnpailiaa.bare], by simp [Proofs.Yteoicnhnpailiaa.bare], hp.as, hp.du, hp.la, by simp [Proofs.Yteoicnhnpailiaa.bare], by simp [Proofs.Yteoicnhnpailiaa.bare]⟩
theorem amtC_bare (p : Pf) (S : List Bool) (i : Int) : amtC (bare p) S i = ams p.du i (-1) := by simp [amtC, eachL, lat, bare]
theorem own_law {p : Pf} (hp : VP p) {K : Nat} {i : Int} (h0 : 0 ≤ i) (h1 : i < p.n) (hs : SpOk (bare p) K) : ∃ q, sumE (some 0) (ams p.du i (-1)) = some q ∧ has (Dk (bare p) K) i = decide (asQ p i.toNat < q) := by
  obtain ⟨q, hq⟩ := okS_some hs.2.1 h0 h1
  have e := hs.fix hp.bare h0 h1
  rw [ovr_some hq] at e
  refine ⟨q, ?_, e⟩
  unfold ow at hq
  rwa [amtC_bare] at hq
theorem own_more {p : Pf} (hp : VP p) {K K' : Nat} {i : Int} (h0 : 0 ≤ i) (h1 : i < p.n) (hs : SpOk (bare p) K) (hs' : SpOk p K') (h : has (Dk (bare p) K) i = true) : has (Dk p K') i = true := by
  obtain ⟨q, hq, e⟩ := own_law hp h0 h1 hs
  rw [e] at h
  obtain ⟨b, hb⟩ := okS_some hs'.2.1 h0 h1
  rw [hs'.fix hp h0 h1, ovr_some hb]
  have e1 : q = sumQ (ams p.du i (-1)) := by rw [sumE_eq hq, Rat.zero_add]
  have e2 := ow_eq hb
  have hsub : (ams p.du i (-1)).Sublist (amtC p (Dk p K') i) := by
    unfold amtC eachL
    rw [List.append_assoc]
    exact List.sublist_append_left _ _
  have := sumQ_sub hsub (amtC_pos hp _ i)
  have hlt := of_decide_eq_true h
  exact decide_eq_true (by grind)
/-- CascadeCalm -/
def calm (p : Pf) : Pf := { p with du := [] }
theorem VP.calm {p : Pf} (hp : VP p) : VP (calm p) := ⟨hp.n1, hp.n12, hp.len, by simp [Proofs.Yteoicnhnpailiaa.calm], hp.lla, hp.lgu, hp.ltr, hp.as, by simp [Proofs.Yteoicnhnpailiaa.calm], hp.la, hp.gu, hp.tr⟩
theorem lat_none (p : Pf) (i : Int) : lat p (List.replicate 12 false) i = false := by
  unfold lat
  rw [List.any_eq_false]
  intro t _
  simp only [has_0, Bool.and_false, Bool.false_eq_true, not_false_iff]
theorem amtC_calm (p : Pf) (i : Int) : amtC (calm p) (List.replicate 12 false) i = [] := by
  unfold amtC
  rw [List.append_eq_nil_iff, List.flatMap_eq_nil_iff]
  refine ⟨?_, fun g _ => ?_⟩
  · unfold eachL; rw [lat_none]; simp [ams, calm]
  · unfold gOf; rw [has_0]; simp
theorem asQ_pos {p : Pf} (hp : VP p) (i : Nat) : 0 ≤ asQ p i := by
  unfold asQ
  split
  · rename_i a ha
    obtain ⟨h1, h2⟩ := hp.as a (List.mem_of_getElem? ha)
    obtain ⟨q, _, e1, e2⟩ := rat_of_vld h1
    rw [← e1, ← e2, Rat.num_divInt_den, ← Rat.num_nonneg, e1]
    exact h2
  · exact Rat.le_refl
theorem calm_law {p : Pf} (hp : VP p) {K : Nat} : SpOk (calm p) 0 ∧ (SpOk (calm p) K → K = 0) ∧ ¬ SpNo (calm p) K := by
  have ho : ∀ i : Int, ow (calm p) (List.replicate 12 false) i = some 0 := fun i => by unfold ow; rw [amtC_calm]; rfl
  have h0 : SpOk (calm p) 0 := by
    refine ⟨⟨fun j hj => by omega, fun j hj => by omega⟩, fun i _ _ => by rw [show Dk (calm p) 0 = List.replicate 12 false from rfl, ho]; rfl, ?_⟩
    refine eq12 (nx_len _ _) (Dk_len _ _) fun i _ => ?_
    by_cases h1 : (i : Int) < p.n
    · rw [show Dk (calm p) (0 + 1) = nx (calm p) (List.replicate 12 false) from rfl, has_nx hp.calm _ (by omega) h1, ovr_some (ho i), show Dk (calm p) 0 = List.replicate 12 false from rfl, has_0]
      have := asQ_pos hp.calm i
      exact decide_eq_false (by rw [Int.toNat_natCast]; grind)
    · rw [has_out 1 (by show p.n ≤ _; omega) (by omega), show Dk (calm p) 0 = List.replicate 12 false from rfl, has_0]
  exact ⟨h0, fun h => h.uniq h0, fun h => h0.no h⟩
end Go.Proofs.Yteoicnhnpailiaa
