/- Helps for the walk of cascade.spread: sets stored whole, the ranks in a map. -/
import Derived.Test.YteoicnhnpailiaaCb7
import Derived.Maps.OwnSet
import Derived.Maps.OwnOps
namespace Go.Proofs.Yteoicnhnpailiaa
open Go.RowKit Go.Sort Go.Maps

/-- a set stored whole -/
abbrev st12 (W : World) (b : Nat) (v0 v1 v2 v3 v4 v5 v6 v7 v8 v9 v10 v11 : Value) : World := (((((((((((W.setCell ⟨b, 0, none⟩ v0).setCell ⟨b, 1, none⟩ v1).setCell ⟨b, 2, none⟩ v2).setCell ⟨b, 3, none⟩ v3).setCell ⟨b, 4, none⟩ v4).setCell ⟨b, 5, none⟩ v5).setCell ⟨b, 6, none⟩ v6).setCell ⟨b, 7, none⟩ v7).setCell ⟨b, 8, none⟩ v8).setCell ⟨b, 9, none⟩ v9).setCell ⟨b, 10, none⟩ v10).setCell ⟨b, 11, none⟩ v11
theorem Blk.st12 {W : World} {b : Nat} {t : TypeId} {u0 u1 u2 u3 u4 u5 u6 u7 u8 u9 u10 u11 v0 v1 v2 v3 v4 v5 v6 v7 v8 v9 v10 v11 : Value} (h : Blk W b t #[u0, u1, u2, u3, u4, u5, u6, u7, u8, u9, u10, u11]) : Blk (st12 W b v0 v1 v2 v3 v4 v5 v6 v7 v8 v9 v10 v11) b t #[v0, v1, v2, v3, v4, v5, v6, v7, v8, v9, v10, v11] := by
  have h' := (((((((((((h.set_ 0 v0).set_ 1 v1).set_ 2 v2).set_ 3 v3).set_ 4 v4).set_ 5 v5).set_ 6 v6).set_ 7 v7).set_ 8 v8).set_ 9 v9).set_ 10 v10).set_ 11 v11
  simp only [List.setIfInBounds_toArray, List.set_cons_zero, List.set_cons_succ] at h'
  exact h'
theorem Blk.st12_far {W : World} {b g : Nat} {t : TypeId} {cs : Array Value} (v0 v1 v2 v3 v4 v5 v6 v7 v8 v9 v10 v11 : Value) (h : Blk W g t cs) (hg : g ≠ b) : Blk (Yteoicnhnpailiaa.st12 W b v0 v1 v2 v3 v4 v5 v6 v7 v8 v9 v10 v11) g t cs :=
  (((((((((((h.far hg v0).far hg v1).far hg v2).far hg v3).far hg v4).far hg v5).far hg v6).far hg v7).far hg v8).far hg v9).far hg v10).far hg v11
theorem below_st12 {B : Nat} {w W : World} {b : Nat} (v0 v1 v2 v3 v4 v5 v6 v7 v8 v9 v10 v11 : Value) (h : Below B w W) (hb : B ≤ b) : Below B w (Yteoicnhnpailiaa.st12 W b v0 v1 v2 v3 v4 v5 v6 v7 v8 v9 v10 v11) :=
  (((((((((((h.setCell hb v0).setCell hb v1).setCell hb v2).setCell hb v3).setCell hb v4).setCell hb v5).setCell hb v6).setCell hb v7).setCell hb v8).setCell hb v9).setCell hb v10).setCell hb v11
theorem map_st12 {W : World} {b g n : Nat} {P : Program} {k : TypeId} {R : Value → Option (DataW Unit × List MemPlace)} {D : DataW Unit} (v0 v1 v2 v3 v4 v5 v6 v7 v8 v9 v10 v11 : Value) (h : W.ownsMap P k R g n D) (hg : g ≠ b) : (Yteoicnhnpailiaa.st12 W b v0 v1 v2 v3 v4 v5 v6 v7 v8 v9 v10 v11).ownsMap P k R g n D :=
  (((((((((((h.setCell (a := ⟨b, 0, none⟩) hg v0).setCell (a := ⟨b, 1, none⟩) hg v1).setCell (a := ⟨b, 2, none⟩) hg v2).setCell (a := ⟨b, 3, none⟩) hg v3).setCell (a := ⟨b, 4, none⟩) hg v4).setCell (a := ⟨b, 5, none⟩) hg v5).setCell (a := ⟨b, 6, none⟩) hg v6).setCell (a := ⟨b, 7, none⟩) hg v7).setCell (a := ⟨b, 8, none⟩) hg v8).setCell (a := ⟨b, 9, none⟩) hg v9).setCell (a := ⟨b, 10, none⟩) hg v10).setCell (a := ⟨b, 11, none⟩) hg v11
/-- the cells of a set that may be stored into -/
theorem free12 {X : World} {g : Nat} {t : TypeId} {cs : Array Value} (h : Blk X g t cs) : X.frozen? ⟨g, 0, none⟩ = false ∧ X.frozen? ⟨g, 1, none⟩ = false ∧ X.frozen? ⟨g, 2, none⟩ = false ∧ X.frozen? ⟨g, 3, none⟩ = false ∧ X.frozen? ⟨g, 4, none⟩ = false ∧ X.frozen? ⟨g, 5, none⟩ = false ∧ X.frozen? ⟨g, 6, none⟩ = false ∧ X.frozen? ⟨g, 7, none⟩ = false ∧ X.frozen? ⟨g, 8, none⟩ = false ∧ X.frozen? ⟨g, 9, none⟩ = false ∧ X.frozen? ⟨g, 10, none⟩ = false ∧ X.frozen? ⟨g, 11, none⟩ = false :=
  ⟨h.frozen 0, h.frozen 1, h.frozen 2, h.frozen 3, h.frozen 4, h.frozen 5, h.frozen 6, h.frozen 7, h.frozen 8, h.frozen 9, h.frozen 10, h.frozen 11⟩
/-- the next set, of the first j parties -/
def nxP (p : Pf) (S : List Bool) (j : Nat) : List Bool := (List.range 12).map fun (i : Nat) => decide (i < j) && (decide ((i : Int) < p.n) && ovr p S i)
theorem nxP_len (p : Pf) (S : List Bool) (j : Nat) : (nxP p S j).length = 12 := by simp [nxP]
theorem nxP_0 (p : Pf) (S : List Bool) : nxP p S 0 = List.replicate 12 false := by
  refine List.ext_getElem (by simp [nxP]) fun i h1 h2 => ?_
  rw [List.getElem_replicate]
  simp [nxP]
theorem nxP_n {p : Pf} (S : List Bool) {j : Nat} (h : (j : Int) = p.n) : nxP p S j = nx p S := by
  unfold nxP nx
  refine List.map_congr_left fun i _ => ?_
  by_cases hi : i < j
  · simp [hi]
  · simp [hi, show ¬ ((i : Int) < p.n) by omega]
theorem nxP_step {p : Pf} (S : List Bool) {j : Nat} (h : (j : Int) < p.n) (h12 : j < 12) : (setA (nxP p S j)).setIfInBounds j (.bool (ovr p S j)) = setA (nxP p S (j + 1)) := by
  refine Array.ext (by simp [setA, nxP]) fun i h1 h2 => ?_
  simp only [setA, nxP, List.size_toArray, List.length_map, List.length_range] at h2
  rw [Array.getElem_setIfInBounds (by simpa using h1)]
  simp only [setA, nxP, List.getElem_toArray, List.getElem_map, List.getElem_range]
  by_cases hij : j = i
  · subst hij
    simp [h]
  · rw [if_neg hij]
    by_cases h3 : i < j
    · simp [h3, show i < j + 1 by omega]
    · simp [h3, show ¬ i < j + 1 by omega]
/-- the ranks as the map has them, within round K before party j -/
structure MapIs (p : Pf) (K : Nat) (j : Int) (D : DataW Unit) : Prop where
  y : ∀ (i : Int) (k : Nat), 0 ≤ i → i < p.n → (k < if i < j then K + 1 else K) → Rk p i k → Maps.has D (.int .i64 i) = true ∧ D.atKey (.int .i64 i) (.lit (.int .i64 0)) = .lit (.int .i64 (k + 1))
  n : ∀ (i : Int), 0 ≤ i → i < p.n → (∀ k, (k < if i < j then K + 1 else K) → ¬ Rk p i k) → Maps.has D (.int .i64 i) = false
theorem MapIs.start (p : Pf) : MapIs p 0 0 (.map []) :=
  ⟨fun i k h0 _ hk => by rw [if_neg (by omega)] at hk; omega, fun i _ _ _ => rfl⟩
theorem MapIs.next {p : Pf} {K : Nat} {j : Int} {D : DataW Unit} (h : MapIs p K j D) (hj : j = p.n) : MapIs p (K + 1) 0 D :=
  ⟨fun i k h0 h1 hk hr => h.y i k h0 h1 (by rw [if_neg (by omega)] at hk; rw [if_pos (by omega)]; exact hk) hr, fun i h0 h1 hk => h.n i h0 h1 fun k hk' => hk k (by rw [if_pos (by omega)] at hk'; rw [if_neg (by omega)]; exact hk')⟩
theorem MapIs.has_ex {p : Pf} {K : Nat} {j : Int} {D : DataW Unit} (h : MapIs p K j D) (h0 : 0 ≤ j) (h1 : j < p.n) (hh : Maps.has D (.int .i64 j) = true) : ∃ k, k < K ∧ Rk p j k := by
  rcases Classical.em (∃ k, k < K ∧ Rk p j k) with he | he
  · exact he
  · have := h.n j h0 h1 fun k hk hr => he ⟨k, by rw [if_neg (by omega)] at hk; exact hk, hr⟩
    rw [this] at hh; cases hh
theorem MapIs.old {p : Pf} {K : Nat} {j : Int} {D : DataW Unit} (h : MapIs p K j D) (h0 : 0 ≤ j) (h1 : j < p.n) (hh : Maps.has D (.int .i64 j) = false) : has (Dk p K) j = false := by
  cases hd : has (Dk p K) j with
  | false => rfl
  | true =>
    obtain ⟨k, hk, hr⟩ := Rk.ex hd
    have := (h.y j k h0 h1 (by rw [if_neg (by omega)]; exact hk) hr).1
    rw [this] at hh; cases hh
/-- nothing is entered for a party: it has its rank, or it does not come to default in this round -/
theorem MapIs.stay {p : Pf} (hp : VP p) {K : Nat} {j : Int} {D : DataW Unit} (ho : ∀ q, q < K + 1 → okS p (Dk p q)) (h : MapIs p K j D) (h0 : 0 ≤ j) (h1 : j < p.n) (hh : Maps.has D (.int .i64 j) = true ∨ has (Dk p (K + 1)) j = false) : MapIs p K (j + 1) D := by
  have hno : ¬ Rk p j K := by
    intro hr
    rcases hh with hh | hh
    · obtain ⟨k, hk, hr'⟩ := h.has_ex h0 h1 hh
      have := Rk.uniq hp ho h0 h1 (by omega) (by omega) hr hr'
      omega
    · rw [hr.1] at hh; cases hh
  refine ⟨fun i k i0 i1 hk hr => ?_, fun i i0 i1 hk => ?_⟩
  · refine h.y i k i0 i1 ?_ hr
    by_cases hij : i = j
    · subst hij
      rw [if_pos (by omega)] at hk
      rw [if_neg (by omega)]
      have : k ≠ K := fun e => hno (e ▸ hr)
      omega
    · split at hk
      · rw [if_pos (by omega)]; exact hk
      · rw [if_neg (by omega)]; exact hk
  · refine h.n i i0 i1 fun k hk' => hk k ?_
    split at hk'
    · rw [if_pos (by omega)]; exact hk'
    · split <;> omega
/-- a party's rank is entered -/
theorem MapIs.enter {p : Pf} (hp : VP p) {K : Nat} {j : Int} {D : DataW Unit} (ho : ∀ q, q < K + 1 → okS p (Dk p q)) (hD : IsMap D) (h : MapIs p K j D) (h0 : 0 ≤ j) (h1 : j < p.n) (hh : Maps.has D (.int .i64 j) = false) (hx : has (Dk p (K + 1)) j = true) :
    MapIs p K (j + 1) (D.put (.int .i64 j) (.lit (.int .i64 ((K : Int) + 1)))) := by
  have hr0 : Rk p j K := ⟨hx, h.old h0 h1 hh⟩
  have hkey : WideAt.IsKeyLit (.int .i64 j) := by trivial
  refine ⟨fun i k i0 i1 hk hr => ?_, fun i i0 i1 hk => ?_⟩
  · by_cases hij : i = j
    · subst hij
      rw [if_pos (by omega)] at hk
      have := Rk.uniq hp ho h0 h1 hk (by omega) hr hr0
      subst this
      exact ⟨has_put_same hD hkey _, atKey_put_same hD hkey _ _⟩
    · have hne : (Lit.int .i64 i) ≠ .int .i64 j := fun e => hij (by injection e)
      rw [has_put_other hne, atKey_put_other hne]
      refine h.y i k i0 i1 ?_ hr
      split at hk
      · rw [if_pos (by omega)]; exact hk
      · rw [if_neg (by omega)]; exact hk
  · by_cases hij : i = j
    · subst hij
      exact absurd hr0 (hk K (by rw [if_pos (by omega)]; omega))
    · have hne : (Lit.int .i64 i) ≠ .int .i64 j := fun e => hij (by injection e)
      rw [has_put_other hne]
      refine h.n i i0 i1 fun k hk' => hk k ?_
      split at hk'
      · rw [if_pos (by omega)]; exact hk'
      · rw [if_neg (by omega)]; exact hk'
end Go.Proofs.Yteoicnhnpailiaa
