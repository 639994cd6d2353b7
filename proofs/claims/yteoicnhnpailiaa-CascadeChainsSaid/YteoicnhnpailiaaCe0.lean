/- What Defaults gives at a valid portfolio, by the outcome of the cascade. -/
import Derived.Test.YteoicnhnpailiaaCc2
import Derived.Test.YteoicnhnpailiaaOpC
namespace Go.Proofs.Yteoicnhnpailiaa
open Go.RowKit Go.Sort Go.Maps

theorem defaults_ok (p : Pf) (m : Ms) (w : World) (hv : VP p) (hm : Pm w p m) {K : Nat} (hK : SpOk p K) :
    Calls Try.prog 13 #[.agg (pfA p m)] w fun e w' => (∃ v, e = .returned (.tuple #[v, .int .i64 0]) ∧ GotB w.heap.size w' (outD p K) v) ∧ Below w.heap.size w w' := by
  refine (defaults_any p m w (vp_fp hv) hm).mono ?_
  rintro e w' ⟨⟨h, _⟩ | ⟨_, K', h, _⟩ | ⟨_, K', v, h, he, hg⟩, hb⟩
  · rw [vldP_mk hv] at h; cases h
  · exact (hK.no h).elim
  · obtain rfl := h.uniq hK
    exact ⟨⟨v, he, hg⟩, hb⟩
theorem defaults_no (p : Pf) (m : Ms) (w : World) (hv : VP p) (hm : Pm w p m) (hK : ¬ ∃ K, SpOk p K) :
    Calls Try.prog 13 #[.agg (pfA p m)] w fun e w' => e = .returned (.tuple #[.slice none 0 0, .int .i64 2]) ∧ Below w.heap.size w w' := by
  refine (defaults_any p m w (vp_fp hv) hm).mono ?_
  rintro e w' ⟨⟨h, _⟩ | ⟨_, K', h, he⟩ | ⟨_, K', v, h, he, hg⟩, hb⟩
  · rw [vldP_mk hv] at h; cases h
  · exact ⟨he, hb⟩
  · exact (hK ⟨K', h⟩).elim
theorem fp_few {p : Pf} (hl : Lp p) (hn : -9223372036854775808 ≤ p.n ∧ p.n ≤ 9223372036854775807) (ha : ∀ a ∈ p.as, fitA a) (hd : ∀ x ∈ p.du, fitD x) (hla : ∀ x ∈ p.la, fitD x) {k : Nat} (hk : k ≤ 400) (hf : fewP p k = true) : Fp p := by
  have h := of_decide_eq_true hf
  exact ⟨hn, ha, hd, hla, by omega, by omega, by omega, by omega, by omega⟩
abbrev msN (m : Ms) (A : Option Addr) (c : Nat) : Ms := ⟨m.a1, m.c1, A, c, m.a3, m.c3, m.a4, m.c4, m.a5, m.c5⟩
def DfO (p : Pf) (w w' : World) (v : Value) (z : Int) : Prop := (z = 0 ∧ ∃ K, SpOk p K ∧ GotB w.heap.size w' (outD p K) v) ∨ z = 2
theorem dfo_any (p : Pf) (m : Ms) (w : World) (hv : VP p) (hm : Pm w p m) :
    Calls Try.prog 13 #[.agg (pfA p m)] w fun e w' => (∃ v z, e = .returned (.tuple #[v, .int .i64 z]) ∧ DfO p w w' v z) ∧ Below w.heap.size w w' := by
  refine (defaults_any p m w (vp_fp hv) hm).mono ?_
  rintro e w' ⟨⟨h, _⟩ | ⟨_, K', h, he⟩ | ⟨_, K', v, h, he, hg⟩, hb⟩
  · rw [vldP_mk hv] at h; cases h
  · exact ⟨⟨_, _, he, .inr rfl⟩, hb⟩
  · exact ⟨⟨_, _, he, .inl ⟨rfl, K', h, hg⟩⟩, hb⟩
theorem seg_of_blk {α : Type} {enc : α → List Value} {size : Nat} (he : ∀ x, (enc x).length = size) {w : World} {g : Nat} {t : TypeId} {cs : Array Value} (xs : List α) (h : Blk w g t cs) (e : cs = (xs.flatMap enc).toArray) : Seg w w.heap.size size enc (some ⟨g, 0, none⟩) xs := by
  subst e
  intro k x hx
  refine ⟨g, 0, rfl, h.lt, fun j u hu => ?_⟩
  rw [h.cell]
  have hj : j < size := by rw [← he x]; exact (List.getElem?_eq_some_iff.1 hu).1
  have := getElem?_flatMap (enc := enc) he xs k j x hx hj
  simp only [Nat.zero_add, List.getElem?_toArray]
  rw [this]; exact hu
end Go.Proofs.Yteoicnhnpailiaa
