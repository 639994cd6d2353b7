/- What the law MergeCommutes needs besides its walk. -/
import Derived.Test.YtcplneglfbdooaaMb30
import Derived.Test.YtcplneglfbdooaaZTo2
namespace Go.Proofs.Ytcplneglfbdooaa
open Go.RowKit

theorem comI_mem {a b a' b' : List Int} (h1 : ∀ x, x ∈ a ↔ x ∈ a') (h2 : ∀ x, x ∈ b ↔ x ∈ b') : comI a b = comI a' b' := by
  rw [Bool.eq_iff_iff]
  simp only [comI, List.any_eq_true, h1, h2]
theorem comI_no' {a b : List Int} (h : comI a b = false) : ∀ x ∈ a, x ∉ b := fun x hx hy => by
  have : comI a b = true := List.any_eq_true.2 ⟨x, hx, List.any_eq_true.2 ⟨x, hy, by simp⟩⟩
  rw [this] at h; cases h
theorem comI_yes' {a b : List Int} (h : comI a b = true) : ∃ x, x ∈ a ∧ x ∈ b := by
  obtain ⟨x, hx, h⟩ := List.any_eq_true.1 h
  obtain ⟨y, hy, h⟩ := List.any_eq_true.1 h
  exact ⟨x, hx, by rw [eq_of_beq h]; exact hy⟩
theorem small2 {c : Con} {x y : Pk} (h : smallA c (pats [x, y]) = true) : x.p.cls.length ≤ 500 ∧ x.p.new.start.length ≤ 20 ∧ y.p.cls.length ≤ 500 ∧ y.p.new.start.length ≤ 20 := by
  unfold smallA at h
  simp only [pats, List.map_cons, List.map_nil, List.all_cons, List.all_nil, Bool.and_eq_true, Pat.small, decide_eq_true_eq] at h
  omega
theorem seg_new2 {W V : World} {t : TypeId} (x y : Pk) (h : V = W.alloc (.cells (eP x ++ eP y).toArray t)) : Seg V V.heap.size 19 eP (some ⟨W.heap.size, 0, none⟩) [x, y] :=
  blk_seg (xs := [x, y]) eP_len (by rw [h]; exact Blk.new _ _ _)
theorem small_two {w : World} (c : Con) (m : Cm) (x y : Pk) (B : Bool) (h : ContW w c m) (hB : smallA c (pats [x, y]) = B) (W : World) (A : Option Addr) (hb : Below w.heap.size w W) (hs : Seg W W.heap.size 19 eP A [x, y]) :
    Calls Try.prog 10 #[.agg (coA c m), .slice A 2 2] W fun e w' => e = .returned (.bool B) ∧ Below W.heap.size W w' := by
  subst hB
  exact small_any c m [x, y] A 2 W ((h.k.2.2.2.below hb).more hb.size) h.e hs (by show 2 ≤ 9223372036854775807; decide)
theorem tch_to (c : Con) (m : Cm) (p : Pat) (pm : Pm) (E : Int) (w : World) (h : Cont w c m) (hp : PatM w p pm) (h1 : p.cls.length ≤ 500) (h2 : p.new.start.length ≤ 20) (hE : c.apE p = E) :
    Calls Try.prog 19 #[.agg (coA c m), .agg (pL p pm)] w fun e w' => (∃ A k l, e = .returned (.tuple #[.slice A (l : List Int).length k, .int .i64 E]) ∧ Seg w' w'.heap.size 1 eI A l ∧ l.length ≤ 1000000 ∧ (E = 0 → ∀ x, x ∈ l ↔ x ∈ c.tch p)) ∧ Below w.heap.size w w' := by
  subst hE
  exact touches_any c m p pm w h hp h1 h2
theorem com_to {K : Bool} {a b : List Int} (hK : comI a b = K) (l1 l2 : List Int) (A1 A2 : Option Addr) (k1 k2 : Nat) (w : World) (s1 : Seg w w.heap.size 1 eI A1 l1) (s2 : Seg w w.heap.size 1 eI A2 l2) (n1 : l1.length ≤ 1000000) (n2 : l2.length ≤ 1000000) (m1 : ∀ x, x ∈ l1 ↔ x ∈ a) (m2 : ∀ x, x ∈ l2 ↔ x ∈ b) :
    Calls Try.prog 20 #[.slice A1 l1.length k1, .slice A2 l2.length k2] w fun e w' => e = .returned (.bool K) ∧ Below w.heap.size w w' := by
  rw [← hK, ← comI_mem m1 m2]
  exact common_any l1 l2 A1 A2 k1 k2 w s1 s2 n1 n2
end Go.Proofs.Ytcplneglfbdooaa
