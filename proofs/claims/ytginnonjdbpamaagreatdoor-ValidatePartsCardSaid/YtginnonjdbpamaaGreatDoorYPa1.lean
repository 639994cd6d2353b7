/- What lies in memory while contract.Part makes the part of a contract. -/
import Derived.Test.YtginnonjdbpamaaGreatDoorYVbF
import Derived.Test.YtginnonjdbpamaaGreatDoorMc18
import Derived.Test.YtginnonjdbpamaaGreatDoorMc13
import Derived.Test.YtginnonjdbpamaaGreatDoorMc20
import Derived.Test.YtginnonjdbpamaaGreatDoorYHc
import Derived.Test.YtginnonjdbpamaaGreatDoorMc1
namespace Go.Proofs.YtginnonjdbpamaaGreatDoor
open Go.RowKit Go.Sort
theorem inc_pw (n : Nat) : ∀ {ks : List Int} {last : Int}, incI n last ks = true → ks.Pairwise (· < ·) ∧ ∀ i ∈ ks, last < i
 | [], _, _ => ⟨List.Pairwise.nil, by simp⟩
 | d :: ks, last, h => by
  simp only [incI, Bool.and_eq_true, decide_eq_true_eq] at h
  obtain ⟨h1, h2⟩ := inc_pw n h.2
  refine ⟨List.pairwise_cons.2 ⟨h2, h1⟩, fun i hi => ?_⟩
  rcases List.mem_cons.1 hi with rfl | hi
  ·exact h.1.1
  ·have := h2 i hi
   omega
theorem befN_idx {ks : List Int} {t : Int} (hp : ks.Pairwise (· < ·)) (ht : t ∈ ks) : befN t ks = ks.idxOf t := by
 have hl := List.idxOf_lt_length_iff.2 ht
 have he : ks[ks.idxOf t]? = some t := by rw [qzJ hl, List.getElem_idxOf]
 refine xJb (by omega) (fun k x hk hx => xCd hp hx he hk) fun k x hk hx => ?_
 rcases Nat.lt_or_eq_of_le hk with h | h
 ·exact Int.le_of_lt (xCd hp he hx h)
 ·subst h
  rw [he] at hx
  cases hx
  exact Int.le_refl _
def zCla : Cla := ⟨0, 0, 0, 0, [], 0, 0, false, false, 0, 0, (0, 0), 0, 0, false⟩
def zKm : Km := ⟨zCla, none, 0⟩
def zCon : Con := ⟨0, [], [], [], [], 0, []⟩
def zCm : Cm := ⟨none, 0, none, 0, none, 0, none, 0, none, 0, []⟩
theorem zCont (w : World) : Cont w zCon zCm :=
 ⟨Seg.nil _ _ _ _ _, Seg.nil _ _ _ _ _, Seg.nil _ _ _ _ _, Seg.nil _ _ _ _ _, Seg.nil _ _ _ _ _, rfl, (by intro x hx; cases hx), (by intro x hx; cases hx), (by intro x hx; cases hx), by decide, by decide, by decide, by decide, by decide, by decide, by decide, by decide, by decide, by decide⟩
abbrev zCoA : Array Value := #[.int .i64 0, .slice none 0 0, .slice none 0 0, .slice none 0 0, .slice none 0 0, .int .i64 0, .slice none 0 0]
def RetK (w : World) (D : Con) (E : Int) (e : Ending) (w' : World) : Prop := (∃ m, e = .returned (.tuple #[.agg (coA D m), .int .i64 E]) ∧ Cont w' D m) ∧ Below w.heap.size w w'
theorem RetK.zero {w w' : World} {E : Int} (h : Below w.heap.size w w') : RetK w zCon E (.returned (.tuple #[.agg zCoA, .int .i64 E])) w' := ⟨⟨zCm, rfl, zCont _⟩, h⟩
def Con.partD (c : Con) (ks : List Int) : Con := if c.partOk ks then c.partC ks else zCon
def Con.partE (c : Con) (ks : List Int) : Int := if c.partOk ks then 0 else 1
structure Pl (w W : World) (N ba bz bp : Nat) (c : Con) (m q : Cm) : Prop where
 ga : Blk W ba 27 (coA c m)
 gz : Blk W bz 27 zCoA
 gp : Blk W bp 27 (coA (c.wc (q.ks.map (·.k))) q)
 oh : Own W N 3 1 eI (.slice q.h c.hold.length q.hc) c.hold
 ou : Own W N 78 5 eU (.slice q.u c.un.length q.uc) c.un
 oa : Own W N 118 7 eA (.slice q.a c.ac.length q.ac) c.ac
 oo : Own W N 3 1 eI (.slice q.o c.off.length q.oc) c.off
 ok : Own W N 52 16 eK (.slice q.k q.ks.length q.kc) q.ks
 b : Below w.heap.size w W
 l : w.heap.size ≤ N ∧ N ≤ W.heap.size ∧ ba < N ∧ bz < N ∧ bp < N ∧ w.heap.size ≤ ba ∧ w.heap.size ≤ bz ∧ w.heap.size ≤ bp
section
variable {w W W' : World} {N ba bz bp : Nat} {c : Con} {m q : Cm}
theorem Pl.then_ (h : Pl w W N ba bz bp c m q) (hb : Below W.heap.size W W') : Pl w W' N ba bz bp c m q :=
 ⟨h.ga.then_ hb, h.gz.then_ hb, h.gp.then_ hb, h.oh.below hb, h.ou.below hb, h.oa.below hb, h.oo.below hb, h.ok.below hb, xAa h.b hb, by have := h.l; have := hb.size; omega⟩
theorem Pl.put (h : Pl w W N ba bz bp c m q) {g : Nat} {x : Km} {n : Nat} (hq : q.k = some ⟨g, 0, none⟩) (hN : N ≤ g) (hO : Own W' N 52 16 eK (.slice (some ⟨g, 0, none⟩) q.ks.length q.kc) (q.ks.set n x)) (U : Upd W W' g) : Pl w W' N ba bz bp c m { q with ks := q.ks.set n x } := by
 have l := h.l
 have hk := h.ok
 rw [hq] at hk
 obtain ⟨cs, hg⟩ := hk.tyB
 refine ⟨h.ga.upd U (by omega), h.gz.upd U (by omega), ?_, h.oh.updT U hg (by decide), h.ou.updT U hg (by decide), h.oa.updT U hg (by decide), h.oo.updT U hg (by decide), ?_, h.b.trans (U.b _ (by omega)), by rw [U.s]; exact l⟩
 ·have := h.gp.upd U (by omega)
  simpa [coA, Con.wc, List.length_set] using this
 ·simpa [hq, List.length_set] using hO
end
theorem Own.lowerP {α : Type} {w : World} {B B' : Nat} {T : TypeId} {size : Nat} {enc : α → List Value} {v : Value} {xs : List α} (h : Own w B T size enc v xs) (hB : B' ≤ B) : Own w B' T size enc v xs := by
 refine ⟨h.1, ?_⟩
 rcases h.2 with h2 | ⟨g, cap, cur, hv, hg, r⟩
 ·exact .inl h2
 ·exact .inr ⟨g, cap, cur, hv, Nat.le_trans hB hg, r⟩
def rnC (ks : List Int) (s : Int × Int) : Int × Int := (((ks.idxOf s.1 : Nat) : Int), s.2)
theorem own_slP {α : Type} {w : World} {B : Nat} {T : TypeId} {size : Nat} {enc : α → List Value} {v : Value} {xs : List α} (h : Own w B T size enc v xs) (hn : 0 < xs.length) : ∃ g cap, v = .slice (some ⟨g, 0, none⟩) xs.length cap := by
 rcases h.2 with ⟨_, h0⟩ | ⟨g, cap, cur, hv, _⟩
 ·omega
 ·exact ⟨g, cap, hv⟩
theorem geO {α : Type} {w : World} {B g n cap : Nat} {T : TypeId} {size : Nat} {enc : α → List Value} {xs : List α} (h : Own w B T size enc (.slice (some ⟨g, 0, none⟩) n cap) xs) : B ≤ g := by
 rcases h.2 with ⟨e, _⟩ | ⟨g', cap', cur, e, hg, _⟩
 ·cases e
 ·cases e; exact hg
theorem one_kla3 (y : Km) : ∀ u ∈ eK y, u.oneCell' = true := by
 intro u hu
 simp [eK] at hu
 rcases hu with rfl | rfl | rfl | rfl | rfl | rfl | rfl | rfl | rfl | rfl | rfl | rfl | rfl | rfl | rfl | rfl <;> rfl
end Go.Proofs.YtginnonjdbpamaaGreatDoor
