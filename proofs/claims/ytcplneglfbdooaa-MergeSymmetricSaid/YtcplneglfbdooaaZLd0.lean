/- What the law's exchanged needs besides its walk. -/
import Derived.Test.YtcplneglfbdooaaMb23
import Derived.Test.YtcplneglfbdooaaZApn
import Derived.Test.YtcplneglfbdooaaMb22
import Derived.Test.YtcplneglfbdooaaMb24
import Derived.Test.YtcplneglfbdooaaMb8
namespace Go.Proofs.Ytcplneglfbdooaa
open Go.RowKit

/-- a contract whose list of clauses lies elsewhere -/
abbrev coK (c : Con) (m : Cm) (A : Option Addr) (n k : Nat) : Array Value := #[.int .i64 c.par, .slice m.h c.hold.length m.hc, .slice m.u c.un.length m.uc, .slice m.a c.ac.length m.ac, .slice A n k, .int .i64 c.days, .slice m.o c.off.length m.oc]
theorem take_snocA {α : Type} {l : List α} {i : Nat} {p : α} (h : l[i]? = some p) : l.take (i + 1) = l.take i ++ [p] := by
  rw [List.take_add_one, h]; rfl
theorem seg_take {α : Type} {w : World} {C size : Nat} {enc : α → List Value} {A : Option Addr} {xs : List α} (h : Seg w C size enc A xs) (n : Nat) : Seg w C size enc A (xs.take n) := fun k x hx => h k x (by
  rw [List.getElem?_take] at hx
  split at hx
  · exact hx
  · cases hx)
/-- the conditions' indices of a clause exchanged -/
def exS (n a b : Nat) (s : Int × Int) : Int × Int := (exI n a b s.1, s.2)
/-- the clauses' order -/
def exO (n a : Nat) {α : Type} (l : List α) : List α := l.take n ++ l.drop (n + a) ++ (l.drop n).take a
theorem exO_len {n a b : Nat} {α : Type} {l : List α} (h : n + a + b = l.length) : (exO n a l).length = l.length := by
  unfold exO
  simp only [List.length_append, List.length_take, List.length_drop]
  omega
theorem exO_map {n a : Nat} {α β : Type} (f : α → β) (l : List α) : (exO n a l).map f = exO n a (l.map f) := by
  unfold exO
  simp only [List.map_append, List.map_take, List.map_drop]
theorem exO_mem {n a : Nat} {α : Type} {l : List α} {x : α} (h : x ∈ exO n a l) : x ∈ l := by
  unfold exO at h
  rcases List.mem_append.1 h with h | h
  · rcases List.mem_append.1 h with h | h
    · exact List.mem_of_mem_take h
    · exact List.mem_of_mem_drop h
  · exact List.mem_of_mem_drop (List.mem_of_mem_take h)
theorem own_blk_neA {α : Type} {w : World} {B : Nat} {T : TypeId} {size : Nat} {enc : α → List Value} {A : Option Addr} {n cap : Nat} {xs : List α} {b : Nat} {t : TypeId} {cs : Array Value} (hO : Own w B T size enc (.slice A n cap) xs) (h : Blk w b t cs) (hT : T ≠ t) : ∀ p : Addr, A = some p → p.block ≠ b := fun p hp e => by
  subst hp
  rcases hO.2 with ⟨e1, _⟩ | ⟨k, cap', cur, hv, _, hh, _⟩
  · cases e1
  · injection hv with hv
    injection hv with hv
    subst hv
    have e2 : k = b := e
    subst e2
    have h2 := h.symm.trans hh
    injection h2 with h2
    injection h2 with _ h3 _
    exact hT h3.symm
theorem own_blk_ne {α : Type} {w : World} {B : Nat} {T : TypeId} {size : Nat} {enc : α → List Value} {n cap : Nat} {xs : List α} {b : Nat} {t : TypeId} {cs : Array Value} (hO : Own w B T size enc (.slice (some ⟨b, 0, none⟩) n cap) xs) (h : Blk w b t cs) (hT : T ≠ t) : False := own_blk_neA hO h hT _ rfl rfl
theorem exchL_eq (n a b : Nat) (l : List Cla) : exchL n a b l = (exO n a l).map fun k => k.mapC (exI n a b) := rfl
theorem mapC_eq (n a b : Nat) (k : Cla) : k.mapC (exI n a b) = { k with start := k.start.map (exS n a b) } := rfl
theorem zero_kla : (Try.prog.info? 47).map (fun i => (i.zero, i.size, i.bytes)) = some (some (.agg #[.int .i64 0, .int .i64 0, .int .i64 0, .int .i64 0, .slice none 0 0, .int .i64 0, .int .i64 0, .bool false, .bool false, .int .i64 0, .int .i64 0, .int .i64 0, .int .i64 0, .int .i64 0, .int .i64 0, .bool false]), 16, 136) := by kernel_rfl
theorem zero_cnd : (Try.prog.info? 77).map (fun i => (i.zero, i.size, i.bytes)) = some (some (.agg #[.int .i64 0, .int .i64 0]), 2, 16) := by kernel_rfl
theorem one_cnd (y : Int × Int) : ∀ u ∈ eS y, u.oneCell' = true := by
  intro u hu
  simp only [eS, List.mem_cons, List.not_mem_nil, or_false] at hu
  rcases hu with rfl | rfl <;> rfl
end Go.Proofs.Ytcplneglfbdooaa
