/- What the law MergeSequences needs besides its walk. -/
import Derived.Test.YtcplneglfbdooaaMb30
import Derived.Test.YtcplneglfbdooaaZApl
namespace Go.Proofs.Ytcplneglfbdooaa
open Go.RowKit

theorem off_before {c C : Con} {m m2 : Cm} {w0 X : World} {la : Nat} (hof : ∀ P : Nat → Prop, Off P c m → (∀ b, X.heap.size ≤ b → P b) → Off P C m2) (hc : Cont w0 c m) (h0 : w0.heap.size ≤ la) (h1 : la < X.heap.size) : Off (· ≠ la) C m2 :=
  hof _ (hc.off.mono fun b hb => by omega) (fun b hb => by omega)
theorem al_nil (c : Con) : c.al [] = (0, c) := rfl
theorem all_nil {c : Con} {l : List Pat} (h : c.allE l = 0) : c.allE [] = 0 ∧ c.allC [] = c := by
  have h1 := (allE_ok h).1
  have h2 : c.allE [] = 0 := by unfold Con.allE; rw [if_pos h1]; rfl
  exact ⟨h2, by unfold Con.allC; rw [if_pos h2]; rfl⟩
theorem all_off_to (c C : Con) (m : Cm) (L : List Pk) (A : Option Addr) (cap n : Nat) (E : Int) (w : World) (h : Cont w c m) (hL : Pats w A L) (hn : L.length = n) (hE : c.allE (pats L) = E) (hC : c.allC (pats L) = C) :
    Calls Try.prog 11 #[.agg (coA c m), .slice A n cap] w fun e w' => (∃ m', e = .returned (.tuple #[.agg (coA C m'), .int .i64 E]) ∧ Cont w' C m' ∧ ∀ P : Nat → Prop, Off P c m → (∀ b, w.heap.size ≤ b → P b) → Off P C m') ∧ Below w.heap.size w w' := by
  subst hE
  subst hC
  subst hn
  exact all_off c m L A cap w h hL
theorem pats_app {w w' : World} {A1 A2 A3 : Option Addr} {L1 L2 : List Pk} (h1 : Pats w A1 L1) (h2 : Pats w A2 L2) (hb : Below w.heap.size w w') (hl : L1.length + L2.length ≤ 1000000) (hs : Seg w' w'.heap.size 19 eP A3 (L1 ++ L2)) : Pats w' A3 (L1 ++ L2) :=
  ⟨hs, fun x hx => by
    rcases List.mem_append.1 hx with hx | hx
    · exact (h1.t x hx).then_ hb
    · exact (h2.t x hx).then_ hb, by rw [List.length_append]; exact hl⟩
end Go.Proofs.Ytcplneglfbdooaa
