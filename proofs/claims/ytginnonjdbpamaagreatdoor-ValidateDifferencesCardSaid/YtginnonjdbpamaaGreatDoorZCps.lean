/- One walked step for 'append([]T{}, l...)', whatever the source's address. -/
import Derived.Test.YtginnonjdbpamaaGreatDoorZApn
import Derived.Test.YtginnonjdbpamaaGreatDoorMb1
namespace Go.Proofs.YtginnonjdbpamaaGreatDoor
open Go.RowKit
theorem wpList_copyS {P : Program} {α : Type} {w : World} {ops : Array Oper} {rest : List Oper} {o : Oper} {a : Act} {Q : Exit → Act → World → Prop} (hgd : o.guard = none) (s x : Operand) (t : TypeId)
  (ho : o.op = .call { callee := .builtin .append, args := #[s, x], argTypes := #[t, t] })
  (B : Nat) (e : TypeId) (i : TypeInfo) (z : Value) (size bytes : Nat) (ht : P.underlying t = some (.slice e)) (hi : P.info? e = some i) (hz : i.zero = some z)
  (hsize : i.size = size) (hby : i.bytes = bytes) (hzs : z.cells.size = size) (hsz : 0 < size) (hb1 : bytes ≤ 100000)
  (enc : α → List Value) (he : ∀ y, (enc y).length = size) (h1 : ∀ y, ∀ u ∈ enc y, u.oneCell' = true)
  (g : Nat) (hs : a.eval s = .slice (some ⟨g, 0, none⟩) 0 0) (hg : Blk w g e #[]) (hB : B ≤ g)
  (A : Option Addr) (l : List α) (c n : Nat) (hx : a.eval x = .slice A n c) (hn : n = l.length) (hl : l.length ≤ 1000000) (C : Nat) (hsrc : Seg w C size enc A l)
  (h : ∀ v' w', Own w' B e size enc v' l → Below B w w' → wpList P ops Q rest (a.put o.dst v') w') : wpList P ops Q (o :: rest) a w := by
 have hO : Own w B e size enc (.slice (some ⟨g, 0, none⟩) 0 0) [] := ⟨by simp, .inr ⟨g, 0, #[], rfl, hB, hg, Nat.le_refl _, by simp, by simp, by simp⟩⟩
 have hBw : B ≤ w.heap.size := Nat.le_trans hB (Nat.le_of_lt hg.lt)
 exact wpList_app_seg w hgd s x t ho B e i z size bytes ht hi hz hsize hby hzs hsz hb1 enc he h1 _ [] hs hO A l c n hx hn (by simpa using hl) C hsrc hBw fun v' w' h2 h3 _ => h v' w' (by simpa using h2) h3
end Go.Proofs.YtginnonjdbpamaaGreatDoor
