/- A whole element of a list of the call's own stored: the world behind as a letter. -/
import Derived.Test.YtginnonjdbpamaaGreatDoorMc9
import Derived.Test.YtginnonjdbpamaaGreatDoorMc10
import Derived.Test.YtginnonjdbpamaaGreatDoorMc1
namespace Go.Proofs.YtginnonjdbpamaaGreatDoor
open Go.RowKit
theorem xIn {P : Program} {α : Type} {w : World} {o : Oper} {a : Act} {K : Act → World → Prop} {Q : Exit → Act → World → Prop} (ty : TypeId) (x y : Operand) (ho : o.op = .store ty x y)
  {B : Nat} {T : TypeId} {size : Nat} {enc : α → List Value} {g n cap : Nat} {xs : List α} (hO : Own w B T size enc (.slice (some ⟨g, 0, none⟩) n cap) xs) (he : ∀ x, (enc x).length = size) (hn : xs.length = n) {k : Nat} {z : α} (hz : xs[k]? = some z) (v : α)
  (hx : a.eval x = .pointer (some ⟨g, k * size, none⟩)) (hy : a.eval y = .agg (enc v).toArray) (hi : (P.info? ty).map (·.size) = some size) (h1 : ∀ u ∈ enc v, u.oneCell' = true)
  (h : ∀ w', Own w' B T size enc (.slice (some ⟨g, 0, none⟩) n cap) (xs.set k v) → Upd w w' g → K (a.put o.dst undef) w') : o.wp P a w K Q := by
 refine wp_store_mid ty x y ho g (k * size) (enc v).toArray hx hy ?_ (by simpa [he] using hi) (all_oneCell_toArray h1) ?_
 ·simpa [he] using hO.there he hn hz (j := 0) (c := size) (by omega)
 ·rw [List.toList_toArray]
  refine h _ ?_ (Upd.setCells (enc v) (k * size) w (Upd.refl w g))
  have := hO.setPart he hn hz (j := 0) (y := v) (vs := enc v) (by rw [he]; omega) (by
   have e : ∀ (vs l : List Value), l.length = vs.length → setL l 0 vs = vs := by
    intro vs l hl
    have key : ∀ (vs pre l : List Value), l.length = vs.length → setL (pre ++ l) pre.length vs = pre ++ vs := by
     intro vs
     induction vs with
     | nil => intro pre l hl; obtain rfl := List.eq_nil_of_length_eq_zero hl; rfl
     | cons u vs ih =>
      intro pre l hl
      cases l with
      | nil => simp at hl
      | cons r l =>
       simp only [setL]
       have := ih (pre ++ [u]) l (by simpa using hl)
       simp only [List.length_append, List.length_cons, List.length_nil, List.append_assoc, qzE, qzF] at this
       rw [← this]; congr 1
       simp
    simpa using key vs [] l hl
   rw [e _ _ (by rw [he, he])])
  simpa using this
theorem xE5 {P : Program} {α : Type} {w : World} {ops : Array Oper} {rest : List Oper} {Q : Exit → Act → World → Prop} {o : Oper} {a : Act} (hgd : o.guard = none) (ty : TypeId) (x y : Operand) (ho : o.op = .store ty x y)
  {B : Nat} {T : TypeId} {size : Nat} {enc : α → List Value} {g n cap : Nat} {xs : List α} (hO : Own w B T size enc (.slice (some ⟨g, 0, none⟩) n cap) xs) (he : ∀ x, (enc x).length = size) (hn : xs.length = n) {k : Nat} {z : α} (hz : xs[k]? = some z) (v : α)
  (hx : a.eval x = .pointer (some ⟨g, k * size, none⟩)) (hy : a.eval y = .agg (enc v).toArray) (hi : (P.info? ty).map (·.size) = some size) (h1 : ∀ u ∈ enc v, u.oneCell' = true)
  (h : ∀ w', Own w' B T size enc (.slice (some ⟨g, 0, none⟩) n cap) (xs.set k v) → Upd w w' g → wpList P ops Q rest (a.put o.dst undef) w') : wpList P ops Q (o :: rest) a w :=
 wpList_plain hgd fun _K hK => xIn ty x y ho hO he hn hz v hx hy hi h1 fun w' h2 h3 => hK _ _ (h w' h2 h3)
end Go.Proofs.YtginnonjdbpamaaGreatDoor
