/- One walked step for 'x := l[i]' at a struct: the load, the new variable, the store. No cell is opened. -/
import Derived.Test.YtbkekabhdpoddaaDoorMem
import Derived.Deep.MidRow
namespace Go.Proofs.YtbkekabhdpoddaaDoor
open Go.RowKit

/-- a struct type of n cells, for a load and a new variable -/
structure ElT (P : Program) (ty : TypeId) (n : Nat) : Prop where
  u : ∃ fs, P.underlying ty = some (.struct fs)
  i : (P.info? ty).map (·.size) = some n
  z : ∃ v : Value, v.cells.size = n ∧ ∀ w : World, (zeroValue ty).run P w = .ok v w
theorem setCells_new (w : World) (t : TypeId) : ∀ (vs pre rest : List Value), rest.length = vs.length → (w.alloc (.cells (pre ++ rest).toArray t)).setCells w.heap.size pre.length vs = w.alloc (.cells (pre ++ vs).toArray t)
  | [], pre, rest, h => by
    obtain rfl : rest = [] := List.eq_nil_of_length_eq_zero h
    rfl
  | v :: vs, pre, rest, h => by
    cases rest with
    | nil => simp at h
    | cons r rest =>
      have h2 := setCells_new w t vs (pre ++ [v]) rest (by simpa using h)
      simp only [World.setCells]
      rw [World.setCell_alloc_at _ _ _ _ _ rfl]
      simp only [List.length_append, List.length_cons, List.length_nil, Nat.zero_add, List.append_assoc, List.cons_append, List.nil_append] at h2
      rw [show ((pre ++ r :: rest).toArray.setIfInBounds pre.length v) = (pre ++ v :: rest).toArray by simp [List.set_append]]
      exact h2
theorem setCells_new0 (w : World) (t : TypeId) (c : Array Value) (vs : List Value) (h : c.size = vs.length) : (w.alloc (.cells c t)).setCells w.heap.size 0 vs = w.alloc (.cells vs.toArray t) := by
  have := setCells_new w t vs [] c.toList (by simpa using h)
  simpa using this
/-- x := l[i] at a struct: load, alloc, store -/
theorem wpList_elem {P : Program} {ops : Array Oper} {rest : List Oper} {o1 o2 o3 : Oper} {a : Act} {w : World} {Q : Exit → Act → World → Prop} {n : Nat} (ty : TypeId) (E : ElT P ty n) (x : Operand) (d1 d2 : Tmp)
    (g1 : o1.guard = none) (g2 : o2.guard = none) (g3 : o3.guard = none)
    (ho1 : o1.op = .load ty x) (hd1 : o1.dst = some d1) (ho2 : o2.op = .alloc ty) (hd2 : o2.dst = some d2) (ho3 : o3.op = .store ty (.tmp d2) (.tmp d1)) (hd3 : o3.dst = none)
    (b o : Nat) (hx : a.eval x = .pointer (some ⟨b, o, none⟩)) (cs : List Value) (hn : cs.length = n) (hc : w.rangeAt b o cs) (h1 : ∀ v ∈ cs, v.oneCell' = true) (hne : d1 ≠ d2) (s1 : d1 < a.tmps.size) (s2 : d2 < a.tmps.size)
    (h : wpList P ops Q rest ((a.put (some d1) (.agg cs.toArray)).put (some d2) (.pointer (some ⟨w.heap.size, 0, none⟩))) (w.alloc (.cells cs.toArray ty))) : wpList P ops Q (o1 :: o2 :: o3 :: rest) a w := by
  subst hn
  obtain ⟨⟨fs, hu⟩, hi, v, hz, hzr⟩ := E
  refine wpList_load_mid g1 ty x ho1 b o hx cs _ hc hu rfl hi ?_
  rw [hd1]
  refine wpList_plain g2 fun K hK => ?_
  have hrun : (execOp (Act.eval (a.put (some d1) (.agg cs.toArray))) o2).run P w = .ok (.value (.pointer (some ⟨w.heap.size, 0, none⟩))) (w.alloc (.cells v.cells ty)) := by
    unfold execOp
    simp only [ho2, Instr.alloc, Sem.run_bind, hzr, Result.andThen_ok, newVar, newRow]
    rfl
  unfold Oper.wp
  rw [hrun, Oper.upon_value]
  refine hK _ _ ?_
  rw [hd2]
  refine wpList_store_mid g3 ty _ _ ho3 w.heap.size 0 cs.toArray ?_ ?_ ?_ (by simpa using hi) (all_oneCell_toArray h1) ?_
  · simp [Act.eval, Act.put, s2]
  · simp [Act.eval, Act.put, Array.getD_eq_getD_getElem?, Array.getElem?_setIfInBounds, hne.symm, s1]
  · intro j hj
    simp only [Nat.zero_add, List.size_toArray] at hj ⊢
    rw [World.cell?_alloc_at _ _ _ _ rfl, World.frozen?_alloc_at _ _ _ _ rfl]
    simp [hz, hj]
  · rw [hd3]
    simp only [List.toList_toArray]
    rw [setCells_new0 w ty _ cs hz]
    exact h
section
variable {P : Program} {ops : Array Oper} {Q : Exit → Act → World → Prop} {a : Act} {w : World} {rest : List Oper} {o : Oper}
/-- an operation whose guard lets it run -/
theorem wpList_wanted (hw : Region.wanted o (yielded ops a.tmps) = true)
    (h : ∀ K : Act → World → Prop, (∀ a w, wpList P ops Q rest a w → K a w) → o.wp P a w K Q) : wpList P ops Q (o :: rest) a w :=
  wpList_step fun K hK => by simp only [hw, if_true]; exact h K hK
/-- a guarded load of a whole block -/
theorem wpList_row_w (hw : Region.wanted o (yielded ops a.tmps) = true) (ty : TypeId) (x : Operand) (ho : o.op = .load ty x) (g : Nat) (hx : a.eval x = .pointer (some ⟨g, 0, none⟩)) (t : TypeId) (cs : Array Value) (hg : Blk w g t cs)
    (hu : ∃ fs, P.underlying ty = some (.struct fs)) (hi : (P.info? ty).map (·.size) = some cs.size)
    (h : wpList P ops Q rest (a.put o.dst (.agg cs)) w) : wpList P ops Q (o :: rest) a w := by
  obtain ⟨fs, hu⟩ := hu
  exact wpList_wanted hw fun K hK => wp_load_row ty x ho g hx t cs (0, 0) _ hg hu rfl hi (hK _ _ h)
end
end Go.Proofs.YtbkekabhdpoddaaDoor
