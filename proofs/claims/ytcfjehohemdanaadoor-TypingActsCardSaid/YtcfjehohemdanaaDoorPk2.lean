/- 'for i, x := range l' at a struct: the load, the new variable, an assignment, the store. -/
import Derived.Test.YtcfjehohemdanaaDoorPk
namespace Go.Proofs.YtcfjehohemdanaaDoor
open Go.RowKit

/-- the same with an assignment between the new variable and the store -/
theorem wpList_elem4 {P : Program} {ops : Array Oper} {rest : List Oper} {o1 o2 oa o3 : Oper} {a : Act} {w : World} {Q : Exit → Act → World → Prop} {n : Nat} (ty : TypeId) (E : ElT P ty n) (x y : Operand) (d1 d2 d3 : Tmp)
    (g1 : o1.guard = none) (g2 : o2.guard = none) (ga : oa.guard = none) (g3 : o3.guard = none)
    (ho1 : o1.op = .load ty x) (hd1 : o1.dst = some d1) (ho2 : o2.op = .alloc ty) (hd2 : o2.dst = some d2) (hoa : oa.op = .assign y) (hda : oa.dst = some d3) (ho3 : o3.op = .store ty (.tmp d2) (.tmp d1)) (hd3 : o3.dst = none)
    (b o : Nat) (hx : a.eval x = .pointer (some ⟨b, o, none⟩)) (cs : List Value) (hn : cs.length = n) (hc : w.rangeAt b o cs) (h1 : ∀ v ∈ cs, v.oneCell' = true) (hne : d1 ≠ d2) (hne1 : d3 ≠ d1) (hne2 : d3 ≠ d2) (s1 : d1 < a.tmps.size) (s2 : d2 < a.tmps.size)
    (u : Value) (hyu : ((a.put (some d1) (.agg cs.toArray)).put (some d2) (.pointer (some ⟨w.heap.size, 0, none⟩))).eval y = u)
    (h : wpList P ops Q rest (((a.put (some d1) (.agg cs.toArray)).put (some d2) (.pointer (some ⟨w.heap.size, 0, none⟩))).put (some d3) u) (w.alloc (.cells cs.toArray ty))) : wpList P ops Q (o1 :: o2 :: oa :: o3 :: rest) a w := by
  subst hn hyu
  obtain ⟨⟨fs, hu⟩, hi, v, hz, hzr⟩ := E
  refine wpList_load_mid g1 ty x ho1 b o hx cs _ hc hu rfl hi ?_
  rw [hd1]
  refine wpList_plain g2 fun K hK => ?_
  have hrun : (execOp (Act.eval (a.put (some d1) (.agg cs.toArray))) o2).run P w = .ok (.value (.pointer (some ⟨w.heap.size, 0, none⟩))) (w.alloc (.cells v.cells ty)) := by
    unfold execOp
    simp only [ho2, Instr.alloc, Sem.run_bind, hzr, Result.andThen_ok, newVar, newRow]
    rfl
  unfold Oper.wp
  rw [hrun, Oper.upon_value]
  refine hK _ _ ?_
  rw [hd2]
  refine wpList_plain ga fun K hK => ?_
  unfold Oper.wp execOp
  simp only [hoa]
  refine hK _ _ ?_
  rw [hda]
  refine wpList_store_mid g3 ty _ _ ho3 w.heap.size 0 cs.toArray ?_ ?_ ?_ (by simpa using hi) (all_oneCell_toArray h1) ?_
  · simp [Act.eval, Act.put, Array.getElem?_setIfInBounds, hne2, s2]
  · simp [Act.eval, Act.put, Array.getElem?_setIfInBounds, hne.symm, hne1, s1]
  · intro j hj
    simp only [Nat.zero_add, List.size_toArray] at hj ⊢
    rw [World.cell?_alloc_at _ _ _ _ rfl, World.frozen?_alloc_at _ _ _ _ rfl]
    simp [hz, hj]
  · rw [hd3]
    simp only [List.toList_toArray]
    rw [setCells_new0 w ty _ cs hz]
    exact h
end Go.Proofs.YtcfjehohemdanaaDoor
