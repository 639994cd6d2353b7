/- Walked steps for whole structs: a new variable that is set at once, a store into a block known whole, a result that lies in a cell. -/
import Derived.Test.YtcfjehohemdanaaDoorPk
namespace Go.Proofs.YtcfjehohemdanaaDoor
open Go.RowKit

section
variable {P : Program} {ops : Array Oper} {Q : Exit → Act → World → Prop} {a : Act} {w : World} {rest : List Oper}
/-- v := s at a struct: alloc, store -/
theorem wpList_new {o2 o3 : Oper} {n : Nat} (ty : TypeId) (E : ElT P ty n) (y : Operand) (d2 : Tmp) (g2 : o2.guard = none) (g3 : o3.guard = none)
    (ho2 : o2.op = .alloc ty) (hd2 : o2.dst = some d2) (ho3 : o3.op = .store ty (.tmp d2) y) (hd3 : o3.dst = none)
    (cs : List Value) (hn : cs.length = n) (h1 : ∀ v ∈ cs, v.oneCell' = true) (s2 : d2 < a.tmps.size) (hy : (a.put (some d2) (.pointer (some ⟨w.heap.size, 0, none⟩))).eval y = .agg cs.toArray)
    (h : wpList P ops Q rest (a.put (some d2) (.pointer (some ⟨w.heap.size, 0, none⟩))) (w.alloc (.cells cs.toArray ty))) : wpList P ops Q (o2 :: o3 :: rest) a w := by
  subst hn
  obtain ⟨⟨fs, hu⟩, hi, v, hz, hzr⟩ := E
  refine wpList_plain g2 fun K hK => ?_
  have hrun : (execOp (Act.eval a) o2).run P w = .ok (.value (.pointer (some ⟨w.heap.size, 0, none⟩))) (w.alloc (.cells v.cells ty)) := by
    unfold execOp
    simp only [ho2, Instr.alloc, Sem.run_bind, hzr, Result.andThen_ok, newVar, newRow]
    rfl
  unfold Oper.wp
  rw [hrun, Oper.upon_value]
  refine hK _ _ ?_
  rw [hd2]
  refine wpList_store_mid g3 ty _ _ ho3 w.heap.size 0 cs.toArray ?_ hy ?_ (by simpa using hi) (all_oneCell_toArray h1) ?_
  · simp [Act.eval, Act.put, s2]
  · intro j hj
    simp only [Nat.zero_add, List.size_toArray] at hj ⊢
    rw [World.cell?_alloc_at _ _ _ _ rfl, World.frozen?_alloc_at _ _ _ _ rfl]
    simp [hz, hj]
  · rw [hd3]
    simp only [List.toList_toArray]
    rw [setCells_new0 w ty _ cs hz]
    exact h
theorem setCells_blk {g : Nat} {t : TypeId} : ∀ (vs pre old rest : List Value) (w : World), old.length = vs.length → Blk w g t (pre ++ old ++ rest).toArray → Blk (w.setCells g pre.length vs) g t (pre ++ vs ++ rest).toArray
  | [], pre, old, rest, w, h, hb => by
    obtain rfl : old = [] := List.eq_nil_of_length_eq_zero h
    exact hb
  | v :: vs, pre, old, rest, w, h, hb => by
    cases old with
    | nil => simp at h
    | cons r old =>
      simp only [World.setCells]
      have h1 := hb.set_ pre.length v
      have e1 : ((pre ++ r :: old ++ rest).toArray.setIfInBounds pre.length v) = ((pre ++ [v]) ++ old ++ rest).toArray := by simp
      rw [e1] at h1
      have h2 := setCells_blk vs (pre ++ [v]) old rest _ (by simpa using h) h1
      simpa using h2
theorem setCells_below {B : Nat} {w0 : World} {g : Nat} (hg : B ≤ g) : ∀ (vs : List Value) (o : Nat) (w : World), Below B w0 w → Below B w0 (w.setCells g o vs)
  | [], _, _, h => h
  | v :: vs, o, w, h => by
    simp only [World.setCells]
    exact setCells_below hg vs (o + 1) _ (h.setCell (p := ⟨g, o, none⟩) hg v)
theorem setCells_far {g b : Nat} {t : TypeId} {cs : Array Value} (hg : b ≠ g) : ∀ (vs : List Value) (o : Nat) (w : World), Blk w b t cs → Blk (w.setCells g o vs) b t cs
  | [], _, _, h => h
  | v :: vs, o, w, h => by
    simp only [World.setCells]
    exact setCells_far hg vs (o + 1) _ (h.far (p := ⟨g, o, none⟩) hg v)
theorem setCells_size {g : Nat} : ∀ (vs : List Value) (o : Nat) (w : World), (w.setCells g o vs).heap.size = w.heap.size
  | [], _, _ => rfl
  | v :: vs, o, w => by
    simp only [World.setCells]
    rw [setCells_size vs (o + 1)]
    simp
/-- a struct stored into cells i, i + 1, .. of a block known whole -/
theorem wpList_store_blk {o : Oper} (hgd : o.guard = none) (ty : TypeId) (x y : Operand) (ho : o.op = .store ty x y) (hd : o.dst = none) (g : Nat) (t : TypeId) (pre old post cs : List Value) (hx : a.eval x = .pointer (some ⟨g, pre.length, none⟩)) (hy : a.eval y = .agg cs.toArray)
    (hb : Blk w g t (pre ++ old ++ post).toArray) (hlen : old.length = cs.length) (hi : (P.info? ty).map (·.size) = some cs.length) (h1 : ∀ v ∈ cs, v.oneCell' = true)
    (h : wpList P ops Q rest a (w.setCells g pre.length cs)) : wpList P ops Q (o :: rest) a w := by
  refine wpList_store_mid hgd ty x y ho g pre.length cs.toArray hx hy ?_ (by simpa using hi) (all_oneCell_toArray h1) ?_
  · intro j hj
    simp only [List.size_toArray] at hj
    rw [hb.cell, hb.frozen]
    refine ⟨?_, rfl⟩
    simp; omega
  · rw [hd]
    rw [List.toList_toArray]
    exact h
theorem ret_row {fn : Func} {r g : Nat} {t : TypeId} {cs : Array Value} (hres : fn.results = #[.cell r t]) (hp : a.tmps.getD r undef = .pointer (some ⟨g, 0, none⟩)) (hk : Blk w g t cs) (hu : ∃ fs, P.underlying t = some (.struct fs)) (hi : (P.info? t).map (·.size) = some cs.size) :
    (results fn a.tmps).run P w = .ok (.agg cs) w := by
  obtain ⟨fs, hu⟩ := hu
  have h1 := run_loadVar_row w g t t cs (0, 0) _ hk hu rfl hi
  rw [Array.getD_eq_getD_getElem?] at hp
  simp only [go_sem] at h1
  simp [results, hres, hp, go_sem]
  simpa using h1
end
end Go.Proofs.YtcfjehohemdanaaDoor
