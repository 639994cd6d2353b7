/- What the two listed variables give the walks: the table of the days before a month, the ratio 0. -/
import Derived.Test.YtcfjehohemdanaaDoorOpT
namespace Go.Proofs.YtcfjehohemdanaaDoor
open Go.ChangeShapes Go.WideShapes Go.ChangeAt Go.RowKit Go.Deep

abbrev laidB : List (String × DataW Unit) := [("estoppel/date.before", Rows.laid_estoppel_date_before), ("estoppel/typing.noRatio", Rows.laid_estoppel_typing_noRatio)]
theorem czR : Tryd.prog.cellsOf 47 = 2 := by kernel_rfl
theorem of_laid {W : World} (h : laidMetH Tryd.prog laidB W) : Tb W ∧ Nr W := by
  rw [MakeChecks.laidMetH_plain _ _ _ (by kernel_rfl)] at h
  obtain ⟨ps, ⟨g, t, cs, fuel, p, q, hg, ht, hv, hd, ⟨g2, t2, cs2, fuel2, p2, q2, hg2, ht2, hv2, hd2, _, _⟩, _⟩, _, _⟩ := h
  constructor
  · obtain rfl := Option.some.inj ((show Tryd.prog.globalNamed "estoppel/date.before" = some 1 by kernel_rfl).symm.trans hg)
    obtain rfl := Option.some.inj ((show (Tryd.prog.globals[1]?).map (·.type) = some 97 by kernel_rfl).symm.trans ht)
    obtain ⟨xs, m, _, ex, _, hl, hel⟩ := DataW.trod_array Tryd.underlying97 hd
    simp only [Prod.mk.injEq] at ex
    have e0 : Rows.laid_estoppel_date_before = DataW.agg (xs.map (·.1)) := ex.1
    simp only [Rows.laid_estoppel_date_before, DataW.agg.injEq] at e0
    intro i hi
    have hE := hel i hi
    rw [cz1, Nat.mul_one, List.getElem?_eq_getElem (by omega)] at hE
    obtain ⟨z, e1, e2, _⟩ := DataW.trod_int Tryd.underlying3 hE
    have hx : (xs.map (·.1))[i]? = some (.lit (.int .i64 z)) := by rw [List.getElem?_map, List.getElem?_eq_getElem (by omega), e2]; rfl
    have hz : z = bef ((i : Int) + 1) := by
      rw [← e0] at hx
      rcases (show i = 0 ∨ i = 1 ∨ i = 2 ∨ i = 3 ∨ i = 4 ∨ i = 5 ∨ i = 6 ∨ i = 7 ∨ i = 8 ∨ i = 9 ∨ i = 10 ∨ i = 11 ∨ i = 12 by omega) with rfl | rfl | rfl | rfl | rfl | rfl | rfl | rfl | rfl | rfl | rfl | rfl | rfl <;> (simp at hx; rw [← hx]; decide)
    have hc := World.var?_cell hg hv i
    rw [hc, ← hz]
    have h1 : (cs.toList.drop i)[0]? = some (.int .i64 z) := by
      have := congrArg (·[0]?) e1
      simpa using this
    simpa using h1
  · obtain rfl := Option.some.inj ((show Tryd.prog.globalNamed "estoppel/typing.noRatio" = some 0 by kernel_rfl).symm.trans hg2)
    obtain rfl := Option.some.inj ((show (Tryd.prog.globals[0]?).map (·.type) = some 47 by kernel_rfl).symm.trans ht2)
    obtain ⟨xs, m, _, ex, hl, hxl, hf⟩ := DataW.trod_struct Tryd.underlying47 hd2
    simp only [Prod.mk.injEq] at ex
    have e0 : Rows.laid_estoppel_typing_noRatio = DataW.agg (xs.map (·.1)) := ex.1
    simp only [Rows.laid_estoppel_typing_noRatio, DataW.agg.injEq] at e0
    have h0 : DataW.trod _ Tryd.prog W 0 _ _ m 3 ((cs2.toList.drop 0).take (Tryd.prog.cellsOf 3)) = xs[0]? := hf 0 _ rfl
    have h1 : DataW.trod _ Tryd.prog W 0 _ _ m 3 ((cs2.toList.drop 1).take (Tryd.prog.cellsOf 3)) = xs[1]? := hf 1 _ rfl
    rw [cz1] at h0 h1
    have hxl' : xs.length = 2 := hxl
    match xs, hxl', e0 with
    | [x0, x1], _, e0 =>
      simp only [List.map_cons, List.map_nil, List.cons.injEq, and_true] at e0
      obtain ⟨z0, a0, b0, _⟩ := DataW.trod_int Tryd.underlying3 h0
      obtain ⟨z1, a1, b1, _⟩ := DataW.trod_int Tryd.underlying3 h1
      have k0 : z0 = 0 := by
        have := e0.1
        rw [b0] at this
        simpa using this.symm
      have k1 : z1 = 1 := by
        have := e0.2
        rw [b1] at this
        simpa using this.symm
      subst k0 k1
      refine ⟨?_, ?_⟩
      · rw [World.var?_cell hg2 hv2 0]
        have h2 := congrArg (·[0]?) a0
        simpa using h2
      · rw [World.var?_cell hg2 hv2 1]
        have h2 := congrArg (·[0]?) a1
        simpa using h2
end Go.Proofs.YtcfjehohemdanaaDoor
