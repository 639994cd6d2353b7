/- The walks of package date, second part: dates, numbers, months. -/
import Derived.Test.YtcfjehohemdanaaDoorD01
namespace Go.Proofs.YtcfjehohemdanaaDoor
open Go.RowKit Go.Sort

theorem blk_three {w : World} {g : Nat} {t : TypeId} {x y z : Value} (h : Blk w g t #[x, y, z]) : w.cell? ⟨g, 0, none⟩ = some x ∧ w.cell? ⟨g, 1, none⟩ = some y ∧ w.cell? ⟨g, 2, none⟩ = some z ∧ w.frozen? ⟨g, 0, none⟩ = false ∧ w.frozen? ⟨g, 1, none⟩ = false ∧ w.frozen? ⟨g, 2, none⟩ = false := ⟨h.cell 0, h.cell 1, h.cell 2, h.frozen 0, h.frozen 1, h.frozen 2⟩
theorem ret_civ1 {fn : Func} {a : Act} {w : World} {r g : Nat} {x y z : Value} (hres : fn.results = #[.cell r 23]) (hp : a.tmps.getD r undef = .pointer (some ⟨g, 0, none⟩)) (hk : Blk w g 23 #[x, y, z]) :
    (results fn a.tmps).run Tryd.prog w = .ok (.agg #[x, y, z]) w := by
  obtain ⟨e0, e1, e2, _⟩ := blk_three hk
  rw [Array.getD_eq_getD_getElem?] at hp
  simp [results, hres, hp, go_sem, e0, e1, e2]
theorem ret_civ {fn : Func} {a : Act} {w : World} {r t g : Nat} {x y z : Value} (hres : fn.results = #[.cell r 23, .tmp t]) (hp : a.tmps.getD r undef = .pointer (some ⟨g, 0, none⟩)) (hk : Blk w g 23 #[x, y, z]) :
    (results fn a.tmps).run Tryd.prog w = .ok (.tuple #[.agg #[x, y, z], a.tmps.getD t undef]) w := by
  obtain ⟨e0, e1, e2, _⟩ := blk_three hk
  rw [Array.getD_eq_getD_getElem?] at hp
  simp [results, hres, hp, go_sem, e0, e1, e2]
theorem year_is {y y' n : Int} (h1 : ny y ≤ n) (h2 : n < ny (y + 1)) (h3 : ny y' ≤ n) (h4 : n < ny (y' + 1)) : y' = y := by
  rcases Int.lt_trichotomy y y' with hl | hl | hl
  · have := ny_mono (y + 1) y' (by omega); omega
  · exact hl.symm
  · have := ny_mono (y' + 1) y (by omega); omega
theorem month_is {y m m' r d : Int} (m1 : 1 ≤ m) (m2 : m ≤ 12) (k1 : 1 ≤ m') (k2 : m' ≤ 12) (hr : r = dbm y m + d - 1) (d1 : 1 ≤ d) (d2 : d ≤ len y m) (h3 : dbm y m' ≤ r) (h4 : r < dbm y (m' + 1)) : m' = m := by
  unfold len at d2
  rcases Int.lt_trichotomy m m' with hl | hl | hl
  · have : dbm y (m + 1) ≤ dbm y m' := by
      by_cases e1 : m + 1 = m'
      · rw [e1]; exact Int.le_refl _
      · have := dbm_mono y (m + 1) m' (by omega) (by omega) (by omega); omega
    omega
  · exact hl.symm
  · have : dbm y (m' + 1) ≤ dbm y m := by
      by_cases e1 : m' + 1 = m
      · rw [e1]; exact Int.le_refl _
      · have := dbm_mono y (m' + 1) m (by omega) (by omega) (by omega); omega
    omega
end Go.Proofs.YtcfjehohemdanaaDoor
