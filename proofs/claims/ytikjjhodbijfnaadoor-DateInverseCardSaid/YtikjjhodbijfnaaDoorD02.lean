/- The walks of package date, second part: dates, numbers, months. -/
import Derived.Test.YtikjjhodbijfnaaDoorD01
namespace Go.Proofs.YtikjjhodbijfnaaDoor
open Go.RowKit Go.Sort

theorem blk_three {w : World} {g : Nat} {t : TypeId} {x y z : Value} (h : Blk w g t #[x, y, z]) : w.cell? ⟨g, 0, none⟩ = some x ∧ w.cell? ⟨g, 1, none⟩ = some y ∧ w.cell? ⟨g, 2, none⟩ = some z ∧ w.frozen? ⟨g, 0, none⟩ = false ∧ w.frozen? ⟨g, 1, none⟩ = false ∧ w.frozen? ⟨g, 2, none⟩ = false := ⟨h.cell 0, h.cell 1, h.cell 2, h.frozen 0, h.frozen 1, h.frozen 2⟩
theorem ret_civ1 {fn : Func} {a : Act} {w : World} {r g : Nat} {x y z : Value} (hres : fn.results = #[.cell r 23]) (hp : a.tmps.getD r undef = .pointer (some ⟨g, 0, none⟩)) (hk : Blk w g 23 #[x, y, z]) :
    (results fn a.tmps).run Tryd.prog w = .ok (.agg #[x, y, z]) w := by
  obtain ⟨e0, e1, e2, _⟩ := blk_three hk
  rw [Array.getD_eq_getD_getElem?] at hp
  simp [results, hres, hp, go_sem, e0, e1, e2]
theorem ret_civ {fn : Func} {a : Act} {w : World} {r t g : Nat} {x y z : Value} (hres : fn.results = #[.cell r 23, .tmp t]) (hp : a.tmps.getD r undef = .pointer (some ⟨g, 0, none⟩)) (hk : Blk w g 23 #[x, y, z]) :
    (results fn a.tmps).run Tryd.prog w = .ok (.tuple #[.agg #[x, y, z], a.tmps.getD t undef]) w := by
  obtain ⟨e0, e1, e2, _⟩ := blk_three hk
  rw [Array.getD_eq_getD_getElem?] at hp
  simp [results, hres, hp, go_sem, e0, e1, e2]
theorem year_is {y y' n : Int} (h1 : ny y ≤ n) (h2 : n < ny (y + 1)) (h3 : ny y' ≤ n) (h4 : n < ny (y' + 1)) : y' = y := by
  rcases Int.lt_trichotomy y y' with hl | hl | hl
  · have := ny_mono (y + 1) y' (by omega); omega
  · exact hl.symm
  · have := ny_mono (y' + 1) y (by omega); omega
theorem month_is {y m m' r d : Int} (m1 : 1 ≤ m) (m2 : m ≤ 12) (k1 : 1 ≤ m') (k2 : m' ≤ 12) (hr : r = dbm y m + d - 1) (d1 : 1 ≤ d) (d2 : d ≤ len y m) (h3 : dbm y m' ≤ r) (h4 : r < dbm y (m' + 1)) : m' = m := by
  unfold len at d2
  rcases Int.lt_trichotomy m m' with hl | hl | hl
  · have : dbm y (m + 1) ≤ dbm y m' := by
      by_cases e1 : m + 1 = m'
      · rw [e1]; exact Int.le_refl _
      · have := dbm_mono y (m + 1) m' (by omega) (by omega) (by omega); omega
    omega
  · exact hl.symm
  · have : dbm y (m' + 1) ≤ dbm y m := by
      by_cases e1 : m' + 1 = m
      · rw [e1]; exact Int.le_refl _
      · have := dbm_mono y (m' + 1) m (by omega) (by omega) (by omega); omega
    omega
set_option maxHeartbeats 1600000 in
theorem civil_any (y m d : Int) (w : World) (h : okC y m d = true) (ht : Tb w) :
    Calls Tryd.prog 24 #[.int .i64 (num y m d)] w fun e w' => e = .returned (.agg #[.int .i64 y, .int .i64 m, .int .i64 d]) ∧ Below w.heap.size w w' := by
  obtain ⟨h1, h2, h3, h4, h5, h6⟩ := okC_of h
  have a := num_year h
  have b := num_bd h
  have hr : num y m d - ny y = dbm y m + d - 1 := by unfold num; omega
  have HT := Lib.hid ht
  have a3 := ny_succ y
  have a4 := dbm_13 y
  have HR := Lib.hid hr
  clear h ht hr
  generalize num y m d = n at *
  have g0 := ny_upper 1990 (1990 + n / 366) (by omega)
  rw [ny_1990] at g0
  have G0 := Lib.hid (show ny (1990 + n / 366) ≤ n by omega)
  clear g0
  have HA := Lib.hid (show n - ny y < dbm y 13 by omega)
  have HA2 := Lib.hid a
  clear a a3 a4
  go_enter Tryd.func24, Tryd.ntmps24
  go_wp2
  go_loop [3] (fun t => ∃ z : Int, 1990 ≤ z ∧ z ≤ 2189 ∧ Hid (ny z ≤ n) ∧ t = .int .i64 z) (fun t => (3000 - intOf t).toNat)
  case atStart => exact ⟨_, by omega, by omega, G0, rfl⟩
  case round =>
    obtain ⟨z, z1, z2, z3, rfl⟩ := hrel
    clear G0
    by_cases hc : ny (z + 1) ≤ n
    · have hz : z < 2189 := by
        rcases Int.lt_or_le z 2189 with hl | hl
        · exact hl
        · obtain rfl : z = 2189 := by omega
          have e : ny (2189 + 1) = 73049 := ny_2190
          omega
      go_wp2_with (go_at_call 30; refine (ny_any _ _ (by omega) (by omega)).mono ?_; rintro e w1 ⟨rfl, rfl⟩)
      go_round
      case rel => exact ⟨z + 1, by omega, by omega, hc, rfl⟩
      case measure => simp [intOf]; omega
    · obtain rfl := year_is HA2.out.1 HA2.out.2 z3.out (by omega)
      have hb : -1000 ≤ ny z ∧ ny z ≤ 73048 := by have := z3.out; have := ny_mono 1990 z z1; rw [ny_1990] at this; omega
      have hb2 : 0 ≤ n - ny z := by have := z3.out; omega
      clear z3
      go_wp2_with (go_at_call 30; refine (ny_any _ _ (by omega) (by omega)).mono ?_; rintro e w1 ⟨rfl, rfl⟩)
      go_loop [5] (fun t => ∃ k : Int, 1 ≤ k ∧ k ≤ 12 ∧ Hid (dbm z k ≤ n - ny z) ∧ t = .int .i64 k) (fun t => (20 - intOf t).toNat)
      case atStart => exact ⟨1, by omega, by omega, by rw [dbm_1]; exact hb2, rfl⟩
      case round =>
        obtain ⟨k, k1, k2, k3, rfl⟩ := hrel
        have q1 := dbm_bd z k k1 (by omega)
        have q2 := dbm_bd z (k + 1) (by omega) (by omega)
        by_cases hc2 : dbm z (k + 1) ≤ n - ny z
        · have hk : k < 12 := by
            rcases Int.lt_or_le k 12 with hl | hl
            · exact hl
            · obtain rfl : k = 12 := by omega
              have e : dbm z (12 + 1) = dbm z 13 := rfl
              have := HA.out
              omega
          go_wp2_with (go_at_call 29; refine (dbf_any _ _ _ (by omega) (by omega) (by omega) (by omega) (HT.out.below (wa1 _ _))).mono ?_; rintro e w1 ⟨rfl, rfl⟩)
          go_round
          case rel => exact ⟨k + 1, by omega, by omega, hc2, rfl⟩
          case measure => simp [intOf]; omega
        · obtain rfl := month_is h3 h4 k1 k2 HR.out h5 h6 k3.out (by omega)
          clear k3
          go_wp2_with (go_at_call 29; refine (dbf_any _ _ _ (by omega) (by omega) (by omega) (by omega) (HT.out.below (wa1 _ _))).mono ?_; rintro e w1 ⟨rfl, rfl⟩)
          have hd : n - ny z - dbm z k + 1 = d := by have := HR.out; omega
          rw [hd]
          refine bodyPost_ret (ret_civ1 rfl rfl (Blk.new _ _ _)) rfl ⟨rfl, wa1 _ _⟩
end Go.Proofs.YtikjjhodbijfnaaDoor
