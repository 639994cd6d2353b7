/- The contracts of the functions of package ratio and of its reference: magnitudes, divisors, validity, making, adding, subtracting, dividing, comparing. -/
import Derived.Test.YtbkekabhdpoddaaDoorProg
import Derived.Test.YtbkekabhdpoddaaDoorMath
import Derived.Test.YtbkekabhdpoddaaDoorMem
import Derived.WalkKit
import Derived.IntWalk
import Derived.BigQuiet
import Derived.Deep.QuietTactic
import Derived.Deep.RegionHeld3
import Derived.RegionTactic
import Derived.Outline
import Derived.Lib.Hide
namespace Go.Proofs.YtbkekabhdpoddaaDoor
open Go.RowKit

/-- what a function hands back whose first result, a ratio, lies in a block of its own -/
theorem ret_rat {fn : Func} {a : Act} {w : World} {r t g : Nat} {x y : Value} (hres : fn.results = #[.cell r 25, .tmp t]) (hp : a.tmps.getD r undef = .pointer (some ⟨g, 0, none⟩)) (hk : Blk w g 25 #[x, y]) :
    (results fn a.tmps).run Tryd.prog w = .ok (.tuple #[.agg #[x, y], a.tmps.getD t undef]) w := by
  obtain ⟨e0, e1, _, _⟩ := hk.two
  rw [Array.getD_eq_getD_getElem?] at hp
  simp [results, hres, hp, go_sem, e0, e1]
theorem ret_rat1 {fn : Func} {a : Act} {w : World} {r g : Nat} {x y : Value} (hres : fn.results = #[.cell r 25]) (hp : a.tmps.getD r undef = .pointer (some ⟨g, 0, none⟩)) (hk : Blk w g 25 #[x, y]) :
    (results fn a.tmps).run Tryd.prog w = .ok (.agg #[x, y]) w := by
  obtain ⟨e0, e1, _, _⟩ := hk.two
  rw [Array.getD_eq_getD_getElem?] at hp
  simp [results, hres, hp, go_sem, e0, e1]

theorem wrap_sz (n : Int) (h : n < 0) (h1 : -9223372036854775808 ≤ n) : IntKind.u64.wrap (-IntKind.u64.wrap n) = -n := by
  simp only [IntKind.wrap, IntKind.bits, IntKind.signed]
  simp
  omega

theorem mag_any (n : Int) (w : World) (h1 : -9223372036854775808 ≤ n) (h2 : n ≤ 9223372036854775807) :
    Calls Tryd.prog 38 #[.int .i64 n] w fun e w' => e = .returned (.int .u64 (mag n)) ∧ w = w' := by
  by_cases h : n < 0
  · have hm := Lib.hid (mag_neg h)
    go_enter Tryd.func38, Tryd.ntmps38
    go_wp2
    go_ret
    exact ⟨ret_int (by rw [hm.out]; omega), rfl⟩
  · have hm := Lib.hid (mag_pos (Int.not_lt.1 h))
    go_enter Tryd.func38, Tryd.ntmps38
    go_wp2
    go_ret
    exact ⟨ret_int (by rw [hm.out]), rfl⟩

theorem size_any (n : Int) (w : World) (h1 : -9223372036854775808 ≤ n) (h2 : n ≤ 9223372036854775807) :
    Calls Tryd.prog 49 #[.int .i64 n] w fun e w' => e = .returned (.int .u64 (mag n)) ∧ w = w' := by
  by_cases h : n < 0
  · have hm := Lib.hid (mag_neg h)
    go_enter Tryd.func49, Tryd.ntmps49
    go_wp2
    go_ret
    exact ⟨ret_int (by rw [hm.out]; exact wrap_sz n h h1), rfl⟩
  · have hm := Lib.hid (mag_pos (Int.not_lt.1 h))
    go_enter Tryd.func49, Tryd.ntmps49
    go_wp2
    go_ret
    exact ⟨ret_int (by rw [hm.out]), rfl⟩

theorem gcd_any (a b : Int) (w : World) (ha : 0 ≤ a) (hb : 0 ≤ b) (ha' : a < 18446744073709551616) (hb' : b < 18446744073709551616) :
    Calls Tryd.prog 14 #[.int .u64 a, .int .u64 b] w fun e w' => e = .returned (.int .u64 (Int.gcd a b)) ∧ ∃ n, w' = w.drewN n := by
  go_enter Tryd.func14, Tryd.ntmps14
  go_wp2
  go_loopw [0, 1] (fun u v wr => ∃ x y : Int, 0 ≤ x ∧ 0 ≤ y ∧ x < 18446744073709551616 ∧ y < 18446744073709551616 ∧ Hid (Int.gcd x y = Int.gcd a b) ∧ u = .int .u64 x ∧ v = .int .u64 y ∧ ∃ n, wr = w.drewN n) (fun _ v _ => (intOf v).toNat)
  case atStart => exact ⟨a, b, ha, hb, ha', hb', rfl, rfl, rfl, 0, rfl⟩
  case round =>
    obtain ⟨x, y, hx, hy, hx', hy', hg, rfl, rfl, n, rfl⟩ := hrel
    by_cases h0 : 0 < y
    · have hq := Int.emod_nonneg x (show y ≠ 0 by omega)
      have hq2 := Int.emod_lt_of_pos x h0
      go_wp2
      go_quiet (fail)
      go_wp2
      go_roundw
      case rel => exact ⟨y, x % y, by omega, by omega, by omega, by omega, (gcd_step x y hx hy).trans hg.out, rfl, rfl, _, World.drewN_drewN ..⟩
      case measure => simp [intOf]; omega
    · go_wp2
      go_ret
      obtain rfl : y = 0 := by omega
      exact ⟨ret_int (by have := hg.out; rw [Int.gcd_zero_right] at this; omega), _, rfl⟩

theorem dvs_any (b : Nat) (x y : Int) (w : World) (hx : 0 ≤ x) (hy : 0 ≤ y) (hx' : x < 18446744073709551616) (hy' : y < 18446744073709551616)
    (c0 : w.cell? ⟨b, 0, none⟩ = some (.int .u64 x)) (c1 : w.cell? ⟨b, 1, none⟩ = some (.int .u64 y)) :
    Calls Tryd.prog 39 #[.slice (some ⟨b, 0, none⟩) 2 2] w fun e w' => e = .returned (.int .u64 (Int.gcd x y)) ∧ ∃ n, w' = w.drewN n := by
  have C := Lib.hid (And.intro c0 c1)
  clear c0 c1
  go_enter Tryd.func39, Tryd.ntmps39
  go_wp2
  go_loopw [3, 8] (fun u i wr => ∃ (g : Int) (k : Nat), k ≤ 2 ∧ 0 ≤ g ∧ g < 18446744073709551616 ∧ i = .int .i64 k ∧ u = .int .u64 g ∧ Hid (g = if k = 0 then 0 else if k = 1 then x else Int.gcd x y) ∧ ∃ n, wr = w.drewN n) (fun _ i _ => (2 - intOf i).toNat)
  case atStart => exact ⟨0, 0, by omega, by omega, by omega, rfl, rfl, rfl, 0, rfl⟩
  case round =>
    obtain ⟨g, k, hk, hg, hg', rfl, rfl, hG, n, rfl⟩ := hrel
    by_cases h0 : k < 2
    · have hz : ∃ z : Int, 0 ≤ z ∧ z < 18446744073709551616 ∧ w.cell? ⟨b, k, none⟩ = some (.int .u64 z) ∧ Hid ((Int.gcd g z : Int) = if k = 0 then x else Int.gcd x y) := by
        have hG := hG.out
        match k, h0 with
        | 0, _ => simp at hG; subst hG; exact ⟨x, hx, hx', C.out.1, by simp [Hid]; omega⟩
        | 1, _ => simp at hG; subst hG; exact ⟨y, hy, hy', C.out.2, by simp [Hid]⟩
      obtain ⟨z, hz, hz', cz, hgz⟩ := hz
      go_wp2
      go_loopw [3, 5] (fun u v wr => ∃ x y : Int, 0 ≤ x ∧ 0 ≤ y ∧ x < 18446744073709551616 ∧ y < 18446744073709551616 ∧ Hid (Int.gcd x y = Int.gcd g z) ∧ u = .int .u64 x ∧ v = .int .u64 y ∧ ∃ n, wr = w.drewN n) (fun _ v _ => (intOf v).toNat)
      case atStart => exact ⟨g, z, by omega, by omega, by omega, by omega, rfl, rfl, rfl, n, rfl⟩
      case round =>
        obtain ⟨g1, z1, hg1, hz1, hg1', hz1', hG1, rfl, rfl, n1, rfl⟩ := hrel
        by_cases h1 : 0 < z1
        · have hq := Int.emod_nonneg g1 (show z1 ≠ 0 by omega)
          have hq2 := Int.emod_lt_of_pos g1 h1
          go_wp2
          go_quiet (fail)
          go_wp2
          go_roundw
          case rel => exact ⟨z1, g1 % z1, by omega, by omega, by omega, by omega, (gcd_step g1 z1 hg1 hz1).trans hG1.out, rfl, rfl, _, World.drewN_drewN ..⟩
          case measure => simp [intOf]; omega
        · go_wp2
          go_roundw
          case rel =>
            obtain rfl : z1 = 0 := by omega
            have e1 := hG1.out
            rw [Int.gcd_zero_right] at e1
            refine ⟨g1, k + 1, by omega, by omega, by omega, by go_num, rfl, ?_, _, rfl⟩
            have e2 := hgz.out
            have e3 : g1 = Int.gcd g z := by omega
            rw [Hid, e3, e2]
            by_cases hk0 : k = 0
            · simp [hk0]
            · obtain rfl : k = 1 := by omega
              simp
          case measure => simp [intOf]; omega
    · go_wp2
      go_ret
      obtain rfl : k = 2 := by omega
      exact ⟨ret_int (by have := hG.out; simpa using this), _, rfl⟩

theorem gcd_bd (x y : Int) (hy : 0 < y) : 1 ≤ (Int.gcd x y : Int) ∧ (Int.gcd x y : Int) ≤ y := by
  have h1 := Int.gcd_pos_of_ne_zero_right x (show y ≠ 0 by omega)
  have h2 := Int.le_of_dvd hy (Int.gcd_dvd_right x y)
  omega


/-- ratio.Valid at every ratio -/
theorem valid_any (n d : Int) (w : World) (hn1 : -9223372036854775808 ≤ n) (hn2 : n ≤ 9223372036854775807) (hd1 : -9223372036854775808 ≤ d) (hd2 : d ≤ 9223372036854775807) :
    Calls Tryd.prog 15 #[.agg #[.int .i64 n, .int .i64 d]] w fun e w' => e = .returned (.bool (vld n d)) ∧ Below w.heap.size w w' := by
  by_cases hr : 1 ≤ d ∧ d ≤ 1000000 ∧ -1000000000000 ≤ n ∧ n ≤ 1000000000000
  · obtain ⟨h1, h2, h3, h4⟩ := hr
    have hv : vld n d = decide ((Int.gcd (mag n) (mag d) : Int) = 1) := by
      rw [gcd_mag]; simp only [vld, h1, h2, h3, h4, true_and]; congr 1; simp; omega
    have HV := Lib.hid hv
    clear hv
    have m1 := mag_bd (n := n) (by omega) (by omega)
    have m2 := mag_bd (n := d) (by omega) (by omega)
    go_enter Tryd.func15, Tryd.ntmps15
    go_wp2_with fail
    go_region_held3 (fun w' => w'.cell? ⟨w.heap.size, 0, none⟩ = some (.int .i64 n) ∧ w'.cell? ⟨w.heap.size, 1, none⟩ = some (.int .i64 d)) (go_keep) (first | (go_at_call 38; refine (mag_any _ _ (by omega) (by omega)).mono ?_; rintro e w' ⟨rfl, rfl⟩) | (go_at_call 39; refine (dvs_any _ (mag n) (mag d) _ (by omega) (by omega) (by omega) (by omega) (by simp [go_sem]) (by simp [go_sem])).mono ?_; rintro e w' ⟨rfl, nn, rfl⟩))
    all_goals go_wp2
    go_ret
    exact ⟨ret_bool (by rw [HV.out]; simp only [Bool.beq_eq_decide_eq]), below_drewN ((wa1 _ _).alloc (by simp) _) _⟩
  · have hv := Lib.hid (vld_no (n := n) (d := d) (fun h => hr ⟨h.1, h.2.1, h.2.2.1, h.2.2.2.1⟩))
    have hc : d < 1 ∨ (1 ≤ d ∧ 1000000 < d) ∨ (1 ≤ d ∧ d ≤ 1000000 ∧ n < -1000000000000) ∨ (1 ≤ d ∧ d ≤ 1000000 ∧ -1000000000000 ≤ n ∧ 1000000000000 < n) := by omega
    clear hr
    rcases hc with h | ⟨h, h'⟩ | ⟨h, h', h''⟩ | ⟨h, h', h'', h3⟩
    all_goals
      go_enter Tryd.func15, Tryd.ntmps15
      go_wp2
      go_ret
      exact ⟨ret_bool hv.out.symm, wa1 _ _⟩

end Go.Proofs.YtbkekabhdpoddaaDoor
