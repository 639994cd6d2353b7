/- The walks of netting at invalid arguments, and of the small functions: debts made, lists compared. -/
import Derived.Test.YthgbdpiihdhfiaaN10
import Derived.Test.YthgbdpiihdhfiaaN09
namespace Go.Proofs.Ythgbdpiihdhfiaa
open Go.RowKit Go.Sort

/-- what is returned for arguments that are not valid -/
def badE : Ending := .returned (.tuple #[.slice none 0 0, .int .i64 1])
section
variable (p : Int) (A : Option Addr) (c : Nat) (l : List Db) (w : World) (hv : validD p l = false) (hp1 : -9223372036854775808 ≤ p) (hp2 : p ≤ 9223372036854775807) (hl : l.length ≤ 4611686018427387904) (hf : ∀ x ∈ l, fitD x) (hm : Seg w w.heap.size 4 encD A l)
include hv hp1 hp2 hl hf hm
theorem positions_bad : Calls Try.prog 10 #[.int .i64 p, .slice A l.length c] w fun e w' => e = badE ∧ Below w.heap.size w w' := by
  have HV := nvalid_any p A c l w hp1 hp2 hl hf hm
  rw [hv] at HV
  have HW := Lib.hid HV
  clear hm hf HV hv
  go_enter Try.func10, Try.ntmps10
  go_wp2_with (go_at_call 16; refine HW.out.mono ?_; rintro e w1 ⟨rfl, hb⟩; obtain ⟨hc, hf⟩ := bcell hb; have hz := hb.size; (try simp at hz))
  go_ret2
  exact ⟨rfl, hb⟩
theorem rpositions_bad : Calls Try.prog 11 #[.int .i64 p, .slice A l.length c] w fun e w' => e = badE ∧ Below w.heap.size w w' := by
  have HV := rnvalid_any p A c l w hp1 hp2 hl hf hm
  rw [hv] at HV
  have HW := Lib.hid HV
  clear hm hf HV hv
  go_enter Try.func11, Try.ntmps11
  go_wp2_with (go_at_call 17; refine HW.out.mono ?_; rintro e w1 ⟨rfl, hb⟩; obtain ⟨hc, hf⟩ := bcell hb; have hz := hb.size; (try simp at hz))
  go_ret2
  exact ⟨rfl, hb⟩
theorem pairs_bad : Calls Try.prog 12 #[.int .i64 p, .slice A l.length c] w fun e w' => e = badE ∧ Below w.heap.size w w' := by
  have HV := nvalid_any p A c l w hp1 hp2 hl hf hm
  rw [hv] at HV
  have HW := Lib.hid HV
  clear hm hf HV hv
  go_enter Try.func12, Try.ntmps12
  go_wp2_with (go_at_call 16; refine HW.out.mono ?_; rintro e w1 ⟨rfl, hb⟩; obtain ⟨hc, hf⟩ := bcell hb; have hz := hb.size; (try simp at hz))
  go_ret2
  exact ⟨rfl, hb⟩
theorem rpairs_bad : Calls Try.prog 13 #[.int .i64 p, .slice A l.length c] w fun e w' => e = badE ∧ Below w.heap.size w w' := by
  have HV := rnvalid_any p A c l w hp1 hp2 hl hf hm
  rw [hv] at HV
  have HW := Lib.hid HV
  clear hm hf HV hv
  go_enter Try.func13, Try.ntmps13
  go_wp2_with (go_at_call 17; refine HW.out.mono ?_; rintro e w1 ⟨rfl, hb⟩; obtain ⟨hc, hf⟩ := bcell hb; have hz := hb.size; (try simp at hz))
  go_ret2
  exact ⟨rfl, hb⟩
theorem net_bad : Calls Try.prog 14 #[.int .i64 p, .slice A l.length c] w fun e w' => e = badE ∧ Below w.heap.size w w' := by
  have HV := positions_bad p A c l w hv hp1 hp2 hl hf hm
  unfold badE at HV
  have HW := Lib.hid HV
  clear hm hf HV hv
  go_enter Try.func14, Try.ntmps14
  go_wp2_with (go_at_call 10; refine HW.out.mono ?_; rintro e w1 ⟨rfl, hb⟩; obtain ⟨hc, hf⟩ := bcell hb; have hz := hb.size; (try simp at hz))
  go_ret2
  exact ⟨rfl, hb⟩
theorem rnet_bad : Calls Try.prog 15 #[.int .i64 p, .slice A l.length c] w fun e w' => e = badE ∧ Below w.heap.size w w' := by
  have HV := rpositions_bad p A c l w hv hp1 hp2 hl hf hm
  unfold badE at HV
  have HW := Lib.hid HV
  clear hm hf HV hv
  go_enter Try.func15, Try.ntmps15
  go_wp2_with (go_at_call 11; refine HW.out.mono ?_; rintro e w1 ⟨rfl, hb⟩; obtain ⟨hc, hf⟩ := bcell hb; have hz := hb.size; (try simp at hz))
  go_ret2
  exact ⟨rfl, hb⟩
end

/-- a debt is made -/
theorem ret_debt {fn : Func} {a : Act} {w : World} {r g : Nat} {x y z u : Value} (hres : fn.results = #[.cell r 38]) (hp : a.tmps.getD r undef = .pointer (some ⟨g, 0, none⟩)) (hk : Blk w g 38 #[x, y, z, u]) :
    (results fn a.tmps).run Try.prog w = .ok (.agg #[x, y, z, u]) w := by
  have c0 : w.cell? ⟨g, 0, none⟩ = some x := hk.cell 0
  have c1 : w.cell? ⟨g, 1, none⟩ = some y := hk.cell 1
  have c2 : w.cell? ⟨g, 2, none⟩ = some z := hk.cell 2
  have c3 : w.cell? ⟨g, 3, none⟩ = some u := hk.cell 3
  rw [Array.getD_eq_getD_getElem?] at hp
  simp [results, hres, hp, go_sem, c0, c1, c2, c3]
theorem debt_any (f t n d : Int) (w : World) :
    Calls Try.prog 25 #[.int .i64 f, .int .i64 t, .int .i64 n, .int .i64 d] w fun e w' => e = .returned (.agg #[.int .i64 f, .int .i64 t, .int .i64 n, .int .i64 d]) ∧ Below w.heap.size w w' := by
  go_enter Try.func25, Try.ntmps25
  go_wp2_with fail
  refine bodyPost_ret (ret_debt rfl rfl (Blk.new _ _ _)) rfl ⟨rfl, below_alloc (Below.refl _ _) _⟩

/-- two lists of debts that read alike are the same -/
theorem same_eq (A A' : Option Addr) (c c' : Nat) (l : List Db) (w : World) (hl : l.length ≤ 1000000) (hm : Seg w w.heap.size 4 encD A l) (hm' : Seg w w.heap.size 4 encD A' l) :
    Calls Try.prog 19 #[.slice A l.length c, .slice A' l.length c'] w fun e w' => e = .returned (.bool true) ∧ Below w.heap.size w w' := by
  have HM := Lib.hid (And.intro hm hm')
  clear hm hm'
  go_enter Try.func19, Try.ntmps19
  go_wp2_with fail
  go_loopw [5] (fun i wr => ∃ k : Nat, k ≤ l.length ∧ i = .int .i64 k ∧ Below w.heap.size w wr) (fun i _ => l.length - (intOf i).toNat)
  case atStart => exact ⟨0, by omega, rfl, Below.refl _ _⟩
  case round =>
    obtain ⟨k, hk, rfl, hB⟩ := hrel
    by_cases hlt : k < l.length
    · obtain ⟨x, hx⟩ : ∃ x, l[k]? = some x := ⟨_, List.getElem?_eq_getElem hlt⟩
      obtain ⟨b, off, rfl, hb, c0, c1, c2, c3⟩ := segD (HM.out.1.below hB) hx
      obtain ⟨b', off', rfl, hb', d0, d1, d2, d3⟩ := segD (HM.out.2.below hB) hx
      clear hx
      go_wp2_with fail
      have rg0 := cell_regrown c0
      have rg1 := cell_regrown c1
      have rg2 := cell_regrown c2
      have rg3 := cell_regrown c3
      have rg4 := cell_regrown d0
      have rg5 := cell_regrown d1
      have rg6 := cell_regrown d2
      have rg7 := cell_regrown d3
      refine wp_region_qt [0, 1, 2, 3, 4, 5, 6, 7, 8] [] (by kernel_rfl) (by kernel_rfl) (by repeat (first | with_reducible refine panOk_then ?_ | with_reducible refine panOk_block ?_ | exact panOk_body)) ?_
      simp only [opsAt, List.getElem?_toArray, List.getElem?_cons_succ, List.getElem?_cons_zero, Option.toList_some, List.cons_append, List.nil_append]
      repeat (go_big_quiet_step (fail))
      refine wpQuiet_nil ?_
      intro we hw2
      have hbwe := qt_world hw2
      clear hw2 rg0 rg1 rg2 rg3 rg4 rg5 rg6 rg7
      go_wp2_with fail
      go_roundw
      case rel => exact ⟨k + 1, by omega, by go_num, below_then hB hbwe⟩
      case measure => simp [intOf]; omega
    · go_wp2
      go_ret
      exact ⟨rfl, hB⟩

/-- two lists of ratios that read alike are the same -/
theorem ratios_eq (A A' : Option Addr) (c c' : Nat) (l : List Rat) (w : World) (hl : l.length ≤ 1000000) (hm : Seg w w.heap.size 2 encR A l) (hm' : Seg w w.heap.size 2 encR A' l) :
    Calls Try.prog 18 #[.slice A l.length c, .slice A' l.length c'] w fun e w' => e = .returned (.bool true) ∧ Below w.heap.size w w' := by
  have HM := Lib.hid (And.intro hm hm')
  clear hm hm'
  go_enter Try.func18, Try.ntmps18
  go_wp2_with fail
  go_loopw [5] (fun i wr => ∃ k : Nat, k ≤ l.length ∧ i = .int .i64 k ∧ Below w.heap.size w wr) (fun i _ => l.length - (intOf i).toNat)
  case atStart => exact ⟨0, by omega, rfl, Below.refl _ _⟩
  case round =>
    obtain ⟨k, hk, rfl, hB⟩ := hrel
    by_cases hlt : k < l.length
    · obtain ⟨x, hx⟩ : ∃ x, l[k]? = some x := ⟨_, List.getElem?_eq_getElem hlt⟩
      obtain ⟨b, off, rfl, hb, hc⟩ := (HM.out.1.below hB) k x hx
      obtain ⟨b', off', rfl, hb', hd⟩ := (HM.out.2.below hB) k x hx
      have c0 := hc 0 _ rfl
      have c1 := hc 1 _ rfl
      have d0 := hd 0 _ rfl
      have d1 := hd 1 _ rfl
      simp only [Nat.add_zero] at c0 d0
      clear hx hc hd
      go_wp2_with fail
      have rg0 := cell_regrown c0
      have rg1 := cell_regrown c1
      have rg2 := cell_regrown d0
      have rg3 := cell_regrown d1
      refine wp_region_qt [0, 1, 2, 3, 4, 5, 6, 7, 8] [] (by kernel_rfl) (by kernel_rfl) (by repeat (first | with_reducible refine panOk_then ?_ | with_reducible refine panOk_block ?_ | exact panOk_body)) ?_
      simp only [opsAt, List.getElem?_toArray, List.getElem?_cons_succ, List.getElem?_cons_zero, Option.toList_some, List.cons_append, List.nil_append]
      repeat (go_big_quiet_step (fail))
      refine wpQuiet_nil ?_
      intro we hw2
      have hbwe := qt_world hw2
      clear hw2 rg0 rg1 rg2 rg3
      go_wp2_with fail
      go_roundw
      case rel => exact ⟨k + 1, by omega, by go_num, below_then hB hbwe⟩
      case measure => simp [intOf]; omega
    · go_wp2
      go_ret
      exact ⟨rfl, hB⟩
end Go.Proofs.Ythgbdpiihdhfiaa
