/- The walk of NettingFew: few debts; nobody both owes and is owed; pairs in order. -/
import Derived.Test.YthgbdpiihdhfiaaN19
namespace Go.Proofs.Ythgbdpiihdhfiaa
open Go.RowKit Go.Sort

theorem nz_take {qs : List Rat} {k : Nat} {q : Rat} (hx : qs[k]? = some q) : nz (qs.take (k + 1)) = nz (qs.take k) + if q.num = 0 then 0 else 1 := by
  obtain ⟨hk, rfl⟩ := List.getElem?_eq_some_iff.1 hx
  rw [List.take_succ_eq_append_getElem hk, nz, nz, List.filter_append, List.length_append]
  congr 1
  by_cases h : qs[k] = 0
  · rw [if_pos (by rw [h]; rfl)]; simp [h]
  · rw [if_neg (fun e => h (Rat.num_eq_zero.1 e))]; simp [h]

theorem wpList_done {P : Program} {ops : Array Oper} {Q : Exit → Act → World → Prop} {a : Act} {w : World} (h : Q .normal a w) : wpList P ops Q [] a w := h
set_option maxRecDepth 100000 in
set_option maxHeartbeats 6400000 in
theorem few_any {p : Int} {l : List Db} (h : Args p l) (A : Option Addr) (c : Nat) (w : World) (hm : Seg w w.heap.size 4 encD A l) :
    Calls Try.prog 5 #[.int .i64 p, .slice A l.length c] w fun e w' => e = .returned (.bool true) ∧ Below w.heap.size w w' := by
  have hlen := h.len
  by_cases hl : l.length ≤ 400
  · have R1 := fun W (hW : Below w.heap.size w W) => positions_got h A c W (seg_of hm hW)
    have R2 := fun W (hW : Below w.heap.size w W) => net_got h A c W (seg_of hm hW)
    have R3 := fun W (hW : Below w.heap.size w W) => pairs_got h A c W (seg_of hm hW)
    have g1 := posL_len p l
    have g2 := prL_len p l
    have g3 := ntL_len p l
    by_cases hz : posE p l = 0 ∧ ntE p l = 0
    · obtain ⟨hz1, hz2⟩ := hz
      simp only [hz1] at R1
      simp only [hz2] at R2
      have HF := Lib.hid (few_net hz2)
      have HSd := Lib.hid (fun x y hx hy => sides_net (x := x) (y := y) hz2 hx hy)
      have HOr := Lib.hid (fun i x y hx hy => order_pr (p := p) (l := l) (i := i) (x := x) (y := y) hx hy)
      have Hfx := Lib.hid (args_nt h).fit
      have Hfy := Lib.hid (args_pr h).fit
      have Hfx' := Hfy.out
      clear hm h hz1 hz2
      have H1 := Lib.hid R1
      have H2 := Lib.hid R2
      have H3 := Lib.hid R3
      clear R1 R2 R3
      generalize posL p l = qs at *
      generalize ntL p l = ms at *
      generalize prL p l = ys at *
      generalize prE p l = G at *
      go_enter Try.func5, Try.ntmps5
      go_upto_region 9 with (first | (go_at_call 9; refine (head_any _).mono ?_; rintro e w0 ⟨rfl, b0⟩) | (go_at_call 10; refine (H1.out _ (by (repeat (first | with_reducible assumption | with_reducible exact Below.refl _ _ | with_reducible refine below_drewN ?_ _ | with_reducible refine Below.drew ?_ | with_reducible refine below_alloc ?_ _ | with_reducible refine Below.setCell ?_ (by first | omega | (simp; done) | (simp; omega)) _ | with_reducible refine below_then ?_ (by with_reducible assumption) | (refine below_then (a := World.drew _) ?_ (by with_reducible assumption)))))).mono ?_; rintro e v1 ⟨⟨A1, c1, rfl, S1⟩, b1⟩) | (go_at_call 14; refine (H2.out _ (by (repeat (first | with_reducible assumption | with_reducible exact Below.refl _ _ | with_reducible refine below_drewN ?_ _ | with_reducible refine Below.drew ?_ | with_reducible refine below_alloc ?_ _ | with_reducible refine Below.setCell ?_ (by first | omega | (simp; done) | (simp; omega)) _ | with_reducible refine below_then ?_ (by with_reducible assumption) | (refine below_then (a := World.drew _) ?_ (by with_reducible assumption)))))).mono ?_; rintro e v2 ⟨⟨A2, c2, rfl, S2⟩, b2⟩) | (go_at_call 12; refine (H3.out _ (by (repeat (first | with_reducible assumption | with_reducible exact Below.refl _ _ | with_reducible refine below_drewN ?_ _ | with_reducible refine Below.drew ?_ | with_reducible refine below_alloc ?_ _ | with_reducible refine Below.setCell ?_ (by first | omega | (simp; done) | (simp; omega)) _ | with_reducible refine below_then ?_ (by with_reducible assumption) | (refine below_then (a := World.drew _) ?_ (by with_reducible assumption)))))).mono ?_; rintro e v3 ⟨⟨A3, c3, rfl, S3⟩, b3⟩))
      have T1 := Lib.hid (seg_of S1 (show Below v1.heap.size v1 v3 by (repeat (first | with_reducible assumption | with_reducible exact Below.refl _ _ | with_reducible refine below_drewN ?_ _ | with_reducible refine Below.drew ?_ | with_reducible refine below_alloc ?_ _ | with_reducible refine Below.setCell ?_ (by first | omega | (simp; done) | (simp; omega)) _ | with_reducible refine below_then ?_ (by with_reducible assumption) | (refine below_then (a := World.drew _) ?_ (by with_reducible assumption))))))
      have T2 := Lib.hid (seg_of S2 (show Below v2.heap.size v2 v3 by (repeat (first | with_reducible assumption | with_reducible exact Below.refl _ _ | with_reducible refine below_drewN ?_ _ | with_reducible refine Below.drew ?_ | with_reducible refine below_alloc ?_ _ | with_reducible refine Below.setCell ?_ (by first | omega | (simp; done) | (simp; omega)) _ | with_reducible refine below_then ?_ (by with_reducible assumption) | (refine below_then (a := World.drew _) ?_ (by with_reducible assumption))))))
      have T3 := Lib.hid S3
      have BW := Lib.hid (show Below w.heap.size w v3 by (repeat (first | with_reducible assumption | with_reducible exact Below.refl _ _ | with_reducible refine below_drewN ?_ _ | with_reducible refine Below.drew ?_ | with_reducible refine below_alloc ?_ _ | with_reducible refine Below.setCell ?_ (by first | omega | (simp; done) | (simp; omega)) _ | with_reducible refine below_then ?_ (by with_reducible assumption) | (refine below_then (a := World.drew _) ?_ (by with_reducible assumption)))))
      clear S1 S2 S3 b0 b1 b2 b3 H1 H2 H3
      go_wp2_with fail
      go_loopw [12, 13] (fun n i wr => ∃ k : Nat, k ≤ qs.length ∧ i = .int .i64 k ∧ n = .int .i64 (nz (qs.take k)) ∧ wr = v3) (fun _ i _ => qs.length - (intOf i).toNat)
      case atStart => exact ⟨0, by omega, rfl, rfl, rfl⟩
      case round =>
        obtain ⟨k, hk, rfl, rfl, rfl⟩ := hrel
        by_cases hlt : k < qs.length
        · obtain ⟨x, hx⟩ : ∃ x, qs[k]? = some x := ⟨_, List.getElem?_eq_getElem hlt⟩
          obtain ⟨b, off, rfl, hb, q0, q1⟩ := segR T1.out hx
          have HN := Lib.hid (nz_take hx)
          have hnz : nz (qs.take k) ≤ 12 := by have := nz_le (qs.take k); rw [List.length_take] at this; omega
          clear hx
          generalize nz (qs.take k) = s at *
          cases hn : (x.num != 0)
          all_goals
            go_wp2_with fail
            go_roundw
            case rel => exact ⟨k + 1, by omega, by go_num, by rw [HN.out]; first | (rw [if_pos (by simpa using hn)]; rfl) | (rw [if_neg (by simpa using hn)]; go_num), by first | rfl | trivial⟩
            case measure => simp [intOf]; omega
        · obtain rfl : k = qs.length := by omega
          rw [List.take_of_length_le (Nat.le_refl _)]
          go_wp2_with fail
          clear hlt hk
          obtain ⟨v3, rfl⟩ : ∃ v3 : World, v3 = wr := ⟨_, rfl⟩
          go_loopw [14] (fun i wr => ∃ k : Nat, k ≤ ms.length ∧ i = .int .i64 k ∧ Hid (Below v3.heap.size v3 wr)) (fun i _ => ms.length - (intOf i).toNat)
          case atStart => exact ⟨0, by omega, rfl, Below.refl _ _⟩
          case round =>
            obtain ⟨k, hk, rfl, hB⟩ := hrel
            by_cases hlt : k < ms.length
            · obtain ⟨x, hx⟩ : ∃ x, ms[k]? = some x := ⟨_, List.getElem?_eq_getElem hlt⟩
              have HX := Lib.hid hx
              clear hx
              go_wp2_with fail
              obtain ⟨v4, rfl⟩ : ∃ v4 : World, v4 = wr := ⟨_, rfl⟩
              go_loopw [15] (fun i wr => ∃ m : Nat, m ≤ ms.length ∧ i = .int .i64 m ∧ Hid (Below v3.heap.size v3 wr)) (fun i _ => ms.length - (intOf i).toNat)
              case atStart => exact ⟨0, by omega, rfl, hB⟩
              case round =>
                obtain ⟨m, hm, rfl, hB4⟩ := hrel
                by_cases hlt2 : m < ms.length
                · obtain ⟨y, hy⟩ : ∃ y, ms[m]? = some y := ⟨_, List.getElem?_eq_getElem hlt2⟩
                  obtain ⟨b, off, rfl, hb, q0, q1, q2, q3⟩ := segD (T2.out.below hB4.out) HX.out
                  obtain ⟨b', off', e', hb', r0, r1, r2, r3⟩ := segD (T2.out.below hB4.out) hy
                  have hne : (x.f == y.t) = false := by simpa using HSd.out x y (List.mem_of_getElem? HX.out) (List.mem_of_getElem? hy)
                  cases e'
                  clear hy
                  go_wp2_with fail
                  have rg0 := cell_regrown q0
                  have rg1 := cell_regrown r1
                  refine wp_region_qt [0, 1, 2, 3, 4, 5, 6, 7, 8, 9, 10] [] (by kernel_rfl) (by kernel_rfl) (by repeat (first | with_reducible refine panOk_then ?_ | with_reducible refine panOk_block ?_ | exact panOk_body)) ?_
                  simp only [opsAt, List.getElem?_toArray, List.getElem?_cons_succ, List.getElem?_cons_zero, Option.toList_some, List.cons_append, List.nil_append]
                  repeat (go_big_quiet_step (fail))
                  refine wpQuiet_nil ?_
                  intro we hw2
                  have hbwe := qt_world hw2
                  clear hw2 rg0 rg1
                  go_wp2_with fail
                  go_roundw
                  case rel => exact ⟨m + 1, by omega, by go_num, below_then hB4.out hbwe⟩
                  case measure => simp [intOf]; omega
                · go_wp2_with fail
                  go_roundw
                  case rel => exact ⟨k + 1, by omega, by go_num, hB4⟩
                  case measure => simp [intOf]; omega
            · go_wp2_with fail
              clear hlt hk
              obtain ⟨v5, rfl⟩ : ∃ v5 : World, v5 = wr := ⟨_, rfl⟩
              go_loopw [16] (fun i wr => ∃ t : Nat, (t + 1 ≤ ys.length ∨ t = 0) ∧ i = .int .i64 ((t : Int) + 1) ∧ Hid (Below v3.heap.size v3 wr)) (fun i _ => ys.length + 1 - (intOf i).toNat)
              case atStart => exact ⟨0, by omega, rfl, hB⟩
              case round =>
                obtain ⟨t, ht, rfl, hB5⟩ := hrel
                by_cases hlt : t + 1 < ys.length
                · obtain ⟨x, hx⟩ : ∃ x, ys[t]? = some x := ⟨_, List.getElem?_eq_getElem (by omega)⟩
                  obtain ⟨y, hy⟩ : ∃ y, ys[t + 1]? = some y := ⟨_, List.getElem?_eq_getElem hlt⟩
                  obtain ⟨b, off, rfl, hb, q0, q1, q2, q3⟩ := segD (T3.out.below hB5.out) hx
                  obtain ⟨b', off', e', hb', r0, r1, r2, r3⟩ := segD (T3.out.below hB5.out) hy
                  have hord := HOr.out t x y hx hy
                  obtain ⟨⟨f1, f2⟩, ⟨f3, f4⟩, _, _⟩ := Hfx' x (List.mem_of_getElem? hx)
                  obtain ⟨⟨f5, f6⟩, ⟨f7, f8⟩, _, _⟩ := Hfx' y (List.mem_of_getElem? hy)
                  cases e'
                  clear hx hy
                  have HO := Lib.hid hord
                  clear hord
                  have t0 : (0 : Int) ≤ (t : Int) + 1 := by omega
                  have t1 : (t : Int) + 1 < (ys.length : Int) := by omega
                  have t2 : (t : Int) < (ys.length : Int) := by omega
                  go_wp2_with fail
                  have rg0 := cell_regrown q0
                  have rg1 := cell_regrown q1
                  have rg2 := cell_regrown r0
                  have rg3 := cell_regrown r1
                  refine wp_region_qt [0, 1, 2, 3, 4, 5, 6, 7, 8, 9, 10, 11, 12, 13, 14, 15, 16, 17, 18, 19, 20, 21, 22, 23, 24, 25] [] (by kernel_rfl) (by kernel_rfl) (by repeat (first | with_reducible refine panOk_then ?_ | with_reducible refine panOk_block ?_ | exact panOk_body)) ?_
                  simp only [opsAt, List.getElem?_toArray, List.getElem?_cons_succ, List.getElem?_cons_zero, Option.toList_some, List.cons_append, List.nil_append]
                  repeat (go_big_quiet_step (fail))
                  refine wpQuiet_nil ?_
                  intro wf hw2
                  have hbwf := qt_world hw2
                  clear hw2 rg0 rg1 rg2 rg3
                  refine wpList_done ?_
                  have eA : (if x.t < x.f then x.t else x.f) = min x.f x.t := by split <;> omega
                  have eB : (if y.t < y.f then y.t else y.f) = min y.f y.t := by split <;> omega
                  rw [eA, eB]
                  clear eA eB
                  have HO2 := HO.out
                  unfold ordD at HO2
                  generalize min x.f x.t = a at *
                  generalize min y.f y.t = d at *
                  rcases HO2 with hab | ⟨rfl, hmx⟩
                  · have e1 : decide (d < a) = false := by simp; omega
                    have e2 : (a == d) = false := by simp; omega
                    clear hab
                    go_wp2_with fail
                    obtain ⟨x0, x1, _, _⟩ := And.intro ((hbwf.cell (block_lt_of_cell q0)).trans q0) (And.intro ((hbwf.cell (block_lt_of_cell q1)).trans q1) (And.intro trivial trivial))
                    obtain ⟨y0, y1, _, _⟩ := And.intro ((hbwf.cell (block_lt_of_cell r0)).trans r0) (And.intro ((hbwf.cell (block_lt_of_cell r1)).trans r1) (And.intro trivial trivial))
                    clear q0 q1 q2 q3 r0 r1 r2 r3
                    have rg0 := cell_regrown x0
                    have rg1 := cell_regrown x1
                    have rg2 := cell_regrown y0
                    have rg3 := cell_regrown y1
                    refine wp_region_qt [0, 1, 2, 3, 4, 5, 6, 7, 8, 9, 10, 11, 12, 13, 14, 15, 16, 17, 18, 19, 20, 21, 22, 23, 24, 25, 26, 27, 28, 29, 30, 31, 32, 33, 34] [] (by kernel_rfl) (by kernel_rfl) (by repeat (first | with_reducible refine panOk_then ?_ | with_reducible refine panOk_block ?_ | exact panOk_body)) ?_
                    simp only [opsAt, List.getElem?_toArray, List.getElem?_cons_succ, List.getElem?_cons_zero, Option.toList_some, List.cons_append, List.nil_append]
                    repeat (go_big_quiet_step (fail))
                    refine wpQuiet_nil ?_
                    intro wg hw2
                    have hbwg := qt_world hw2
                    clear hw2 rg0 rg1 rg2 rg3
                    refine wpList_done ?_
                    go_wp2_with fail
                    go_roundw
                    case rel => exact ⟨t + 1, by omega, by go_num, below_then (below_then hB5.out hbwf) hbwg⟩
                    case measure => simp [intOf]; omega
                  · have e1 : decide (a < a) = false := by simp
                    have e2 : (a == a) = true := by simp
                    have HM := Lib.hid hmx
                    clear hmx
                    go_wp2_with fail
                    obtain ⟨x0, x1, _, _⟩ := And.intro ((hbwf.cell (block_lt_of_cell q0)).trans q0) (And.intro ((hbwf.cell (block_lt_of_cell q1)).trans q1) (And.intro trivial trivial))
                    obtain ⟨y0, y1, _, _⟩ := And.intro ((hbwf.cell (block_lt_of_cell r0)).trans r0) (And.intro ((hbwf.cell (block_lt_of_cell r1)).trans r1) (And.intro trivial trivial))
                    clear q0 q1 q2 q3 r0 r1 r2 r3
                    have rg0 := cell_regrown x0
                    have rg1 := cell_regrown x1
                    have rg2 := cell_regrown y0
                    have rg3 := cell_regrown y1
                    refine wp_region_qt [0, 1, 2, 3, 4, 5, 6, 7, 8, 9, 10, 11, 12, 13, 14, 15, 16, 17, 18, 19, 20, 21, 22, 23, 24, 25, 26, 27, 28, 29, 30, 31, 32, 33, 34] [] (by kernel_rfl) (by kernel_rfl) (by repeat (first | with_reducible refine panOk_then ?_ | with_reducible refine panOk_block ?_ | exact panOk_body)) ?_
                    simp only [opsAt, List.getElem?_toArray, List.getElem?_cons_succ, List.getElem?_cons_zero, Option.toList_some, List.cons_append, List.nil_append]
                    repeat (go_big_quiet_step (fail))
                    refine wpQuiet_nil ?_
                    intro wg hw2
                    have hbwg := qt_world hw2
                    clear hw2 rg0 rg1 rg2 rg3
                    refine wpList_done ?_
                    have eA : (if x.f < x.t then x.t else x.f) = max x.f x.t := by split <;> omega
                    have eB : (if y.f < y.t then y.t else y.f) = max y.f y.t := by split <;> omega
                    rw [eA, eB]
                    clear eA eB
                    have hmx := HM.out
                    generalize max x.f x.t = ma at *
                    generalize max y.f y.t = mb at *
                    have e3 : decide (mb ≤ ma) = false := by simp; omega
                    go_wp2_with fail
                    go_roundw
                    case rel => exact ⟨t + 1, by omega, by go_num, below_then (below_then hB5.out hbwf) hbwg⟩
                    case measure => simp [intOf]; omega
                · have HB := Lib.hid (below_then BW.out hB5.out)
                  have t1 : (ys.length : Int) ≤ (t : Int) + 1 := by omega
                  clear hlt ht
                  rcases HF.out with hf | ⟨hf1, hf2⟩
                  · go_wp2_with fail
                    go_ret
                    exact ⟨rfl, HB.out⟩
                  · rw [hf1, hf2]
                    clear hf1 hf2
                    go_wp2_with fail
                    go_ret
                    exact ⟨rfl, HB.out⟩
    · have hc : (posE p l != 0) = true ∨ ((posE p l != 0) = false ∧ (ntE p l != 0) = true) := by
        by_cases h0 : posE p l = 0
        · right; exact ⟨by simp [h0], by simp; exact fun h1 => hz ⟨h0, h1⟩⟩
        · left; simpa using h0
      have hnil : ntL p l = [] := nt_bad (by
        by_cases h0 : posE p l = 0
        · exact .inr fun h1 => hz ⟨h0, h1⟩
        · exact .inl h0)
      simp only [hnil] at R2
      have H1 := Lib.hid R1
      have H2 := Lib.hid R2
      have H3 := Lib.hid R3
      clear R1 R2 R3 hz hm h hnil
      generalize posE p l = E at *
      generalize ntE p l = G at *
      rcases hc with hc | ⟨hc, hc'⟩
      all_goals
        go_enter Try.func5, Try.ntmps5
        go_wp2_with (first | (go_at_call 9; refine (head_any _).mono ?_; rintro e w0 ⟨rfl, b0⟩) | (go_at_call 10; refine (H1.out _ (by (repeat (first | with_reducible assumption | with_reducible exact Below.refl _ _ | with_reducible refine below_drewN ?_ _ | with_reducible refine Below.drew ?_ | with_reducible refine below_alloc ?_ _ | with_reducible refine Below.setCell ?_ (by first | omega | (simp; done) | (simp; omega)) _ | with_reducible refine below_then ?_ (by with_reducible assumption) | (refine below_then (a := World.drew _) ?_ (by with_reducible assumption)))))).mono ?_; rintro e v1 ⟨⟨A1, c1, rfl, S1⟩, b1⟩) | (go_at_call 14; refine (H2.out _ (by (repeat (first | with_reducible assumption | with_reducible exact Below.refl _ _ | with_reducible refine below_drewN ?_ _ | with_reducible refine Below.drew ?_ | with_reducible refine below_alloc ?_ _ | with_reducible refine Below.setCell ?_ (by first | omega | (simp; done) | (simp; omega)) _ | with_reducible refine below_then ?_ (by with_reducible assumption) | (refine below_then (a := World.drew _) ?_ (by with_reducible assumption)))))).mono ?_; rintro e v2 ⟨⟨A2, c2, rfl, S2⟩, b2⟩) | (go_at_call 12; refine (H3.out _ (by (repeat (first | with_reducible assumption | with_reducible exact Below.refl _ _ | with_reducible refine below_drewN ?_ _ | with_reducible refine Below.drew ?_ | with_reducible refine below_alloc ?_ _ | with_reducible refine Below.setCell ?_ (by first | omega | (simp; done) | (simp; omega)) _ | with_reducible refine below_then ?_ (by with_reducible assumption) | (refine below_then (a := World.drew _) ?_ (by with_reducible assumption)))))).mono ?_; rintro e v3 ⟨⟨A3, c3, rfl, S3⟩, b3⟩))
        go_ret
        exact ⟨rfl, by (repeat (first | with_reducible assumption | with_reducible exact Below.refl _ _ | with_reducible refine below_drewN ?_ _ | with_reducible refine Below.drew ?_ | with_reducible refine below_alloc ?_ _ | with_reducible refine Below.setCell ?_ (by first | omega | (simp; done) | (simp; omega)) _ | with_reducible refine below_then ?_ (by with_reducible assumption) | (refine below_then (a := World.drew _) ?_ (by with_reducible assumption))))⟩
  · go_enter Try.func5, Try.ntmps5
    go_wp2_with (go_at_call 9; refine (head_any _).mono ?_; rintro e w0 ⟨rfl, b0⟩)
    go_ret
    exact ⟨rfl, b0⟩
end Go.Proofs.Ythgbdpiihdhfiaa
