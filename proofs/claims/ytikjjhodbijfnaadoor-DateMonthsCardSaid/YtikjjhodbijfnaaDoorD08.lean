/- The walks of sort.Search with the closure of date.search, and date.search. -/
import Derived.Test.YtikjjhodbijfnaaDoorD07
import Derived.Test.YtikjjhodbijfnaaDoorQt
namespace Go.Proofs.YtikjjhodbijfnaaDoor
open Go.RowKit Go.Sort

/-- the closure's captured variables: the calendar, the first day, the wanted count -/
structure Cap (w : World) (g h k : Nat) (cs : Array Value) (a : Nat) (m : Int) : Prop where
  c : Blk w g 39 cs
  f : Blk w h 3 #[.int .i64 a]
  n : Blk w k 3 #[.int .i64 m]
theorem Cap.then_ {w w' : World} {g h k : Nat} {cs : Array Value} {a : Nat} {m : Int} (H : Cap w g h k cs a m) (hb : Below w.heap.size w w') : Cap w' g h k cs a m := ⟨H.c.then_ hb, H.f.then_ hb, H.n.then_ hb⟩
set_option maxHeartbeats 1600000 in
theorem test_any (b0 b1 b2 b3 b4 b5 b6 : Bool) (A : Option Addr) (hs : List Int) (c : Nat) (w : World) (g h k a i : Nat) (m : Int) (hl : hs.length ≤ 400) (hc : hs.length ≤ c) (hp : hs.Pairwise (· < ·)) (hr : ∀ x ∈ hs, 0 ≤ x ∧ x ≤ 73048)
    (hA : A = none → c = 0) (ha : a + i < 73049) (hm : Seg w w.heap.size 1 encI A hs) (hC : Cap w g h k (calA b0 b1 b2 b3 b4 b5 b6 (.slice A hs.length c)) a m) :
    Calls Tryd.prog 34 #[.int .i64 i, .pointer (some ⟨g, 0, none⟩), .pointer (some ⟨h, 0, none⟩), .pointer (some ⟨k, 0, none⟩)] w fun e w' => e = .returned (.bool (decide (m ≤ cnt (bizC ⟨[b0, b1, b2, b3, b4, b5, b6], hs⟩) a (i + 1)))) ∧ Below w.heap.size w w' := by
  obtain ⟨r, hr'⟩ : ∃ r, r = cnt (bizC ⟨[b0, b1, b2, b3, b4, b5, b6], hs⟩) a (i + 1) := ⟨_, rfl⟩
  rw [← hr']
  have HN : Hid (∀ w2, Below w.heap.size w w2 → Calls Tryd.prog 27 #[.agg (calA b0 b1 b2 b3 b4 b5 b6 (.slice A hs.length c)), .int .i64 a, .int .i64 ((a : Int) + i + 1)] w2 fun e w' => e = .returned (.int .i64 r) ∧ Below w2.heap.size w2 w') := fun w2 hb => by
    have := count_any b0 b1 b2 b3 b4 b5 b6 A hs c w2 a (i + 1) hl hc hp hr hA (by omega) ((hm.keep (bcell hb).1).more hb.size)
    rw [← hr', show (a : Int) + ((i + 1 : Nat) : Int) = (a : Int) + i + 1 by omega] at this
    exact this
  have d0 : w.cell? ⟨g, 0, none⟩ = some (.bool b0) := hC.c.cell 0
  have d1 : w.cell? ⟨g, 1, none⟩ = some (.bool b1) := hC.c.cell 1
  have d2 : w.cell? ⟨g, 2, none⟩ = some (.bool b2) := hC.c.cell 2
  have d3 : w.cell? ⟨g, 3, none⟩ = some (.bool b3) := hC.c.cell 3
  have d4 : w.cell? ⟨g, 4, none⟩ = some (.bool b4) := hC.c.cell 4
  have d5 : w.cell? ⟨g, 5, none⟩ = some (.bool b5) := hC.c.cell 5
  have d6 : w.cell? ⟨g, 6, none⟩ = some (.bool b6) := hC.c.cell 6
  have d7 : w.cell? ⟨g, 7, none⟩ = some (.slice A hs.length c) := hC.c.cell 7
  have f0 : w.cell? ⟨h, 0, none⟩ = some (.int .i64 a) := hC.f.cell 0
  have f1 : w.cell? ⟨k, 0, none⟩ = some (.int .i64 m) := hC.n.cell 0
  clear hm hC hp hr hr'
  go_enter Tryd.func34, Tryd.ntmps34
  go_wp2_with fail
  have rg0 := cell_regrown d0
  have rg1 := cell_regrown d1
  have rg2 := cell_regrown d2
  have rg3 := cell_regrown d3
  have rg4 := cell_regrown d4
  have rg5 := cell_regrown d5
  have rg6 := cell_regrown d6
  have rg7 := cell_regrown d7
  have rg8 := cell_regrown f0
  have rg9 := cell_regrown f1
  refine wp_region_qt [0, 1, 2, 3, 4, 5, 6, 7, 8, 9] [] (by kernel_rfl) (by kernel_rfl) (by repeat (first | with_reducible refine panOk_then ?_ | with_reducible refine panOk_block ?_ | exact panOk_body)) ?_
  simp only [opsAt, List.getElem?_toArray, List.getElem?_cons_succ, List.getElem?_cons_zero, Option.toList_some, List.cons_append, List.nil_append]
  repeat (go_big_quiet_step ((go_at_call 27; exact qt_call (fun W' hW => HN.out W' hW) _ _)))
  refine wpQuiet_nil ?_
  intro W2 hw2
  have hbW2 := qt_world hw2
  clear hw2 rg0 rg1 rg2 rg3 rg4 rg5 rg6 rg7 rg8 rg9
  refine wpList_done ?_
  go_wp2
  go_ret
  exact ⟨rfl, hbW2⟩
set_option maxHeartbeats 1600000 in
theorem ssearch_any (b0 b1 b2 b3 b4 b5 b6 : Bool) (A : Option Addr) (hs : List Int) (c : Nat) (w : World) (g h k a n : Nat) (m : Int) (hl : hs.length ≤ 400) (hc : hs.length ≤ c) (hp : hs.Pairwise (· < ·)) (hr : ∀ x ∈ hs, 0 ≤ x ∧ x ≤ 73048)
    (hA : A = none → c = 0) (ha : a + n ≤ 73049) (hm : Seg w w.heap.size 1 encI A hs) (hC : Cap w g h k (calA b0 b1 b2 b3 b4 b5 b6 (.slice A hs.length c)) a m) :
    Calls Tryd.prog 33 #[.int .i64 n, .func (.func 34) #[] #[.pointer (some ⟨g, 0, none⟩), .pointer (some ⟨h, 0, none⟩), .pointer (some ⟨k, 0, none⟩)]] w fun e w' => (∃ i : Nat, e = .returned (.int .i64 i) ∧ IsNth (bizC ⟨[b0, b1, b2, b3, b4, b5, b6], hs⟩) a m n i) ∧ Below w.heap.size w w' := by
  obtain ⟨F, hF⟩ : ∃ F, F = bizC ⟨[b0, b1, b2, b3, b4, b5, b6], hs⟩ := ⟨_, rfl⟩
  rw [← hF]
  have HN : Hid (∀ (w2 : World) (i : Nat), Below w.heap.size w w2 → i < n → Calls Tryd.prog 34 #[.int .i64 i, .pointer (some ⟨g, 0, none⟩), .pointer (some ⟨h, 0, none⟩), .pointer (some ⟨k, 0, none⟩)] w2 fun e w' => e = .returned (.bool (decide (m ≤ cnt F a (i + 1)))) ∧ Below w2.heap.size w2 w') := fun w2 i hb hi => by
    have := test_any b0 b1 b2 b3 b4 b5 b6 A hs c w2 g h k a i m hl hc hp hr hA (by omega) ((hm.keep (bcell hb).1).more hb.size) (hC.then_ hb)
    rw [← hF] at this
    exact this
  clear hm hC hp hr hF hA hc hl
  go_enter Tryd.func33, Tryd.ntmps33
  go_wp2
  go_loopw [5, 6] (fun x y wr => ∃ i j : Nat, i ≤ j ∧ j ≤ n ∧ x = .int .i64 i ∧ y = .int .i64 j ∧ Hid ((∀ q, q < i → cnt F a (q + 1) < m) ∧ (∀ q, j ≤ q → q < n → m ≤ cnt F a (q + 1))) ∧ Below w.heap.size w wr) (fun x y _ => (intOf y).toNat - (intOf x).toNat)
  case atStart => exact ⟨0, n, by omega, by omega, rfl, rfl, ⟨fun q hq => by omega, fun q hq hq2 => by omega⟩, Below.refl _ _⟩
  case round =>
    obtain ⟨i, j, hij, hj, rfl, rfl, hN, hbr⟩ := hrel
    trace_state
    by_cases hlt : i < j
    · obtain ⟨d, hd⟩ : ∃ d : Nat, d = (i + j) / 2 := ⟨_, rfl⟩
      have q1 : i ≤ d := by omega
      have q2 : d < j := by omega
      have HE := Lib.hid (show ((i : Int) + (j : Int)) / 2 = (d : Int) by omega)
      clear hd
      go_upto_region 4 with (fail)
      rw [HE.out]
      have HK := Lib.hid (HN.out _ d hbr (by omega))
      rcases hbb (decide (m ≤ cnt F a (d + 1))) with ht | ht
      · rw [ht] at HK
        go_wp2_with (go_at_call 34; with_reducible refine HK.out.mono ?_; rintro e w1 ⟨rfl, hb1⟩)
        go_round
        case rel =>
          refine ⟨i, d, by omega, by omega, rfl, rfl, ⟨hN.out.1, fun q hq hq2 => ?_⟩, below_then hbr hb1⟩
          have := of_decide_eq_true ht
          have := cnt_mono F a (show d + 1 ≤ q + 1 by omega)
          omega
        case measure => simp [intOf]; omega
      · rw [ht] at HK
        go_wp2_with (go_at_call 34; with_reducible refine HK.out.mono ?_; rintro e w1 ⟨rfl, hb1⟩)
        go_round
        case rel =>
          refine ⟨d + 1, j, by omega, hj, by go_num, rfl, ⟨fun q hq => ?_, hN.out.2⟩, below_then hbr hb1⟩
          have := of_decide_eq_false ht
          have := cnt_mono F a (show q + 1 ≤ d + 1 by omega)
          omega
        case measure => simp [intOf]; omega
    · obtain rfl : i = j := by omega
      go_wp2
      go_ret
      exact ⟨⟨i, rfl, hj, hN.out.1, fun q => hN.out.2 i (by omega) q⟩, hbr⟩
end Go.Proofs.YtikjjhodbijfnaaDoor
