/- The walks of cascade.bears and what it calls: slices.Index and Contains at triggers. -/
import Derived.Test.YteoicnhnpailiaaCc3
import Derived.Test.YteoicnhnpailiaaCa3
namespace Go.Proofs.Yteoicnhnpailiaa
open Go.RowKit Go.Sort

def isT (x : Tr) (t : Tr) : Bool := x.p == t.p && x.d == t.d
def IdxT (l : List Tr) (x : Tr) (e : Ending) : Prop := ∃ r : Int, -1 ≤ r ∧ r ≤ 1000 ∧ e = .returned (.int .i64 r) ∧ decide (0 ≤ r) = l.any (isT x)
set_option maxRecDepth 100000 in
theorem idxT_any (A : Option Addr) (c : Nat) (l : List Tr) (x : Tr) (w : World) (hl : l.length ≤ 400) (hs : Seg w w.heap.size 2 encT A l) :
    Calls Try.prog 56 #[.slice A l.length c, .agg #[.int .i64 x.p, .int .i64 x.d]] w fun e w' => IdxT l x e ∧ Below w.heap.size w w' := by
  have HS := Lib.hid hs
  clear hs
  go_enter Try.func56, Try.ntmps56
  go_upto_region 1 with (fail)
  refine name_wp ?_
  intro X hX
  have gX : Blk X w.heap.size 74 #[.int .i64 x.p, .int .i64 x.d] := by rw [hX]; exact Blk.new _ _ _
  have hbX : Below w.heap.size w X := by rw [hX]; exact wa1 _ _
  have lX := gX.lt
  have x0 : X.cell? ⟨w.heap.size, 0, none⟩ = some (.int .i64 x.p) := gX.cell 0
  have x1 : X.cell? ⟨w.heap.size, 1, none⟩ = some (.int .i64 x.d) := gX.cell 1
  have GX := Lib.hid gX
  clear hX gX
  have HBX := Lib.hid hbX
  go_upto_region 2 with (fail)
  clear x0 x1 lX
  go_loopw [8] (fun i WR => ∃ k : Nat, k ≤ l.length ∧ i = .int .i64 k ∧ Hid ((l.take k).any (isT x) = false) ∧ Below X.heap.size X WR) (fun i _ => l.length - (intOf i).toNat)
  case atStart => exact ⟨0, by omega, rfl, by simp [Hid], Below.refl _ _⟩
  case round =>
    obtain ⟨k, hk, rfl, hN, hbr⟩ := hrel
    have HBR := Lib.hid hbr
    by_cases hlt : k < l.length
    · have gR := GX.out.then_ hbr
      have lX := gR.lt
      have x0 : wr.cell? ⟨w.heap.size, 0, none⟩ = some (.int .i64 x.p) := gR.cell 0
      have x1 : wr.cell? ⟨w.heap.size, 1, none⟩ = some (.int .i64 x.d) := gR.cell 1
      obtain ⟨t, ht⟩ : ∃ t, l[k]? = some t := ⟨_, List.getElem?_eq_getElem hlt⟩
      obtain ⟨b, off, ea, hb, c0, c1⟩ := segT (HS.out.below (below_then HBX.out hbr)) ht
      have hbl : b < wr.heap.size := Nat.lt_of_lt_of_le hb (below_then HBX.out hbr).size
      have HT := Lib.hid (take_any (f := isT x) ht)
      have HX := Lib.hid ht
      rw [ea]
      clear ht ea hbX hbr gR
      rcases hbb (x.p == t.p) with hc | hc
      · rcases hbb (x.d == t.d) with hd | hd
        · have HC := Lib.hid (show isT x t = true by unfold isT; rw [hc, hd]; rfl)
          go_upto_region 4 with (fail)
          have rg0 := cell_regrown x0
          have rg1 := cell_regrown x1
          have rg2 := cell_regrown c0
          have rg3 := cell_regrown c1
          refine wp_region_qt [0, 1, 2, 3, 4, 5] [] (by kernel_rfl) (by kernel_rfl) (by repeat (first | with_reducible refine panOk_then ?_ | with_reducible refine panOk_block ?_ | exact panOk_body)) ?_
          simp only [opsAt, List.getElem?_toArray, List.getElem?_cons_succ, List.getElem?_cons_zero, Option.toList_some, List.cons_append, List.nil_append]
          repeat (go_big_quiet_step (fail))
          refine wpQuiet_nil ?_
          intro W2 hw2
          have hbW2 := qt_world hw2
          clear hw2 rg0 rg1 rg2 rg3
          refine wpList_done ?_
          go_wp2
          go_ret
          refine ⟨⟨k, by omega, by omega, rfl, ?_⟩, below_then HBX.out (below_then HBR.out hbW2)⟩
          have : l.any (isT x) = true := List.any_eq_true.2 ⟨t, List.mem_of_getElem? HX.out, HC.out⟩
          rw [this]; simp
        · have HC := Lib.hid (show isT x t = false by unfold isT; rw [hc, hd]; rfl)
          go_upto_region 4 with (fail)
          have rg0 := cell_regrown x0
          have rg1 := cell_regrown x1
          have rg2 := cell_regrown c0
          have rg3 := cell_regrown c1
          refine wp_region_qt [0, 1, 2, 3, 4, 5] [] (by kernel_rfl) (by kernel_rfl) (by repeat (first | with_reducible refine panOk_then ?_ | with_reducible refine panOk_block ?_ | exact panOk_body)) ?_
          simp only [opsAt, List.getElem?_toArray, List.getElem?_cons_succ, List.getElem?_cons_zero, Option.toList_some, List.cons_append, List.nil_append]
          repeat (go_big_quiet_step (fail))
          refine wpQuiet_nil ?_
          intro W2 hw2
          have hbW2 := qt_world hw2
          clear hw2 rg0 rg1 rg2 rg3
          refine wpList_done ?_
          go_wp2
          go_roundw
          case rel => exact ⟨k + 1, by omega, by go_num, by rw [HT.out, hN.out, HC.out]; rfl, below_then HBR.out hbW2⟩
          case measure => simp [intOf]; omega
      · have HC := Lib.hid (show isT x t = false by unfold isT; rw [hc]; rfl)
        go_upto_region 4 with (fail)
        have rg0 := cell_regrown x0
        have rg1 := cell_regrown x1
        have rg2 := cell_regrown c0
        have rg3 := cell_regrown c1
        refine wp_region_qt [0, 1, 2, 3, 4, 5] [] (by kernel_rfl) (by kernel_rfl) (by repeat (first | with_reducible refine panOk_then ?_ | with_reducible refine panOk_block ?_ | exact panOk_body)) ?_
        simp only [opsAt, List.getElem?_toArray, List.getElem?_cons_succ, List.getElem?_cons_zero, Option.toList_some, List.cons_append, List.nil_append]
        repeat (go_big_quiet_step (fail))
        refine wpQuiet_nil ?_
        intro W2 hw2
        have hbW2 := qt_world hw2
        clear hw2 rg0 rg1 rg2 rg3
        refine wpList_done ?_
        go_wp2
        go_roundw
        case rel => exact ⟨k + 1, by omega, by go_num, by rw [HT.out, hN.out, HC.out]; rfl, below_then HBR.out hbW2⟩
        case measure => simp [intOf]; omega
    · obtain rfl : k = l.length := by omega
      go_wp2
      go_ret
      refine ⟨⟨-1, by omega, by omega, rfl, ?_⟩, below_then HBX.out HBR.out⟩
      have := hN.out
      rw [List.take_length] at this
      rw [this]; rfl
theorem any_trg (p : Pf) (x y : Int) : p.tr.any (isT ⟨x, y⟩) = trg p x y := by
  unfold trg
  congr 1
  funext t
  unfold isT
  rw [Bool.beq_comm, Bool.beq_comm (a := y)]
set_option maxRecDepth 100000 in
theorem containsT_any (p : Pf) (m : Ms) (x y : Int) (w : World) (hl : p.tr.length ≤ 400) (hs : Seg w w.heap.size 2 encT m.a5 p.tr) :
    Calls Try.prog 55 #[.slice m.a5 p.tr.length m.c5, .agg #[.int .i64 x, .int .i64 y]] w fun e w' => e = .returned (.bool (trg p x y)) ∧ Below w.heap.size w w' := by
  have HI : Hid (∀ W, Below w.heap.size w W → Calls Try.prog 56 #[.slice m.a5 p.tr.length m.c5, .agg #[.int .i64 x, .int .i64 y]] W fun e w' => IdxT p.tr ⟨x, y⟩ e ∧ Below W.heap.size W w') := fun W hW => idxT_any m.a5 m.c5 p.tr ⟨x, y⟩ W hl ((hs.below hW).more hW.size)
  clear hs
  go_enter Try.func55, Try.ntmps55
  go_upto_region 1 with (fail)
  refine name_wp ?_
  intro X hX
  have gX : Blk X w.heap.size 74 #[.int .i64 x, .int .i64 y] := by rw [hX]; exact Blk.new _ _ _
  have hbX : Below w.heap.size w X := by rw [hX]; exact wa1 _ _
  have x0 : X.cell? ⟨w.heap.size, 0, none⟩ = some (.int .i64 x) := gX.cell 0
  have x1 : X.cell? ⟨w.heap.size, 1, none⟩ = some (.int .i64 y) := gX.cell 1
  clear hX gX
  go_wp2_with (go_at_call 56; (with_reducible refine (HI.out _ hbX).mono ?_); rintro e w1 ⟨⟨r, r1, r2, rfl, hr⟩, hk⟩; have HR := Lib.hid hr; clear hr)
  go_ret
  exact ⟨ret_bool (by rw [HR.out, any_trg]), below_then hbX hk⟩
set_option maxRecDepth 100000 in
theorem bears1_any (p : Pf) (m : Ms) (x y : Int) (bP bX : Nat) (w : World) (hl : p.tr.length ≤ 400) (hs : Seg w w.heap.size 2 encT m.a5 p.tr) (gP : Blk w bP 27 (pfA p m)) (gX : Blk w bX 3 #[.int .i64 x]) :
    Calls Try.prog 54 #[.int .i64 y, .pointer (some ⟨bP, 0, none⟩), .pointer (some ⟨bX, 0, none⟩)] w fun e w' => e = .returned (.bool (trg p x y)) ∧ Below w.heap.size w w' := by
  have HC := Lib.hid (containsT_any p m x y w hl hs)
  obtain ⟨_, _, _, _, _, k5⟩ := pfCells gP
  have x0 : w.cell? ⟨bX, 0, none⟩ = some (.int .i64 x) := gX.cell 0
  clear gP gX hs
  go_enter Try.func54, Try.ntmps54
  go_wp2_with (go_at_call 55; (with_reducible refine HC.out.mono ?_); rintro e w1 ⟨rfl, hk⟩)
  go_ret
  exact ⟨rfl, hk⟩
end Go.Proofs.Yteoicnhnpailiaa
