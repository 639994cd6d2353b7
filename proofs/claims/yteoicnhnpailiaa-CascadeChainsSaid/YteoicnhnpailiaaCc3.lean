/- The walks of the laws' helpers: over, Few, Bools. -/
import Derived.Test.YteoicnhnpailiaaCc1
namespace Go.Proofs.Yteoicnhnpailiaa
open Go.RowKit Go.Sort

theorem wpList_done {P : Program} {ops : Array Oper} {Q : Exit → Act → World → Prop} {a : Act} {w : World} (h : Q .normal a w) : wpList P ops Q [] a w := h
theorem tup_bb {a b a' b' : Bool} (h1 : a = a') (h2 : b = b') : Ending.returned (.tuple #[.bool a, .bool b]) = .returned (.tuple #[.bool a', .bool b']) := by rw [h1, h2]
set_option maxRecDepth 100000 in
set_option maxHeartbeats 3200000 in
theorem over_any (p : Pf) (m : Ms) (i : Int) (d : List Bool) (A : Option Addr) (c : Nat) (w : World) (hv : VP p) (hm : Pm w p m) (hi : 0 ≤ i ∧ i < p.n) (hd : (d.length : Int) = p.n) (hs : Seg w w.heap.size 1 encB A d) :
    Calls Try.prog 15 #[.agg (pfA p m), .int .i64 i, .slice A d.length c] w fun e w' => e = .returned (.tuple #[.bool (ovr p (pad d) i), .bool (ow p (pad d) i).isSome]) ∧ Below w.heap.size w w' := by
  obtain ⟨o, ho⟩ : ∃ o, ow p (pad d) i = o := ⟨_, rfl⟩
  have HOW : Hid (∀ W, Below w.heap.size w W → Calls Try.prog 17 #[.agg (pfA p m), .int .i64 i, .slice A d.length c] W fun e w' => e = .returned (.tuple #[.agg #[.int .i64 (stN o), .int .i64 (stD o)], .int .i64 (stE o)]) ∧ Below W.heap.size W w') := fun W hW => by
    have := Owed_any p m i d A c W hv (hm.then_ hW) hi hd ((hs.below hW).more hW.size)
    rw [ho] at this
    exact this
  have HV := Lib.hid hv
  have HM := Lib.hid hm
  have HOO := Lib.hid ho
  obtain ⟨i0, i1⟩ := hi
  have nl := hv.len
  clear hv hm hs ho
  go_enter Try.func15, Try.ntmps15
  go_upto_region 1 with (fail)
  refine name_wp ?_
  intro X hX
  have gP : Blk X w.heap.size 27 (pfA p m) := by rw [hX]; exact Blk.new _ _ _
  have hbX : Below w.heap.size w X := by rw [hX]; exact wa1 _ _
  obtain ⟨bP, e0⟩ : ∃ b, w.heap.size = b := ⟨_, rfl⟩
  rw [e0] at gP ⊢
  obtain ⟨k0, k1, k2, k3, k4, k5⟩ := pfCells gP
  have GP := Lib.hid gP
  have HX := Lib.hid hbX
  clear hX gP hbX e0
  cases o with
  | none =>
    simp only [stN, stD, stE] at HOW
    go_wp2_with (go_at_call 17; with_reducible refine (HOW.out _ HX.out).mono ?_; rintro e w1 ⟨rfl, hk⟩)
    go_ret2
    refine ⟨tup_bb ?_ ?_, below_alloc (below_then HX.out hk) _⟩
    · unfold ovr; rw [HOO.out]
    · rw [HOO.out]; rfl
  | some q =>
    simp only [stN, stD, stE] at HOW
    obtain ⟨j, rfl⟩ := Int.eq_ofNat_of_zero_le i0
    obtain ⟨x, hx⟩ : ∃ x, p.as[j]? = some x := ⟨_, List.getElem?_eq_getElem (by omega)⟩
    obtain ⟨r, r1, r2, r3⟩ := rat_of_vld (HV.out.as x (List.mem_of_getElem? hx)).1
    have hr : asQ p j = r := by unfold asQ; rw [hx]; show Rat.divInt x.1 x.2 = r; rw [← r2, ← r3, Rat.num_divInt_den]
    have hq : inR q = true := ow_inR HOO.out
    obtain ⟨c', hc⟩ : ∃ c, cmpN q r = c := ⟨_, rfl⟩
    have HCM : Hid (∀ W, Calls Try.prog 18 #[.agg #[.int .i64 q.num, .int .i64 q.den], .agg #[.int .i64 x.1, .int .i64 x.2]] W fun e w' => e = .returned (.int .i64 c') ∧ Below W.heap.size W w') := fun W => by
      have := cmp_any q r W hq r1
      rwa [hc, r2, r3] at this
    have HCV : Hid (decide (0 < c') = ovr p (pad d) j) := by
      rw [Hid, ovr_some HOO.out, Int.toNat_natCast, hr, ← hc]
      unfold cmpN
      by_cases h1 : q < r
      · simp [h1, Rat.not_lt.2 (Rat.le_of_lt h1)]
      · by_cases h2 : r < q
        · simp [h1, h2]
        · simp [h1, h2]
    have HXA := Lib.hid hx
    clear hx r1 r2 r3 hr hq hc
    go_upto_region 4 with (go_at_call 17; with_reducible refine (HOW.out _ HX.out).mono ?_; rintro e w1 ⟨rfl, hk⟩; have k0' := (pfCells (GP.out.then_ hk)); obtain ⟨k0, k1, k2, k3, k4, k5⟩ := k0'; have lp1 := (GP.out.then_ hk).lt)
    refine name_wp ?_
    intro Y hY
    have hbY : Below w.heap.size w Y := by rw [hY]; exact below_alloc (below_then HX.out hk) _
    have gp : Blk Y bP 27 (pfA p m) := by rw [hY]; exact (GP.out.then_ hk).alloc _
    have gy : Blk Y w1.heap.size 44 #[.int .i64 q.num, .int .i64 q.den] := by rw [hY]; exact Blk.new _ _ _
    obtain ⟨y0, y1, _, _⟩ := gy.two
    obtain ⟨b, off, ea, hb, x0, x1⟩ := segA (HM.out.s1.below hbY) HXA.out
    have hbl : b < Y.heap.size := Nat.lt_of_lt_of_le hb hbY.size
    have HBY := Lib.hid hbY
    clear hY k0 k1 k2 k3 k4 k5 hk
    obtain ⟨k0, k1, k2, k3, k4, k5⟩ := pfCells gp
    rw [ea] at k1
    clear gp gy ea hbY
    have rg0 := cell_regrown y0
    have rg1 := cell_regrown y1
    have rg2 := cell_regrown k1
    have rg3 := cell_regrown x0
    have rg4 := cell_regrown x1
    refine wp_region_qt [0, 1, 2, 3, 4, 5, 6, 7, 8, 9] [] (by kernel_rfl) (by kernel_rfl) (by repeat (first | with_reducible refine panOk_then ?_ | with_reducible refine panOk_block ?_ | exact panOk_body)) ?_
    simp only [opsAt, List.getElem?_toArray, List.getElem?_cons_succ, List.getElem?_cons_zero, Option.toList_some, List.cons_append, List.nil_append]
    repeat (go_big_quiet_step ((go_at_call 18; exact qt_call (fun W' _ => HCM.out W') _ _)))
    refine wpQuiet_nil ?_
    intro W2 hw2
    have hbW2 := qt_world hw2
    clear hw2 rg0 rg1 rg2 rg3 rg4
    refine wpList_done ?_
    go_wp2
    go_ret2
    exact ⟨tup_bb HCV.out (by rw [HOO.out]; rfl), HBY.out.trans (hbW2.mono HBY.out.size)⟩
end Go.Proofs.Yteoicnhnpailiaa
