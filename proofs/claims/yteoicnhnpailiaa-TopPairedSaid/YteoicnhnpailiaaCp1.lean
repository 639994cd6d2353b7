/- The walks of TopPaired's helpers: quantity.Covers at equal positions, w21Within, w21Of. -/
import Derived.Test.YteoicnhnpailiaaN10
import Derived.Test.YteoicnhnpailiaaCc4
import Derived.Test.YteoicnhnpailiaaCc2
namespace Go.Proofs.Yteoicnhnpailiaa
open Go.RowKit Go.Sort

theorem segR {w : World} {B : Nat} {A : Option Addr} {l : List Rat} {k : Nat} {x : Rat} (h : Seg w B 2 encR A l) (hx : l[k]? = some x) :
    ∃ b off, A = some ⟨b, off, none⟩ ∧ b < B ∧ w.cell? ⟨b, off + k * 2, none⟩ = some (.int .i64 x.num) ∧ w.cell? ⟨b, off + k * 2 + 1, none⟩ = some (.int .i64 x.den) := by
  obtain ⟨b, off, e, hb, hc⟩ := h k x hx
  exact ⟨b, off, e, hb, hc 0 _ rfl, hc 1 _ rfl⟩
set_option maxRecDepth 100000 in
set_option maxHeartbeats 3200000 in
theorem covers_eq (A B : Option Addr) (c d : Nat) (l : List Rat) (w : World) (hl : l.length ≤ 1000) (hq : ∀ q ∈ l, inR q = true) (hA : Seg w w.heap.size 2 encR A l) (hB : Seg w w.heap.size 2 encR B l) :
    Calls Try.prog 26 #[.slice A l.length c, .slice B l.length d] w fun e w' => e = .returned (.bool true) ∧ Below w.heap.size w w' := by
  have HA := Lib.hid hA
  have HB := Lib.hid hB
  have HQ := Lib.hid hq
  clear hA hB hq
  go_enter Try.func26, Try.ntmps26
  go_upto_region 4 with (fail)
  go_loopw [13] (fun x WR => ∃ k : Nat, k ≤ l.length ∧ x = .int .i64 k ∧ Below w.heap.size w WR) (fun x _ => 2000 - (intOf x).toNat)
  case atStart => exact ⟨0, by omega, rfl, Below.refl _ _⟩
  case round =>
    obtain ⟨k, hk, rfl, hbr⟩ := hrel
    have HBR := Lib.hid hbr
    by_cases hlt : k < l.length
    · obtain ⟨q, hx⟩ : ∃ q, l[k]? = some q := ⟨_, List.getElem?_eq_getElem hlt⟩
      have iq := HQ.out q (List.mem_of_getElem? hx)
      obtain ⟨b1, o1, ea, hb1, x0, x1⟩ := segR (HA.out.below hbr) hx
      obtain ⟨b2, o2, eb, hb2, y0, y1⟩ := segR (HB.out.below hbr) hx
      have hbl1 : b1 < wr.heap.size := Nat.lt_of_lt_of_le hb1 hbr.size
      have hbl2 : b2 < wr.heap.size := Nat.lt_of_lt_of_le hb2 hbr.size
      have bd := inR_bd iq
      have HV : Hid (∀ W, Calls Try.prog 32 #[.agg #[.int .i64 q.num, .int .i64 q.den]] W fun e w' => e = .returned (.bool true) ∧ Below W.heap.size W w') := fun W => by
        have := valid_any q.num q.den W (by omega) (by omega) (by omega) (by omega)
        rwa [inR_vld iq] at this
      have HC : Hid (∀ W, Calls Try.prog 18 #[.agg #[.int .i64 q.num, .int .i64 q.den], .agg #[.int .i64 q.num, .int .i64 q.den]] W fun e w' => e = .returned (.int .i64 0) ∧ Below W.heap.size W w') := fun W => by
        have := cmp_any q q W iq iq
        rwa [show cmpN q q = 0 by unfold cmpN; rw [if_neg Rat.lt_irrefl, if_neg Rat.lt_irrefl]] at this
      rw [ea, eb]
      clear hx ea eb hbr bd iq
      go_upto_region 6 with (fail)
      have rg0 := cell_regrown x0
      have rg1 := cell_regrown x1
      have rg2 := cell_regrown y0
      have rg3 := cell_regrown y1
      refine wp_region_qt [0, 1, 2, 3, 4, 5, 6, 7, 8, 9, 10, 11, 12, 13, 14, 15, 16, 17, 18, 19, 20, 21, 22, 23, 24, 25] [] (by kernel_rfl) (by kernel_rfl) (by repeat (first | with_reducible refine panOk_then ?_ | with_reducible refine panOk_block ?_ | exact panOk_body)) ?_
      simp only [opsAt, List.getElem?_toArray, List.getElem?_cons_succ, List.getElem?_cons_zero, Option.toList_some, List.cons_append, List.nil_append]
      repeat (go_big_quiet_step ((first | (go_at_call 32; exact qt_call (fun W' _ => HV.out W') _ _) | (go_at_call 18; exact qt_call (fun W' _ => HC.out W') _ _))))
      refine wpQuiet_nil ?_
      intro W2 hw2
      have hbW2 := qt_world hw2
      clear hw2 rg0 rg1 rg2 rg3
      refine wpList_done ?_
      go_wp2
      go_roundw
      case rel => exact ⟨k + 1, by omega, by go_num, HBR.out.trans (hbW2.mono HBR.out.size)⟩
      case measure => simp [intOf]; omega
    · go_wp2
      go_ret
      exact ⟨rfl, HBR.out⟩
set_option maxRecDepth 100000 in
set_option maxHeartbeats 3200000 in
theorem within_any (A B : Option Addr) (c d : Nat) (l m : List Bool) (w : World) (hl : l.length ≤ 1000) (hm : m.length = l.length) (hw : ∀ k : Nat, l[k]? = some true → m[k]? = some true) (hA : Seg w w.heap.size 1 encB A l) (hB : Seg w w.heap.size 1 encB B m) :
    Calls Try.prog 27 #[.slice A l.length c, .slice B m.length d] w fun e w' => e = .returned (.bool true) ∧ Below w.heap.size w w' := by
  have HA := Lib.hid hA
  have HB := Lib.hid hB
  have HW := Lib.hid hw
  rw [hm]
  clear hA hB hw
  go_enter Try.func27, Try.ntmps27
  go_upto_region 2 with (fail)
  go_loopw [5] (fun x WR => ∃ k : Nat, k ≤ l.length ∧ x = .int .i64 k ∧ Below w.heap.size w WR) (fun x _ => 2000 - (intOf x).toNat)
  case atStart => exact ⟨0, by omega, rfl, Below.refl _ _⟩
  case round =>
    obtain ⟨k, hk, rfl, hbr⟩ := hrel
    have HBR := Lib.hid hbr
    by_cases hlt : k < l.length
    · obtain ⟨x, hx⟩ : ∃ x, l[k]? = some x := ⟨_, List.getElem?_eq_getElem hlt⟩
      obtain ⟨y, hy⟩ : ∃ y, m[k]? = some y := ⟨_, List.getElem?_eq_getElem (by omega)⟩
      obtain ⟨b1, o1, ea, hb1, x0⟩ := segB (HA.out.below hbr) hx
      obtain ⟨b2, o2, eb, hb2, y0⟩ := segB (HB.out.below hbr) hy
      have hbl1 : b1 < wr.heap.size := Nat.lt_of_lt_of_le hb1 hbr.size
      have hbl2 : b2 < wr.heap.size := Nat.lt_of_lt_of_le hb2 hbr.size
      have hxy : x = true → y = true := fun h => by
        subst h
        have := HW.out k hx
        rw [hy] at this
        exact Option.some.inj this
      have HXY := Lib.hid hxy
      rw [ea, eb]
      clear hx hy ea eb hbr hxy
      cases x
      · go_wp2
        go_roundw
        case rel => exact ⟨k + 1, by omega, by go_num, HBR.out⟩
        case measure => simp [intOf]; omega
      · obtain rfl := HXY.out rfl
        go_wp2
        go_roundw
        case rel => exact ⟨k + 1, by omega, by go_num, HBR.out⟩
        case measure => simp [intOf]; omega
    · go_wp2
      go_ret
      exact ⟨ret_bool (by simp), HBR.out⟩
theorem w21of_any (n : Int) (w : World) : Calls Try.prog 42 #[.int .i64 n] w fun e w' => e = .returned (.agg #[.int .i64 n, .int .i64 1]) ∧ Below w.heap.size w w' := by
  go_enter Try.func42, Try.ntmps42
  go_wp2
  refine bodyPost_ret (ret_rat1 rfl rfl (Blk.new _ _ _)) rfl ⟨rfl, wa1 _ _⟩
end Go.Proofs.Yteoicnhnpailiaa
