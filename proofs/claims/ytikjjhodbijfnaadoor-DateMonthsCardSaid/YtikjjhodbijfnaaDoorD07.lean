/- The walk of date.count. -/
import Derived.Test.YtikjjhodbijfnaaDoorD06
namespace Go.Proofs.YtikjjhodbijfnaaDoor
open Go.RowKit Go.Sort

theorem hgo_bd {c : Cld} {b : Int} : ∀ {l : List Int}, 0 ≤ hgo c b l ∧ hgo c b l ≤ l.length
  | [] => by simp [hgo]
  | h :: r => by
    have := hgo_bd (c := c) (b := b) (l := r)
    have := b2i_01 (work c h)
    unfold hgo
    split <;> simp <;> omega
theorem openN_bd (l : List Bool) : 0 ≤ openN l ∧ openN l ≤ l.length := by
  have h : ∀ (l : List Bool) (z : Int), 0 ≤ (l.map fun b => b2i !b).foldl (· + ·) z - z ∧ (l.map fun b => b2i !b).foldl (· + ·) z - z ≤ l.length := by
    intro l
    induction l with
    | nil => intro z; simp
    | cons b l ih => intro z; have := ih (z + b2i !b); have := b2i_01 (!b); simp only [List.map_cons, List.foldl_cons, List.length_cons]; omega
  have := h l 0
  unfold openN
  omega
theorem openN_snoc (l : List Bool) (b : Bool) : openN (l ++ [b]) = openN l + b2i !b := by simp [openN]
theorem openN_take {wk : List Bool} {k : Nat} {x : Bool} (h : wk[k]? = some x) : openN (wk.take (k + 1)) = openN (wk.take k) + b2i !x := by
  obtain ⟨hk, rfl⟩ := List.getElem?_eq_some_iff.1 h
  rw [List.take_succ_eq_append_getElem hk, openN_snoc]
theorem cnt_stepD {f : Int → Bool} {s D : Nat} (h : s ≤ D) : cnt f s (D + 1 - s) = cnt f s (D - s) + b2i (f D) := by
  rw [Nat.succ_sub h, cnt, show ((s : Int) + ((D - s : Nat) : Int)) = D by omega]
set_option maxHeartbeats 3200000 in
theorem count_any (b0 b1 b2 b3 b4 b5 b6 : Bool) (A : Option Addr) (hs : List Int) (c : Nat) (w : World) (a n : Nat) (hl : hs.length ≤ 400) (hc : hs.length ≤ c) (hp : hs.Pairwise (· < ·)) (hr : ∀ x ∈ hs, 0 ≤ x ∧ x ≤ 73048)
    (hA : A = none → c = 0) (ha : a + n ≤ 73049) (hm : Seg w w.heap.size 1 encI A hs) :
    Calls Tryd.prog 27 #[.agg (calA b0 b1 b2 b3 b4 b5 b6 (.slice A hs.length c)), .int .i64 a, .int .i64 (a + n)] w fun e w' => e = .returned (.int .i64 (cnt (bizC ⟨[b0, b1, b2, b3, b4, b5, b6], hs⟩) a n)) ∧ Below w.heap.size w w' := by
  obtain ⟨wk, hwk⟩ : ∃ wk, wk = [b0, b1, b2, b3, b4, b5, b6] := ⟨_, rfl⟩
  rw [← hwk]
  obtain ⟨r, hr'⟩ : ∃ r, r = cnt (bizC ⟨wk, hs⟩) a n := ⟨_, rfl⟩
  rw [← hr']
  have hbd := cnt_bd (bizC ⟨wk, hs⟩) a n
  rw [← hr'] at hbd
  rw [count_code (by rw [hwk]; rfl) hp] at hr'
  have HR := Lib.hid hr'
  have HW := Lib.hid hwk
  have HP := Lib.hid hp
  have HH := Lib.hid hr
  clear hr' hp hr hwk
  have HM := Lib.hid hm
  clear hm
  go_enter Tryd.func27, Tryd.ntmps27
  go_upto_region 1 with (fail)
  refine name_wp ?_
  intro X hX
  have gX : Blk X w.heap.size 39 (calA b0 b1 b2 b3 b4 b5 b6 (.slice A hs.length c)) := by rw [hX]; exact Blk.new _ _ _
  have hbX : Below w.heap.size w X := by rw [hX]; exact below_alloc (Below.refl _ _) _
  have HS := Lib.hid ((HM.out.keep (w' := X) (bcell hbX).1).more hbX.size)
  have c0 : X.cell? ⟨w.heap.size, 0, none⟩ = some (.bool b0) := gX.cell 0
  have c1 : X.cell? ⟨w.heap.size, 1, none⟩ = some (.bool b1) := gX.cell 1
  have c2 : X.cell? ⟨w.heap.size, 2, none⟩ = some (.bool b2) := gX.cell 2
  have c3 : X.cell? ⟨w.heap.size, 3, none⟩ = some (.bool b3) := gX.cell 3
  have c4 : X.cell? ⟨w.heap.size, 4, none⟩ = some (.bool b4) := gX.cell 4
  have c5 : X.cell? ⟨w.heap.size, 5, none⟩ = some (.bool b5) := gX.cell 5
  have c6 : X.cell? ⟨w.heap.size, 6, none⟩ = some (.bool b6) := gX.cell 6
  have c7 : X.cell? ⟨w.heap.size, 7, none⟩ = some (.slice A hs.length c) := gX.cell 7
  clear hX HM gX
  go_wp2
  go_loop [7, 9, 19] (fun o _ b => ∃ (k : Nat) (z : Int), k ≤ 7 ∧ o = .int .i64 z ∧ b = .int .i64 k ∧ 0 ≤ z ∧ z ≤ k ∧ Hid (z = openN (wk.take k))) (fun _ _ b => 7 - (intOf b).toNat)
  case atStart => exact ⟨0, 0, by omega, rfl, rfl, by omega, by omega, rfl⟩
  case round =>
    obtain ⟨k, z, hk, rfl, rfl, z1, z2, hz⟩ := hrel
    rcases (show k = 0 ∨ k = 1 ∨ k = 2 ∨ k = 3 ∨ k = 4 ∨ k = 5 ∨ k = 6 ∨ k = 7 by omega) with rfl | rfl | rfl | rfl | rfl | rfl | rfl | rfl
    · have HO := Lib.hid (openN_take (wk := wk) (k := 0) (x := b0) (by rw [HW.out]; rfl))
      have ix : ∀ w, (Instr.index 36 (.agg #[.bool b0, .bool b1, .bool b2, .bool b3, .bool b4, .bool b5, .bool b6]) (.int .i64 0)).run Tryd.prog w = .ok (.bool b0) w := fun _ => by kernel_rfl
      cases b0
      · go_wp2
        go_round
        case rel => exact ⟨1, z + 1, by omega, rfl, rfl, by omega, by omega, by rw [HO.out, ← hz.out]; rfl⟩
        case measure => simp [intOf]
      · go_wp2
        go_round
        case rel => exact ⟨1, z, by omega, rfl, rfl, by omega, by omega, by rw [HO.out, ← hz.out]; exact (Int.add_zero z).symm⟩
        case measure => simp [intOf]
    · have HO := Lib.hid (openN_take (wk := wk) (k := 1) (x := b1) (by rw [HW.out]; rfl))
      have ix : ∀ w, (Instr.index 36 (.agg #[.bool b0, .bool b1, .bool b2, .bool b3, .bool b4, .bool b5, .bool b6]) (.int .i64 1)).run Tryd.prog w = .ok (.bool b1) w := fun _ => by kernel_rfl
      cases b1
      · go_wp2
        go_round
        case rel => exact ⟨2, z + 1, by omega, rfl, rfl, by omega, by omega, by rw [HO.out, ← hz.out]; rfl⟩
        case measure => simp [intOf]
      · go_wp2
        go_round
        case rel => exact ⟨2, z, by omega, rfl, rfl, by omega, by omega, by rw [HO.out, ← hz.out]; exact (Int.add_zero z).symm⟩
        case measure => simp [intOf]
    · have HO := Lib.hid (openN_take (wk := wk) (k := 2) (x := b2) (by rw [HW.out]; rfl))
      have ix : ∀ w, (Instr.index 36 (.agg #[.bool b0, .bool b1, .bool b2, .bool b3, .bool b4, .bool b5, .bool b6]) (.int .i64 2)).run Tryd.prog w = .ok (.bool b2) w := fun _ => by kernel_rfl
      cases b2
      · go_wp2
        go_round
        case rel => exact ⟨3, z + 1, by omega, rfl, rfl, by omega, by omega, by rw [HO.out, ← hz.out]; rfl⟩
        case measure => simp [intOf]
      · go_wp2
        go_round
        case rel => exact ⟨3, z, by omega, rfl, rfl, by omega, by omega, by rw [HO.out, ← hz.out]; exact (Int.add_zero z).symm⟩
        case measure => simp [intOf]
    · have HO := Lib.hid (openN_take (wk := wk) (k := 3) (x := b3) (by rw [HW.out]; rfl))
      have ix : ∀ w, (Instr.index 36 (.agg #[.bool b0, .bool b1, .bool b2, .bool b3, .bool b4, .bool b5, .bool b6]) (.int .i64 3)).run Tryd.prog w = .ok (.bool b3) w := fun _ => by kernel_rfl
      cases b3
      · go_wp2
        go_round
        case rel => exact ⟨4, z + 1, by omega, rfl, rfl, by omega, by omega, by rw [HO.out, ← hz.out]; rfl⟩
        case measure => simp [intOf]
      · go_wp2
        go_round
        case rel => exact ⟨4, z, by omega, rfl, rfl, by omega, by omega, by rw [HO.out, ← hz.out]; exact (Int.add_zero z).symm⟩
        case measure => simp [intOf]
    · have HO := Lib.hid (openN_take (wk := wk) (k := 4) (x := b4) (by rw [HW.out]; rfl))
      have ix : ∀ w, (Instr.index 36 (.agg #[.bool b0, .bool b1, .bool b2, .bool b3, .bool b4, .bool b5, .bool b6]) (.int .i64 4)).run Tryd.prog w = .ok (.bool b4) w := fun _ => by kernel_rfl
      cases b4
      · go_wp2
        go_round
        case rel => exact ⟨5, z + 1, by omega, rfl, rfl, by omega, by omega, by rw [HO.out, ← hz.out]; rfl⟩
        case measure => simp [intOf]
      · go_wp2
        go_round
        case rel => exact ⟨5, z, by omega, rfl, rfl, by omega, by omega, by rw [HO.out, ← hz.out]; exact (Int.add_zero z).symm⟩
        case measure => simp [intOf]
    · have HO := Lib.hid (openN_take (wk := wk) (k := 5) (x := b5) (by rw [HW.out]; rfl))
      have ix : ∀ w, (Instr.index 36 (.agg #[.bool b0, .bool b1, .bool b2, .bool b3, .bool b4, .bool b5, .bool b6]) (.int .i64 5)).run Tryd.prog w = .ok (.bool b5) w := fun _ => by kernel_rfl
      cases b5
      · go_wp2
        go_round
        case rel => exact ⟨6, z + 1, by omega, rfl, rfl, by omega, by omega, by rw [HO.out, ← hz.out]; rfl⟩
        case measure => simp [intOf]
      · go_wp2
        go_round
        case rel => exact ⟨6, z, by omega, rfl, rfl, by omega, by omega, by rw [HO.out, ← hz.out]; exact (Int.add_zero z).symm⟩
        case measure => simp [intOf]
    · have HO := Lib.hid (openN_take (wk := wk) (k := 6) (x := b6) (by rw [HW.out]; rfl))
      have ix : ∀ w, (Instr.index 36 (.agg #[.bool b0, .bool b1, .bool b2, .bool b3, .bool b4, .bool b5, .bool b6]) (.int .i64 6)).run Tryd.prog w = .ok (.bool b6) w := fun _ => by kernel_rfl
      cases b6
      · go_wp2
        go_round
        case rel => exact ⟨7, z + 1, by omega, rfl, rfl, by omega, by omega, by rw [HO.out, ← hz.out]; rfl⟩
        case measure => simp [intOf]
      · go_wp2
        go_round
        case rel => exact ⟨7, z, by omega, rfl, rfl, by omega, by omega, by rw [HO.out, ← hz.out]; exact (Int.add_zero z).symm⟩
        case measure => simp [intOf]
    · have hz' : z = openN wk := by rw [hz.out, HW.out]; rfl
      obtain ⟨q, hq⟩ : ∃ q : Nat, q = n / 7 := ⟨_, rfl⟩
      obtain ⟨m, hm⟩ : ∃ m : Nat, m = n % 7 := ⟨_, rfl⟩
      obtain ⟨s, hs'⟩ : ∃ s : Nat, s = a + q * 7 := ⟨_, rfl⟩
      have hsm : s + m = a + n := by omega
      have hm7 : m < 7 := by omega
      have HQ := Lib.hid (show ((a : Int) + n - a) / 7 = q by omega)
      have HS' := Lib.hid (show ((a : Int) + q * 7) = s by omega)
      have hRR := HR.out
      rw [← hq, ← hm, show (a : Int) + ((q * 7 : Nat) : Int) = s by omega, ← hz'] at hRR
      have hqb : (q : Int) ≤ 20000 := by omega
      clear hs' hq hm hz HR hz'
      obtain ⟨t, ht⟩ : ∃ t, (q : Int) * z = t := ⟨_, rfl⟩
      have ht0 : 0 ≤ t := by rw [← ht]; exact Int.mul_nonneg (by omega) z1
      have ht1 : t ≤ 140000 := by
        rw [← ht]
        exact Int.le_trans (Int.mul_le_mul_of_nonneg_left z2 (by omega)) (by omega)
      rw [ht] at hRR
      have HR := Lib.hid hRR
      have HT := Lib.hid ht
      clear hRR ht
      go_upto_region 9 with (fail)
      rw [HQ.out]
      go_upto_region 11 with (fail)
      rw [HT.out, show wrap64 t = t by (unfold wrap64; omega), HS'.out]
      have HSM := Lib.hid (show ((s : Int) + m) = a + n by omega)
      clear HT HQ
      go_loop [11, 12] (fun o d => ∃ (D : Nat) (u : Int), s ≤ D ∧ D ≤ a + n ∧ o = .int .i64 u ∧ d = .int .i64 D ∧ 0 ≤ u ∧ u ≤ 200000 ∧ Hid (u = t + cnt (work ⟨wk, hs⟩) s (D - s))) (fun _ d => a + n - (intOf d).toNat)
      case atStart => exact ⟨s, t, by omega, by omega, rfl, rfl, by omega, by omega, by rw [Nat.sub_self]; exact (Int.add_zero t).symm⟩
      case round =>
        obtain ⟨D, u, D1, D2, rfl, rfl, u1, u2, hu⟩ := hrel
        by_cases hlt : D < a + n
        · rcases (show (D : Int) % 7 = 0 ∨ (D : Int) % 7 = 1 ∨ (D : Int) % 7 = 2 ∨ (D : Int) % 7 = 3 ∨ (D : Int) % 7 = 4 ∨ (D : Int) % 7 = 5 ∨ (D : Int) % 7 = 6 by omega) with e | e | e | e | e | e | e
          · have HO := Lib.hid (show cnt (work ⟨wk, hs⟩) s (D + 1 - s) = cnt (work ⟨wk, hs⟩) s (D - s) + b2i (!b0) by
              rw [cnt_stepD D1, show work ⟨wk, hs⟩ D = !b0 from by show (!((wk[((D : Int) % 7).toNat]?).getD true)) = _; rw [e, HW.out]; rfl])
            cases b0
            · go_wp2
              go_round
              case rel => exact ⟨D + 1, u + 1, by omega, by omega, rfl, by go_num, by omega, by have := cnt_bd (work ⟨wk, hs⟩) s (D - s); have := hu.out; omega, by rw [HO.out, hu.out]; exact Int.add_assoc _ _ _⟩
              case measure => simp [intOf]; omega
            · go_wp2
              go_round
              case rel => exact ⟨D + 1, u, by omega, by omega, rfl, by go_num, by omega, by omega, by rw [HO.out, hu.out]; exact congrArg _ (Int.add_zero _).symm⟩
              case measure => simp [intOf]; omega
          · have HO := Lib.hid (show cnt (work ⟨wk, hs⟩) s (D + 1 - s) = cnt (work ⟨wk, hs⟩) s (D - s) + b2i (!b1) by
              rw [cnt_stepD D1, show work ⟨wk, hs⟩ D = !b1 from by show (!((wk[((D : Int) % 7).toNat]?).getD true)) = _; rw [e, HW.out]; rfl])
            cases b1
            · go_wp2
              go_round
              case rel => exact ⟨D + 1, u + 1, by omega, by omega, rfl, by go_num, by omega, by have := cnt_bd (work ⟨wk, hs⟩) s (D - s); have := hu.out; omega, by rw [HO.out, hu.out]; exact Int.add_assoc _ _ _⟩
              case measure => simp [intOf]; omega
            · go_wp2
              go_round
              case rel => exact ⟨D + 1, u, by omega, by omega, rfl, by go_num, by omega, by omega, by rw [HO.out, hu.out]; exact congrArg _ (Int.add_zero _).symm⟩
              case measure => simp [intOf]; omega
          · have HO := Lib.hid (show cnt (work ⟨wk, hs⟩) s (D + 1 - s) = cnt (work ⟨wk, hs⟩) s (D - s) + b2i (!b2) by
              rw [cnt_stepD D1, show work ⟨wk, hs⟩ D = !b2 from by show (!((wk[((D : Int) % 7).toNat]?).getD true)) = _; rw [e, HW.out]; rfl])
            cases b2
            · go_wp2
              go_round
              case rel => exact ⟨D + 1, u + 1, by omega, by omega, rfl, by go_num, by omega, by have := cnt_bd (work ⟨wk, hs⟩) s (D - s); have := hu.out; omega, by rw [HO.out, hu.out]; exact Int.add_assoc _ _ _⟩
              case measure => simp [intOf]; omega
            · go_wp2
              go_round
              case rel => exact ⟨D + 1, u, by omega, by omega, rfl, by go_num, by omega, by omega, by rw [HO.out, hu.out]; exact congrArg _ (Int.add_zero _).symm⟩
              case measure => simp [intOf]; omega
          · have HO := Lib.hid (show cnt (work ⟨wk, hs⟩) s (D + 1 - s) = cnt (work ⟨wk, hs⟩) s (D - s) + b2i (!b3) by
              rw [cnt_stepD D1, show work ⟨wk, hs⟩ D = !b3 from by show (!((wk[((D : Int) % 7).toNat]?).getD true)) = _; rw [e, HW.out]; rfl])
            cases b3
            · go_wp2
              go_round
              case rel => exact ⟨D + 1, u + 1, by omega, by omega, rfl, by go_num, by omega, by have := cnt_bd (work ⟨wk, hs⟩) s (D - s); have := hu.out; omega, by rw [HO.out, hu.out]; exact Int.add_assoc _ _ _⟩
              case measure => simp [intOf]; omega
            · go_wp2
              go_round
              case rel => exact ⟨D + 1, u, by omega, by omega, rfl, by go_num, by omega, by omega, by rw [HO.out, hu.out]; exact congrArg _ (Int.add_zero _).symm⟩
              case measure => simp [intOf]; omega
          · have HO := Lib.hid (show cnt (work ⟨wk, hs⟩) s (D + 1 - s) = cnt (work ⟨wk, hs⟩) s (D - s) + b2i (!b4) by
              rw [cnt_stepD D1, show work ⟨wk, hs⟩ D = !b4 from by show (!((wk[((D : Int) % 7).toNat]?).getD true)) = _; rw [e, HW.out]; rfl])
            cases b4
            · go_wp2
              go_round
              case rel => exact ⟨D + 1, u + 1, by omega, by omega, rfl, by go_num, by omega, by have := cnt_bd (work ⟨wk, hs⟩) s (D - s); have := hu.out; omega, by rw [HO.out, hu.out]; exact Int.add_assoc _ _ _⟩
              case measure => simp [intOf]; omega
            · go_wp2
              go_round
              case rel => exact ⟨D + 1, u, by omega, by omega, rfl, by go_num, by omega, by omega, by rw [HO.out, hu.out]; exact congrArg _ (Int.add_zero _).symm⟩
              case measure => simp [intOf]; omega
          · have HO := Lib.hid (show cnt (work ⟨wk, hs⟩) s (D + 1 - s) = cnt (work ⟨wk, hs⟩) s (D - s) + b2i (!b5) by
              rw [cnt_stepD D1, show work ⟨wk, hs⟩ D = !b5 from by show (!((wk[((D : Int) % 7).toNat]?).getD true)) = _; rw [e, HW.out]; rfl])
            cases b5
            · go_wp2
              go_round
              case rel => exact ⟨D + 1, u + 1, by omega, by omega, rfl, by go_num, by omega, by have := cnt_bd (work ⟨wk, hs⟩) s (D - s); have := hu.out; omega, by rw [HO.out, hu.out]; exact Int.add_assoc _ _ _⟩
              case measure => simp [intOf]; omega
            · go_wp2
              go_round
              case rel => exact ⟨D + 1, u, by omega, by omega, rfl, by go_num, by omega, by omega, by rw [HO.out, hu.out]; exact congrArg _ (Int.add_zero _).symm⟩
              case measure => simp [intOf]; omega
          · have HO := Lib.hid (show cnt (work ⟨wk, hs⟩) s (D + 1 - s) = cnt (work ⟨wk, hs⟩) s (D - s) + b2i (!b6) by
              rw [cnt_stepD D1, show work ⟨wk, hs⟩ D = !b6 from by show (!((wk[((D : Int) % 7).toNat]?).getD true)) = _; rw [e, HW.out]; rfl])
            cases b6
            · go_wp2
              go_round
              case rel => exact ⟨D + 1, u + 1, by omega, by omega, rfl, by go_num, by omega, by have := cnt_bd (work ⟨wk, hs⟩) s (D - s); have := hu.out; omega, by rw [HO.out, hu.out]; exact Int.add_assoc _ _ _⟩
              case measure => simp [intOf]; omega
            · go_wp2
              go_round
              case rel => exact ⟨D + 1, u, by omega, by omega, rfl, by go_num, by omega, by omega, by rw [HO.out, hu.out]; exact congrArg _ (Int.add_zero _).symm⟩
              case measure => simp [intOf]; omega
        · obtain rfl : D = a + n := by omega
          have HU := Lib.hid (show r = u - hgo ⟨wk, hs⟩ (a + n) (hs.drop (befN a hs)) by rw [HR.out, hu.out, show a + n - s = m by omega])
          have hf1 : befN a hs ≤ hs.length := List.countP_le_length
          have HB := Lib.hid (bs_any A hs c a X (by omega) HP.out HS.out)
          obtain ⟨f, hf⟩ : ∃ f, f = befN a hs := ⟨_, rfl⟩
          rw [← hf] at HU HB hf1
          clear hf hu HR
          by_cases hz0 : f < hs.length
          · obtain ⟨b, off, rfl, hb⟩ := HS.out.some_ (by omega)
            have hcf : ¬ c = f := by omega
            have HL := Lib.hid (show (hs.drop f).length = hs.length - f from List.length_drop)
            go_upto_region 17 with (go_at_call 25; with_reducible refine HB.out.mono ?_; rintro e w1 ⟨rfl, rfl⟩)
            go_loop [11, 16, 63] (fun o _ k => ∃ (j : Nat) (v : Int), j ≤ hs.length - f ∧ o = .int .i64 v ∧ k = .int .i64 j ∧ Hid (r = v - hgo ⟨wk, hs⟩ (a + n) (hs.drop (f + j)))) (fun _ _ k => hs.length - f - (intOf k).toNat)
            case atStart => exact ⟨0, u, by omega, rfl, rfl, HU.out⟩
            case round =>
              obtain ⟨j, v, hj, rfl, rfl, hv⟩ := hrel
              have hb3 := hgo_bd (c := ⟨wk, hs⟩) (b := a + n) (l := hs.drop (f + j))
              have hvv := hv.out
              have hlen : (hs.drop (f + j)).length ≤ 400 := by rw [List.length_drop]; omega
              have v0 : 0 ≤ v := by omega
              have v1 : v ≤ 100000 := by omega
              clear hb3 hvv hlen
              by_cases hlt3 : j < hs.length - f
              · obtain ⟨x, hx⟩ : ∃ x, hs[f + j]? = some x := ⟨_, List.getElem?_eq_getElem (by omega)⟩
                obtain ⟨x0, x1⟩ := HH.out x (List.mem_of_getElem? hx)
                obtain ⟨y, rfl⟩ := Int.eq_ofNat_of_zero_le x0
                obtain ⟨b', off', he, hb', hcell⟩ := HS.out (f + j) _ hx
                cases he
                have d0 := hcell 0 _ rfl
                simp only [Nat.mul_one, Nat.add_zero] at d0
                have d1 : X.cell? ⟨b, off + f + j, none⟩ = some (.int .i64 y) := by rw [Nat.add_assoc]; exact d0
                have hgs : hgo ⟨wk, hs⟩ (a + n) (hs.drop (f + j)) = if (a : Int) + n ≤ y then 0 else b2i (work ⟨wk, hs⟩ y) + hgo ⟨wk, hs⟩ (a + n) (hs.drop (f + (j + 1))) := by rw [drop_cons hx]; rfl
                have HG := Lib.hid hgs
                clear hcell hx hgs x0
                by_cases hq : (a : Int) + n ≤ y
                · go_wp2
                  go_ret
                  exact ⟨ret_int (by rw [hv.out, HG.out, if_pos hq]; exact (Int.sub_zero _).symm), hbX⟩
                · rcases (show (y : Int) % 7 = 0 ∨ (y : Int) % 7 = 1 ∨ (y : Int) % 7 = 2 ∨ (y : Int) % 7 = 3 ∨ (y : Int) % 7 = 4 ∨ (y : Int) % 7 = 5 ∨ (y : Int) % 7 = 6 by omega) with e | e | e | e | e | e | e
                  · have HO := Lib.hid (show r = v - (b2i (!b0) + hgo ⟨wk, hs⟩ (a + n) (hs.drop (f + (j + 1)))) by
                      rw [hv.out, HG.out, if_neg hq, show work ⟨wk, hs⟩ y = !b0 from by show (!((wk[((y : Int) % 7).toNat]?).getD true)) = _; rw [e, HW.out]; rfl])
                    clear hv HG
                    cases b0
                    · go_wp2
                      go_round
                      case rel => exact ⟨j + 1, v - 1, by omega, rfl, by go_num, by have := HO.out; simp only [b2i, Bool.not_false, if_true] at this; exact show r = _ by omega⟩
                      case measure => simp [intOf]; omega
                    · go_wp2
                      go_round
                      case rel => exact ⟨j + 1, v, by omega, rfl, by go_num, by have := HO.out; simp only [b2i, Bool.not_true] at this; exact show r = _ by simp at this; omega⟩
                      case measure => simp [intOf]; omega
                  · have HO := Lib.hid (show r = v - (b2i (!b1) + hgo ⟨wk, hs⟩ (a + n) (hs.drop (f + (j + 1)))) by
                      rw [hv.out, HG.out, if_neg hq, show work ⟨wk, hs⟩ y = !b1 from by show (!((wk[((y : Int) % 7).toNat]?).getD true)) = _; rw [e, HW.out]; rfl])
                    clear hv HG
                    cases b1
                    · go_wp2
                      go_round
                      case rel => exact ⟨j + 1, v - 1, by omega, rfl, by go_num, by have := HO.out; simp only [b2i, Bool.not_false, if_true] at this; exact show r = _ by omega⟩
                      case measure => simp [intOf]; omega
                    · go_wp2
                      go_round
                      case rel => exact ⟨j + 1, v, by omega, rfl, by go_num, by have := HO.out; simp only [b2i, Bool.not_true] at this; exact show r = _ by simp at this; omega⟩
                      case measure => simp [intOf]; omega
                  · have HO := Lib.hid (show r = v - (b2i (!b2) + hgo ⟨wk, hs⟩ (a + n) (hs.drop (f + (j + 1)))) by
                      rw [hv.out, HG.out, if_neg hq, show work ⟨wk, hs⟩ y = !b2 from by show (!((wk[((y : Int) % 7).toNat]?).getD true)) = _; rw [e, HW.out]; rfl])
                    clear hv HG
                    cases b2
                    · go_wp2
                      go_round
                      case rel => exact ⟨j + 1, v - 1, by omega, rfl, by go_num, by have := HO.out; simp only [b2i, Bool.not_false, if_true] at this; exact show r = _ by omega⟩
                      case measure => simp [intOf]; omega
                    · go_wp2
                      go_round
                      case rel => exact ⟨j + 1, v, by omega, rfl, by go_num, by have := HO.out; simp only [b2i, Bool.not_true] at this; exact show r = _ by simp at this; omega⟩
                      case measure => simp [intOf]; omega
                  · have HO := Lib.hid (show r = v - (b2i (!b3) + hgo ⟨wk, hs⟩ (a + n) (hs.drop (f + (j + 1)))) by
                      rw [hv.out, HG.out, if_neg hq, show work ⟨wk, hs⟩ y = !b3 from by show (!((wk[((y : Int) % 7).toNat]?).getD true)) = _; rw [e, HW.out]; rfl])
                    clear hv HG
                    cases b3
                    · go_wp2
                      go_round
                      case rel => exact ⟨j + 1, v - 1, by omega, rfl, by go_num, by have := HO.out; simp only [b2i, Bool.not_false, if_true] at this; exact show r = _ by omega⟩
                      case measure => simp [intOf]; omega
                    · go_wp2
                      go_round
                      case rel => exact ⟨j + 1, v, by omega, rfl, by go_num, by have := HO.out; simp only [b2i, Bool.not_true] at this; exact show r = _ by simp at this; omega⟩
                      case measure => simp [intOf]; omega
                  · have HO := Lib.hid (show r = v - (b2i (!b4) + hgo ⟨wk, hs⟩ (a + n) (hs.drop (f + (j + 1)))) by
                      rw [hv.out, HG.out, if_neg hq, show work ⟨wk, hs⟩ y = !b4 from by show (!((wk[((y : Int) % 7).toNat]?).getD true)) = _; rw [e, HW.out]; rfl])
                    clear hv HG
                    cases b4
                    · go_wp2
                      go_round
                      case rel => exact ⟨j + 1, v - 1, by omega, rfl, by go_num, by have := HO.out; simp only [b2i, Bool.not_false, if_true] at this; exact show r = _ by omega⟩
                      case measure => simp [intOf]; omega
                    · go_wp2
                      go_round
                      case rel => exact ⟨j + 1, v, by omega, rfl, by go_num, by have := HO.out; simp only [b2i, Bool.not_true] at this; exact show r = _ by simp at this; omega⟩
                      case measure => simp [intOf]; omega
                  · have HO := Lib.hid (show r = v - (b2i (!b5) + hgo ⟨wk, hs⟩ (a + n) (hs.drop (f + (j + 1)))) by
                      rw [hv.out, HG.out, if_neg hq, show work ⟨wk, hs⟩ y = !b5 from by show (!((wk[((y : Int) % 7).toNat]?).getD true)) = _; rw [e, HW.out]; rfl])
                    clear hv HG
                    cases b5
                    · go_wp2
                      go_round
                      case rel => exact ⟨j + 1, v - 1, by omega, rfl, by go_num, by have := HO.out; simp only [b2i, Bool.not_false, if_true] at this; exact show r = _ by omega⟩
                      case measure => simp [intOf]; omega
                    · go_wp2
                      go_round
                      case rel => exact ⟨j + 1, v, by omega, rfl, by go_num, by have := HO.out; simp only [b2i, Bool.not_true] at this; exact show r = _ by simp at this; omega⟩
                      case measure => simp [intOf]; omega
                  · have HO := Lib.hid (show r = v - (b2i (!b6) + hgo ⟨wk, hs⟩ (a + n) (hs.drop (f + (j + 1)))) by
                      rw [hv.out, HG.out, if_neg hq, show work ⟨wk, hs⟩ y = !b6 from by show (!((wk[((y : Int) % 7).toNat]?).getD true)) = _; rw [e, HW.out]; rfl])
                    clear hv HG
                    cases b6
                    · go_wp2
                      go_round
                      case rel => exact ⟨j + 1, v - 1, by omega, rfl, by go_num, by have := HO.out; simp only [b2i, Bool.not_false, if_true] at this; exact show r = _ by omega⟩
                      case measure => simp [intOf]; omega
                    · go_wp2
                      go_round
                      case rel => exact ⟨j + 1, v, by omega, rfl, by go_num, by have := HO.out; simp only [b2i, Bool.not_true] at this; exact show r = _ by simp at this; omega⟩
                      case measure => simp [intOf]; omega
              · obtain rfl : j = hs.length - f := by omega
                go_wp2
                go_ret
                exact ⟨ret_int (by rw [hv.out, show f + (hs.length - f) = hs.length by omega, List.drop_length]; exact (Int.sub_zero _).symm), hbX⟩
          · obtain rfl : f = hs.length := by omega
            have hru : r = u := by rw [HU.out, List.drop_length]; exact Int.sub_zero _
            subst hru
            clear HU
            rcases hbb (A.isSome) with hA' | hA'
            · obtain ⟨p, rfl⟩ := Option.isSome_iff_exists.1 hA'
              clear hA' hA
              by_cases hcf : c = hs.length
              · subst hcf
                go_upto_region 17 with (go_at_call 25; with_reducible refine HB.out.mono ?_; rintro e w1 ⟨rfl, rfl⟩)
                go_loop [11, 16, 63] (fun o _ k => o = .int .i64 r ∧ k = .int .i64 0) (fun _ _ _ => 0)
                case atStart => exact ⟨rfl, rfl⟩
                case round =>
                  obtain ⟨rfl, rfl⟩ := hrel
                  go_wp2
                  go_ret
                  exact ⟨rfl, hbX⟩
              · go_upto_region 17 with (go_at_call 25; with_reducible refine HB.out.mono ?_; rintro e w1 ⟨rfl, rfl⟩)
                go_loop [11, 16, 63] (fun o _ k => o = .int .i64 r ∧ k = .int .i64 0) (fun _ _ _ => 0)
                case atStart => exact ⟨rfl, rfl⟩
                case round =>
                  obtain ⟨rfl, rfl⟩ := hrel
                  go_wp2
                  go_ret
                  exact ⟨rfl, hbX⟩
            · obtain rfl : A = none := by cases A <;> simp at hA' ⊢
              have hc0 := hA rfl
              have hlz : hs.length = 0 := by omega
              have hz9 : hs = [] := List.eq_nil_of_length_eq_zero hlz
              subst hz9
              subst hc0
              have HB0 : Hid (Calls Tryd.prog 25 #[.slice none 0 0, .int .i64 a] X fun e w' => e = .returned (.tuple #[.int .i64 0, .bool false]) ∧ X = w') := HB
              clear HB
              go_upto_region 17 with (go_at_call 25; with_reducible refine HB0.out.mono ?_; rintro e w1 ⟨rfl, rfl⟩)
              go_loop [11, 16, 63] (fun o _ k => o = .int .i64 r ∧ k = .int .i64 0) (fun _ _ _ => 0)
              case atStart => exact ⟨rfl, rfl⟩
              case round =>
                obtain ⟨rfl, rfl⟩ := hrel
                go_wp2
                go_ret
                exact ⟨rfl, hbX⟩
end Go.Proofs.YtikjjhodbijfnaaDoor
