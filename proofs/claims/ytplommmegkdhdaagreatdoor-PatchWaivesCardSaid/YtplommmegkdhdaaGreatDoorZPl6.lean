/- The walk of PatchWaives. -/
import Derived.Test.YtplommmegkdhdaaGreatDoorMb27
import Derived.Test.YtplommmegkdhdaaGreatDoorZPl9
namespace Go.Proofs.YtplommmegkdhdaaGreatDoor
open Go.RowKit

theorem mkW_len' (c : Con) (S : List Int) : (c.wc (mkW S c.cl)).cl.length = c.cl.length := mkW_len S c.cl
theorem list_new2 {W V : World} {t : TypeId} {cs : Array Value} (h : V = W.alloc (.cells cs t)) : ∃ b, W.heap.size = b ∧ Blk V b t cs ∧ Below W.heap.size W V := by
  rw [h]
  exact ⟨_, rfl, Blk.new _ _ _, wa1 _ _⟩
set_option maxRecDepth 100000 in
set_option maxHeartbeats 6400000 in
theorem waives_any (c : Con) (m : Cm) (l : List Bool) (Al : Option Addr) (kl : Nat) (w : World) (hL : Lw w) (hc : ContW w c m) (hl : LstM w eBo 1 (fun _ => True) Al l kl) :
    Calls Tryz.prog 6 #[.agg (coA c m), .slice Al l.length kl] w fun e w' => e = .returned (.bool true) ∧ Below w.heap.size w w' := by
  have HH := Lib.hid (fun W (hb : Below w.heap.size w W) => head_any W (hL.below hb))
  cases hs1 : c.small 40 with
  | false =>
    have HS1 := Lib.hid (fun W (hb : Below w.heap.size w W) => smallc_at c m false hc hs1 W hb)
    clear hc hl hs1 hL
    go_enter Tryz.func6, Tryz.ntmps6
    go_upto_region 1 with (fail)
    refine name_wp ?_
    intro X0 hX
    have gbc : Blk X0 w.heap.size 27 (coA c m) := by rw [hX]; exact blk_at (by simp)
    have HB0 : Below w.heap.size w X0 := by rw [hX]; (repeat (first | with_reducible assumption | with_reducible exact Below.refl _ _ | with_reducible refine below_drewN ?_ _ | with_reducible refine Below.drew ?_ | with_reducible refine below_alloc ?_ _ | with_reducible refine Below.setCell ?_ (by first | omega | (simp; done) | (simp; omega)) _ | with_reducible refine below_then ?_ (by with_reducible assumption) | (refine below_then (a := World.drew _) ?_ (by with_reducible assumption))))
    clear hX
    obtain ⟨bc, ebc⟩ : ∃ b, w.heap.size = b := ⟨_, rfl⟩
    have lbc : w.heap.size ≤ bc := by omega
    rw [ebc] at gbc ⊢
    clear ebc
    go_upto_region 2 with ((go_at_call 9; (with_reducible refine (HH.out _ HB0).mono ?_); rintro e w1 ⟨rfl, hbw1⟩))
    have HH1 := hbw1
    have HB1 := below_then HB0 HH1
    have gbc_1 := gbc.then_ HH1
    clear gbc HB0 HH1
    go_wp2_with (first | (refine wpList_row_w (by rfl) 27 _ rfl bc rfl 27 _ gbc_1 ⟨_, Tryz.underlying27⟩ (by kernel_rfl) ?_; simp only [Act.put, List.setIfInBounds_toArray, List.set_cons_succ, List.set_cons_zero]) | (go_at_call 10; (with_reducible refine (HS1.out _ HB1).mono ?_); rintro e w2 ⟨rfl, hbw2⟩))
    go_ret
    exact ⟨rfl, below_then HB1 hbw2⟩
  | true =>
  have HS1 := Lib.hid (fun W (hb : Below w.heap.size w W) => smallc_at c m true hc hs1 W hb)
  obtain ⟨hC, hn⟩ := small_cont hc hs1
  obtain ⟨LW, eLW⟩ : ∃ n, l.length = n := ⟨_, rfl⟩
  rw [eLW]
  by_cases h40 : 40 < LW
  · have t40 : decide ((40 : Int) < (LW : Int)) = true := decide_eq_true (by omega)
    clear hc hl hs1 hL hC hn h40 eLW
    go_enter Tryz.func6, Tryz.ntmps6
    go_upto_region 1 with (fail)
    refine name_wp ?_
    intro X0 hX
    have gbc : Blk X0 w.heap.size 27 (coA c m) := by rw [hX]; exact blk_at (by simp)
    have HB0 : Below w.heap.size w X0 := by rw [hX]; (repeat (first | with_reducible assumption | with_reducible exact Below.refl _ _ | with_reducible refine below_drewN ?_ _ | with_reducible refine Below.drew ?_ | with_reducible refine below_alloc ?_ _ | with_reducible refine Below.setCell ?_ (by first | omega | (simp; done) | (simp; omega)) _ | with_reducible refine below_then ?_ (by with_reducible assumption) | (refine below_then (a := World.drew _) ?_ (by with_reducible assumption))))
    clear hX
    obtain ⟨bc, ebc⟩ : ∃ b, w.heap.size = b := ⟨_, rfl⟩
    have lbc : w.heap.size ≤ bc := by omega
    rw [ebc] at gbc ⊢
    clear ebc
    go_upto_region 2 with ((go_at_call 9; (with_reducible refine (HH.out _ HB0).mono ?_); rintro e w1 ⟨rfl, hbw1⟩))
    have HH1 := hbw1
    have HB1 := below_then HB0 HH1
    have gbc_1 := gbc.then_ HH1
    clear gbc HB0 HH1
    go_wp2_with (first | (refine wpList_row_w (by rfl) 27 _ rfl bc rfl 27 _ gbc_1 ⟨_, Tryz.underlying27⟩ (by kernel_rfl) ?_; simp only [Act.put, List.setIfInBounds_toArray, List.set_cons_succ, List.set_cons_zero]) | (go_at_call 10; (with_reducible refine (HS1.out _ HB1).mono ?_); rintro e w2 ⟨rfl, hbw2⟩))
    go_ret
    exact ⟨rfl, below_then HB1 hbw2⟩
  have t40 : decide ((40 : Int) < (LW : Int)) = false := decide_eq_false (by omega)
  have HSL := Lib.hid hl.2.2.2
  obtain ⟨LC, eLC⟩ : ∃ n, c.cl.length = n := ⟨_, rfl⟩
  obtain ⟨N, eN⟩ : ∃ n, min LW LC = n := ⟨_, rfl⟩
  have hN : N ≤ LW ∧ N ≤ LC ∧ (N = LW ∨ N = LC) := by omega
  obtain ⟨L, eL⟩ : ∃ L, selI 0 (l.take N) = L := ⟨_, rfl⟩
  have hLi : incI c.cl.length (-1) L = true := by rw [← eL]; exact selI_inc _ _ _ _ (by rw [List.length_take]; omega) (by omega)
  have hLl : L.length ≤ 40 := by rw [← eL]; have := selI_len 0 (l.take N); rw [List.length_take] at this; omega
  obtain ⟨nL, enL⟩ : ∃ n, L.length = n := ⟨_, rfl⟩
  have hE := ends_law hLi (by omega)
  obtain ⟨E, eE⟩ : ∃ E, c.apE (.ends L) = E := ⟨_, rfl⟩
  obtain ⟨C1, eC1⟩ : ∃ C, c.apC (.ends L) = C := ⟨_, rfl⟩
  have HA : Hid (∀ W A k, Below w.heap.size w W → Seg W W.heap.size 1 eI A L → nL ≤ k → Calls Tryz.prog 12 #[.agg (coA c m), .agg #[.int .i64 4, .slice A nL k, .int .i64 0, .int .i64 0, .int .i64 0, .int .i64 0, .slice none 0 0, .int .i64 0, .int .i64 0, .bool false, .bool false, .int .i64 0, .int .i64 0, .int .i64 0, .int .i64 0, .int .i64 0, .int .i64 0, .bool false, .int .i64 0]] W fun e w' => (∃ m', e = .returned (.tuple #[.agg (coA C1 m'), .int .i64 E]) ∧ Cont w' C1 m') ∧ Below W.heap.size W w') := fun W A k hb hs hk => by
    subst enL
    exact apply_to c C1 m (.ends L) ⟨A, k, none, 0⟩ E W (hC.then_ hb) ⟨hs, (by show L.length ≤ _; omega), hk, kok_nul _⟩ eE eC1
  obtain ⟨ri, hi, hz0, hz1, hz2⟩ := info_parts zero_int
  have HLW := Lib.hid eLW
  have HLC := Lib.hid eLC
  have HLL := Lib.hid eL
  have HnL := Lib.hid enL
  have hN40 : N ≤ 40 := by omega
  have hnL40 : nL ≤ 40 := by rw [← enL]; exact hLl
  by_cases hz : E = 0
  case neg =>
    have tE : (E != 0) = true := by rw [bne_iff_ne]; exact hz
    have hE1 : E = 1 := by rw [← eE]; exact hE.2.2.2 (by rw [eE]; exact hz)
    have tE1 : (E == 1) = true := by rw [beq_iff_eq]; exact hE1
    clear hz hE hE1 eE eC1 hC hn hc hl hs1 hL hLi hLl eL enL eLW eLC eN h40
    go_enter Tryz.func6, Tryz.ntmps6
    go_upto_region 1 with (fail)
    refine name_wp ?_
    intro X0 hX
    have gbc : Blk X0 w.heap.size 27 (coA c m) := by rw [hX]; exact blk_at (by simp)
    have HB0 : Below w.heap.size w X0 := by rw [hX]; (repeat (first | with_reducible assumption | with_reducible exact Below.refl _ _ | with_reducible refine below_drewN ?_ _ | with_reducible refine Below.drew ?_ | with_reducible refine below_alloc ?_ _ | with_reducible refine Below.setCell ?_ (by first | omega | (simp; done) | (simp; omega)) _ | with_reducible refine below_then ?_ (by with_reducible assumption) | (refine below_then (a := World.drew _) ?_ (by with_reducible assumption))))
    clear hX
    obtain ⟨bc, ebc⟩ : ∃ b, w.heap.size = b := ⟨_, rfl⟩
    have lbc : w.heap.size ≤ bc := by omega
    rw [ebc] at gbc ⊢
    clear ebc
    go_upto_region 2 with ((go_at_call 9; (with_reducible refine (HH.out _ HB0).mono ?_); rintro e w1 ⟨rfl, hbw1⟩))
    have HH1 := hbw1
    have HB1 := below_then HB0 HH1
    have gbc_1 := gbc.then_ HH1
    clear gbc HB0 HH1
    go_upto_region 4 with (first | (refine wpList_row_w (by rfl) 27 _ rfl bc rfl 27 _ gbc_1 ⟨_, Tryz.underlying27⟩ (by kernel_rfl) ?_; simp only [Act.put, List.setIfInBounds_toArray, List.set_cons_succ, List.set_cons_zero]) | (go_at_call 10; (with_reducible refine (HS1.out _ HB1).mono ?_); rintro e w2 ⟨rfl, hbw2⟩))
    have HH2 := hbw2
    have HB2 := below_then HB1 HH2
    have gbc_2 := gbc_1.then_ HH2
    clear gbc_1 HB1 HH2
    go_upto_region 6 with (fail)
    go_loopw [6, 7] (fun v y WR => ∃ (i : Nat) (V : Value), i ≤ N ∧ V = v ∧ y = .int .i64 i ∧ Hid (Own WR w2.heap.size 3 1 eI V (selI 0 (l.take i))) ∧ Hid (Below w2.heap.size w2 WR)) (fun _ y _ => 2000000 - (intOf y).toNat)
    case atStart => exact ⟨0, _, by omega, rfl, rfl, Own.nil _ _ _ _ _, Below.refl _ _⟩
    case round =>
      obtain ⟨i, V, hi', rfl, rfl, hO, HB⟩ := hrel
      have lB := HB.out.size
      have c4 : wr.cell? ⟨bc, 4, none⟩ = some (.slice m.k LC m.kc) := by rw [← HLC.out]; exact (gbc_2.then_ HB.out).cell 4
      have hwi := wrap_small (n := i) (by omega)
      by_cases hlt : i < N
      · have tn : decide ((i : Int) < (LW : Int)) = true := decide_eq_true (by omega)
        have tn' : decide (i < LW) = true := decide_eq_true (by omega)
        have tm : decide ((i : Int) < (LC : Int)) = true := decide_eq_true (by omega)
        have tm' : decide (i < LC) = true := decide_eq_true (by omega)
        obtain ⟨b, hb⟩ : ∃ b, l[i]? = some b := ⟨_, List.getElem?_eq_getElem (by rw [HLW.out]; omega)⟩
        obtain ⟨b1, o1, eA1, _, hc1⟩ := segAt ((HSL.out.below (below_then HB2 HB.out)).more (below_then HB2 HB.out).size) hb
        have cl1 : wr.cell? ⟨b1, o1 + i, none⟩ = some (.bool b) := by simpa using hc1 0 _ rfl
        have hix := fun W => idx_at (t := 47) (size := 1) (cap := kl) (len := LW) (k := i) eA1 (by omega) (by kernel_rfl) (fun W => by kernel_rfl) W
        have hsn : selI 0 (l.take (i + 1)) = selI 0 (l.take i) ++ (if b then [((i : Nat) : Int)] else []) := by rw [show l.take (i + 1) = l.take i ++ [b] by rw [List.take_add_one, hb]; rfl, selI_snoc, List.length_take, HLW.out, Nat.zero_add, Nat.min_eq_left (by omega)]
        have HSN := Lib.hid hsn
        have hsl : (selI 0 (l.take i)).length ≤ 1000000 := by have := selI_len 0 (l.take i); rw [List.length_take] at this; omega
        clear hb hc1 eA1 hsn
        cases b with
        | true =>
          go_wp2_with (at_builtin; go_loud (refine wpList_app _ rfl (.tmp 44) (.tmp 46) _ rfl w2.heap.size 3 ri _ 1 8 Tryz.underlying22 hi hz0 hz1 hz2 rfl (by omega) (by omega) eI eI_len one_intT _ (selI 0 (l.take i)) rfl (hO.out.alloc _) hsl wr.heap.size 1 (i : Int) rfl (Blk.new _ _ _) (by simp; omega) ?_); intro v4 w4 hO4 hb4 hg4; have hB4 := (HB.out.alloc lB (.cells #[.int .i64 (i : Int)] 3)).trans hb4; rw [show selI 0 (l.take i) ++ [(i : Int)] = selI 0 (l.take (i + 1)) from HSN.out.symm] at hO4; have HO4 := Lib.hid hO4; clear hO4 hb4 hg4)
          first | exact ⟨⟨i + 1, _, by omega, rfl, by simp, HO4, hB4⟩, by simp [intOf]; omega⟩ | (go_roundw; (case rel => exact ⟨i + 1, _, by omega, rfl, by simp, HO4, hB4⟩); (case measure => simp [intOf]; omega))
        | false =>
          have HO4 : Hid (Own wr w2.heap.size 3 1 eI V (selI 0 (l.take (i + 1)))) := by rw [HSN.out]; simpa using hO
          go_wp2
          first | exact ⟨⟨i + 1, _, by omega, rfl, by simp, HO4, HB⟩, by simp [intOf]; omega⟩ | (go_roundw; (case rel => exact ⟨i + 1, _, by omega, rfl, by simp, HO4, HB⟩); (case measure => simp [intOf]; omega))
      obtain rfl : N = i := by omega
      have hB2 := HB.out
      have hO2 := hO.out
      rw [HLL.out] at hO2
      obtain ⟨A1, k1, rfl, hk1, hs1⟩ := hO2.seg eI_len
      rw [HnL.out] at hk1 ⊢
      have HS1' := Lib.hid hs1
      clear hO hO2 hs1 lB hlt hi'
      have tt : (decide ((N : Int) < (LW : Int)) && decide ((N : Int) < (LC : Int))) = false := by rcases hN.2.2 with h | h <;> subst h <;> simp
      by_cases hlw : N < LW
      · have tn : decide ((N : Int) < (LW : Int)) = true := decide_eq_true (by omega)
        have tn' : decide (N < LW) = true := decide_eq_true hlw
        have tm : decide ((N : Int) < (LC : Int)) = false := decide_eq_false (by omega)
        have tm' : decide (N < LC) = false := decide_eq_false (by omega)
        clear hlw tt
        have HH3 := hB2
        have HB3 := below_then HB2 HH3
        have gbc_3 := gbc_2.then_ HH3
        clear gbc_2 HB2 HH3
        have hs1 : SgI wr A1 L := HS1'.out
        clear HS1'
        go_upto_region 11 with (first | (refine wpList_row_w (by rfl) 27 _ rfl bc rfl 27 _ gbc_3 ⟨_, Tryz.underlying27⟩ (by kernel_rfl) ?_; simp only [Act.put, List.setIfInBounds_toArray, List.set_cons_succ, List.set_cons_zero]) | (go_at_call 12; (with_reducible refine (HA.out _ A1 k1 HB3 hs1 hk1).mono ?_); rintro e w5 ⟨⟨ma, rfl, hca0⟩, hbw5⟩) | (refine wpList_store_all rfl 27 _ _ rfl w5.heap.size 27 [] coZ.toList [] (coA C1 ma).toList rfl rfl (Blk.new _ _ _) rfl (by kernel_rfl) (by simp [Value.oneCell']) ?_; intro u5 gbu5 Uu5))
        have hsu5 : Below w5.heap.size w5 u5 := (wa1 _ _).trans (Uu5.b _ (Nat.le_refl _))
        have HH4 := below_then hbw5 hsu5
        have HB4 := below_then HB3 HH4
        have gbc_4 := gbc_3.then_ HH4
        have hs1_4 := hs1.then_ HH4
        clear gbc_3 hs1 HB3 HH4
        have hca := hca0.then_ hsu5
        obtain ⟨bu5, ebu5⟩ : ∃ b, w5.heap.size = b := ⟨_, rfl⟩
        rw [ebu5] at gbu5 ⊢
        clear ebu5 Uu5 hsu5 hbw5 hca0
        go_wp2_with (fail)
        go_ret
        exact ⟨rfl, HB4⟩
      · have tn : decide ((N : Int) < (LW : Int)) = false := decide_eq_false (by omega)
        have tn' : decide (N < LW) = false := decide_eq_false hlw
        clear hlw tt
        have HH3 := hB2
        have HB3 := below_then HB2 HH3
        have gbc_3 := gbc_2.then_ HH3
        clear gbc_2 HB2 HH3
        have hs1 : SgI wr A1 L := HS1'.out
        clear HS1'
        go_upto_region 11 with (first | (refine wpList_row_w (by rfl) 27 _ rfl bc rfl 27 _ gbc_3 ⟨_, Tryz.underlying27⟩ (by kernel_rfl) ?_; simp only [Act.put, List.setIfInBounds_toArray, List.set_cons_succ, List.set_cons_zero]) | (go_at_call 12; (with_reducible refine (HA.out _ A1 k1 HB3 hs1 hk1).mono ?_); rintro e w5 ⟨⟨ma, rfl, hca0⟩, hbw5⟩) | (refine wpList_store_all rfl 27 _ _ rfl w5.heap.size 27 [] coZ.toList [] (coA C1 ma).toList rfl rfl (Blk.new _ _ _) rfl (by kernel_rfl) (by simp [Value.oneCell']) ?_; intro u5 gbu5 Uu5))
        have hsu5 : Below w5.heap.size w5 u5 := (wa1 _ _).trans (Uu5.b _ (Nat.le_refl _))
        have HH4 := below_then hbw5 hsu5
        have HB4 := below_then HB3 HH4
        have gbc_4 := gbc_3.then_ HH4
        have hs1_4 := hs1.then_ HH4
        clear gbc_3 hs1 HB3 HH4
        have hca := hca0.then_ hsu5
        obtain ⟨bu5, ebu5⟩ : ∃ b, w5.heap.size = b := ⟨_, rfl⟩
        rw [ebu5] at gbu5 ⊢
        clear ebu5 Uu5 hsu5 hbw5 hca0
        go_wp2_with (fail)
        go_ret
        exact ⟨rfl, HB4⟩
  subst hz
  have HOK : Hid (c.ok = true) := hE.1 eE
  have HIN : Hid (∀ z ∈ L, 0 ≤ z ∧ z < c.cl.length) := fun z hz => by have := incI_mem _ _ _ hLi z hz; omega
  have HCC := Lib.hid hC
  have HC1 : Hid (C1 = c.wc (mkW L c.cl)) := by unfold Hid; rw [← eC1, apC_yes eE, hE.2.2.1]
  clear hE eE eC1 hC hn hc hl hs1 hL hLi hLl eL enL eLW eLC eN h40
  go_enter Tryz.func6, Tryz.ntmps6
  go_upto_region 1 with (fail)
  refine name_wp ?_
  intro X0 hX
  have gbc : Blk X0 w.heap.size 27 (coA c m) := by rw [hX]; exact blk_at (by simp)
  have HB0 : Below w.heap.size w X0 := by rw [hX]; (repeat (first | with_reducible assumption | with_reducible exact Below.refl _ _ | with_reducible refine below_drewN ?_ _ | with_reducible refine Below.drew ?_ | with_reducible refine below_alloc ?_ _ | with_reducible refine Below.setCell ?_ (by first | omega | (simp; done) | (simp; omega)) _ | with_reducible refine below_then ?_ (by with_reducible assumption) | (refine below_then (a := World.drew _) ?_ (by with_reducible assumption))))
  clear hX
  obtain ⟨bc, ebc⟩ : ∃ b, w.heap.size = b := ⟨_, rfl⟩
  have lbc : w.heap.size ≤ bc := by omega
  rw [ebc] at gbc ⊢
  clear ebc
  go_upto_region 2 with ((go_at_call 9; (with_reducible refine (HH.out _ HB0).mono ?_); rintro e w1 ⟨rfl, hbw1⟩))
  have HH1 := hbw1
  have HB1 := below_then HB0 HH1
  have gbc_1 := gbc.then_ HH1
  clear gbc HB0 HH1
  go_upto_region 4 with (first | (refine wpList_row_w (by rfl) 27 _ rfl bc rfl 27 _ gbc_1 ⟨_, Tryz.underlying27⟩ (by kernel_rfl) ?_; simp only [Act.put, List.setIfInBounds_toArray, List.set_cons_succ, List.set_cons_zero]) | (go_at_call 10; (with_reducible refine (HS1.out _ HB1).mono ?_); rintro e w2 ⟨rfl, hbw2⟩))
  have HH2 := hbw2
  have HB2 := below_then HB1 HH2
  have gbc_2 := gbc_1.then_ HH2
  clear gbc_1 HB1 HH2
  go_upto_region 6 with (fail)
  go_loopw [6, 7] (fun v y WR => ∃ (i : Nat) (V : Value), i ≤ N ∧ V = v ∧ y = .int .i64 i ∧ Hid (Own WR w2.heap.size 3 1 eI V (selI 0 (l.take i))) ∧ Hid (Below w2.heap.size w2 WR)) (fun _ y _ => 2000000 - (intOf y).toNat)
  case atStart => exact ⟨0, _, by omega, rfl, rfl, Own.nil _ _ _ _ _, Below.refl _ _⟩
  case round =>
    obtain ⟨i, V, hi', rfl, rfl, hO, HB⟩ := hrel
    have lB := HB.out.size
    have c4 : wr.cell? ⟨bc, 4, none⟩ = some (.slice m.k LC m.kc) := by rw [← HLC.out]; exact (gbc_2.then_ HB.out).cell 4
    have hwi := wrap_small (n := i) (by omega)
    by_cases hlt : i < N
    · have tn : decide ((i : Int) < (LW : Int)) = true := decide_eq_true (by omega)
      have tn' : decide (i < LW) = true := decide_eq_true (by omega)
      have tm : decide ((i : Int) < (LC : Int)) = true := decide_eq_true (by omega)
      have tm' : decide (i < LC) = true := decide_eq_true (by omega)
      obtain ⟨b, hb⟩ : ∃ b, l[i]? = some b := ⟨_, List.getElem?_eq_getElem (by rw [HLW.out]; omega)⟩
      obtain ⟨b1, o1, eA1, _, hc1⟩ := segAt ((HSL.out.below (below_then HB2 HB.out)).more (below_then HB2 HB.out).size) hb
      have cl1 : wr.cell? ⟨b1, o1 + i, none⟩ = some (.bool b) := by simpa using hc1 0 _ rfl
      have hix := fun W => idx_at (t := 47) (size := 1) (cap := kl) (len := LW) (k := i) eA1 (by omega) (by kernel_rfl) (fun W => by kernel_rfl) W
      have hsn : selI 0 (l.take (i + 1)) = selI 0 (l.take i) ++ (if b then [((i : Nat) : Int)] else []) := by rw [show l.take (i + 1) = l.take i ++ [b] by rw [List.take_add_one, hb]; rfl, selI_snoc, List.length_take, HLW.out, Nat.zero_add, Nat.min_eq_left (by omega)]
      have HSN := Lib.hid hsn
      have hsl : (selI 0 (l.take i)).length ≤ 1000000 := by have := selI_len 0 (l.take i); rw [List.length_take] at this; omega
      clear hb hc1 eA1 hsn
      cases b with
      | true =>
        go_wp2_with (at_builtin; go_loud (refine wpList_app _ rfl (.tmp 44) (.tmp 46) _ rfl w2.heap.size 3 ri _ 1 8 Tryz.underlying22 hi hz0 hz1 hz2 rfl (by omega) (by omega) eI eI_len one_intT _ (selI 0 (l.take i)) rfl (hO.out.alloc _) hsl wr.heap.size 1 (i : Int) rfl (Blk.new _ _ _) (by simp; omega) ?_); intro v4 w4 hO4 hb4 hg4; have hB4 := (HB.out.alloc lB (.cells #[.int .i64 (i : Int)] 3)).trans hb4; rw [show selI 0 (l.take i) ++ [(i : Int)] = selI 0 (l.take (i + 1)) from HSN.out.symm] at hO4; have HO4 := Lib.hid hO4; clear hO4 hb4 hg4)
        first | exact ⟨⟨i + 1, _, by omega, rfl, by simp, HO4, hB4⟩, by simp [intOf]; omega⟩ | (go_roundw; (case rel => exact ⟨i + 1, _, by omega, rfl, by simp, HO4, hB4⟩); (case measure => simp [intOf]; omega))
      | false =>
        have HO4 : Hid (Own wr w2.heap.size 3 1 eI V (selI 0 (l.take (i + 1)))) := by rw [HSN.out]; simpa using hO
        go_wp2
        first | exact ⟨⟨i + 1, _, by omega, rfl, by simp, HO4, HB⟩, by simp [intOf]; omega⟩ | (go_roundw; (case rel => exact ⟨i + 1, _, by omega, rfl, by simp, HO4, HB⟩); (case measure => simp [intOf]; omega))
    obtain rfl : N = i := by omega
    have hB2 := HB.out
    have hO2 := hO.out
    rw [HLL.out] at hO2
    obtain ⟨A1, k1, rfl, hk1, hs1⟩ := hO2.seg eI_len
    rw [HnL.out] at hk1 ⊢
    have HS1' := Lib.hid hs1
    clear hO hO2 hs1 lB hlt hi'
    have tt : (decide ((N : Int) < (LW : Int)) && decide ((N : Int) < (LC : Int))) = false := by rcases hN.2.2 with h | h <;> subst h <;> simp
    by_cases hlw : N < LW
    · have tn : decide ((N : Int) < (LW : Int)) = true := decide_eq_true (by omega)
      have tn' : decide (N < LW) = true := decide_eq_true hlw
      have tm : decide ((N : Int) < (LC : Int)) = false := decide_eq_false (by omega)
      have tm' : decide (N < LC) = false := decide_eq_false (by omega)
      clear hlw tt
      have HH3 := hB2
      have HB3 := below_then HB2 HH3
      have gbc_3 := gbc_2.then_ HH3
      clear gbc_2 HB2 HH3
      have hs1 : SgI wr A1 L := HS1'.out
      clear HS1'
      go_upto_region 11 with (first | (refine wpList_row_w (by rfl) 27 _ rfl bc rfl 27 _ gbc_3 ⟨_, Tryz.underlying27⟩ (by kernel_rfl) ?_; simp only [Act.put, List.setIfInBounds_toArray, List.set_cons_succ, List.set_cons_zero]) | (go_at_call 12; (with_reducible refine (HA.out _ A1 k1 HB3 hs1 hk1).mono ?_); rintro e w5 ⟨⟨ma, rfl, hca0⟩, hbw5⟩) | (refine wpList_store_all rfl 27 _ _ rfl w5.heap.size 27 [] coZ.toList [] (coA C1 ma).toList rfl rfl (Blk.new _ _ _) rfl (by kernel_rfl) (by simp [Value.oneCell']) ?_; intro u5 gbu5 Uu5))
      have hsu5 : Below w5.heap.size w5 u5 := (wa1 _ _).trans (Uu5.b _ (Nat.le_refl _))
      have HH4 := below_then hbw5 hsu5
      have HB4 := below_then HB3 HH4
      have gbc_4 := gbc_3.then_ HH4
      have hs1_4 := hs1.then_ HH4
      clear gbc_3 hs1 HB3 HH4
      have hca := hca0.then_ hsu5
      obtain ⟨bu5, ebu5⟩ : ∃ b, w5.heap.size = b := ⟨_, rfl⟩
      rw [ebu5] at gbu5 ⊢
      clear ebu5 Uu5 hsu5 hbw5 hca0
      go_upto_region 13 with (fail)
      go_cut [10, 11] from 62 to 63 (fun v10 v11 W => ∃ p q, v10 = .pointer (some ⟨p, 0, none⟩) ∧ v11 = .pointer (some ⟨q, 0, none⟩) ∧ p ≠ q ∧ u5.heap.size ≤ p ∧ u5.heap.size ≤ q ∧ Blk W p 27 (coA c m) ∧ Blk W q 27 (coA c m) ∧ Below u5.heap.size u5 W)
      case first =>
        refine wp_region_hb (fun w' => Hid (Below u5.heap.size u5 w')) [0, 1, 2, 3, 4] [5] (by kernel_rfl) (by kernel_rfl) (by repeat (first | with_reducible refine panOk_then ?_ | with_reducible refine panOk_block ?_ | exact panOk_body)) (Lib.hid (Below.drew (Below.refl _ _))) (fun hdir hsel hpan hHeld => ?_)
        refine wpHB_take (i := 0) (oi := ⟨some 62, _, _, _, _, _⟩) hdir hsel hpan rfl (by kernel_rfl) (by kernel_rfl) (by kernel_rfl) (yieldsIf_row (by rfl) 27 _ rfl bc rfl 27 _ (fun w hw => (gbc_4.then_ hw.out)) ⟨_, Tryz.underlying27⟩ (by kernel_rfl)) (by assumption) ?_
        try simp only [Act.put, List.setIfInBounds_toArray, List.set_cons_zero, List.set_cons_succ]
        refine wpHB_take (i := 1) (oi := ⟨some 63, _, _, _, _, _⟩) hdir hsel hpan rfl (by kernel_rfl) (by kernel_rfl) (by kernel_rfl) (yieldsIf_row (by rfl) 27 _ rfl bc rfl 27 _ (fun w hw => (gbc_4.then_ hw.out)) ⟨_, Tryz.underlying27⟩ (by kernel_rfl)) (by assumption) ?_
        try simp only [Act.put, List.setIfInBounds_toArray, List.set_cons_zero, List.set_cons_succ]
        refine wpHB_ready (rs := [2, 3]) (by kernel_rfl) (by simp) ?_
        refine AllHB.cons (by kernel_rfl) (o := ⟨some 10, _, _, _, _, _⟩) rfl (fun K hK => ?_) ?_
        · go_simp
          have llP := hHeld.out.size
          refine name_k ?_
          intro Vp hVp
          obtain ⟨gP, hbp⟩ : _ ∧ _ := (by first | exact con_new hVp | exact con_new (W := u5.drew) hVp)
          try (have npq := Nat.ne_of_lt gQ.lt)
          try (replace gQ := gQ.then_ hbp)
          clear hVp
          refine hK.out _ _ (Lib.hid (below_then hHeld.out hbp)) (fun hHeld2 => ?_)
          clear hK K hHeld
          have hHeld := hHeld2
          clear hHeld2
          try simp only [Act.put, List.setIfInBounds_toArray, List.set_cons_zero, List.set_cons_succ]
          refine wpHB_ready (rs := [3]) (by kernel_rfl) (by simp) ?_
          refine AllHB.cons (by kernel_rfl) (o := ⟨some 11, _, _, _, _, _⟩) rfl (fun K hK => ?_) AllHB.nil
          go_simp
          have llQ := hHeld.out.size
          refine name_k ?_
          intro Vp hVp
          obtain ⟨gQ, hbp⟩ : _ ∧ _ := (by first | exact con_new hVp | exact con_new (W := u5.drew) hVp)
          try (have npq := Nat.ne_of_lt gP.lt)
          try (replace gP := gP.then_ hbp)
          clear hVp
          refine hK.out _ _ (Lib.hid (below_then hHeld.out hbp)) (fun hHeld2 => ?_)
          clear hK K hHeld
          have hHeld := hHeld2
          clear hHeld2
          try simp only [Act.put, List.setIfInBounds_toArray, List.set_cons_zero, List.set_cons_succ]
          refine wpHB_ready (rs := [4]) (by kernel_rfl) (by simp) ?_
          refine AllHB.cons (by kernel_rfl) (o := ⟨none, _, _, _, _, _⟩) rfl (fun K hK => ?_) AllHB.nil
          rw [if_pos (by rfl)]
          refine wp_store_all 27 _ _ rfl _ 27 [] coZ.toList [] (coA c m).toList rfl rfl gP rfl (by kernel_rfl) (by simp [Value.oneCell']) ?_
          intro w8 g8 U8
          have gQ8 := gQ.upd U8 (by first | exact npq | exact Ne.symm npq)
          clear gQ
          refine hK.out _ _ (Lib.hid (hHeld.out.trans (U8.b _ llP))) (fun hHeld2 => ?_)
          clear hK K hHeld
          have hHeld := hHeld2
          clear hHeld2
          try simp only [Act.put]
          refine wpHB_tail (by kernel_rfl) (by kernel_rfl) ?_
          clear hdir hsel hpan
          simp only [opsAt, List.getElem?_toArray, List.getElem?_cons_succ, List.getElem?_cons_zero, Option.toList_some, List.cons_append, List.nil_append]
          go_wp2_with (refine wpList_store_all rfl 27 _ _ rfl _ 27 [] coZ.toList [] (coA c m).toList rfl rfl gQ8 rfl (by kernel_rfl) (by simp [Value.oneCell']) ?_; intro w9 g9 U9)
          go_meet
          case rel => exact ⟨_, _, rfl, rfl, (by first | exact npq | exact Ne.symm npq), llP, llQ, g8.upd U9 (by first | exact npq | exact Ne.symm npq), g9, hHeld.out.trans (U9.b _ llQ)⟩
        refine AllHB.cons (by kernel_rfl) (o := ⟨some 11, _, _, _, _, _⟩) rfl (fun K hK => ?_) ?_
        · go_simp
          have llQ := hHeld.out.size
          refine name_k ?_
          intro Vp hVp
          obtain ⟨gQ, hbp⟩ : _ ∧ _ := (by first | exact con_new hVp | exact con_new (W := u5.drew) hVp)
          try (have npq := Nat.ne_of_lt gP.lt)
          try (replace gP := gP.then_ hbp)
          clear hVp
          refine hK.out _ _ (Lib.hid (below_then hHeld.out hbp)) (fun hHeld2 => ?_)
          clear hK K hHeld
          have hHeld := hHeld2
          clear hHeld2
          try simp only [Act.put, List.setIfInBounds_toArray, List.set_cons_zero, List.set_cons_succ]
          refine wpHB_ready (rs := [2]) (by kernel_rfl) (by simp) ?_
          refine AllHB.cons (by kernel_rfl) (o := ⟨some 10, _, _, _, _, _⟩) rfl (fun K hK => ?_) AllHB.nil
          go_simp
          have llP := hHeld.out.size
          refine name_k ?_
          intro Vp hVp
          obtain ⟨gP, hbp⟩ : _ ∧ _ := (by first | exact con_new hVp | exact con_new (W := u5.drew) hVp)
          try (have npq := Nat.ne_of_lt gQ.lt)
          try (replace gQ := gQ.then_ hbp)
          clear hVp
          refine hK.out _ _ (Lib.hid (below_then hHeld.out hbp)) (fun hHeld2 => ?_)
          clear hK K hHeld
          have hHeld := hHeld2
          clear hHeld2
          try simp only [Act.put, List.setIfInBounds_toArray, List.set_cons_zero, List.set_cons_succ]
          refine wpHB_ready (rs := [4]) (by kernel_rfl) (by simp) ?_
          refine AllHB.cons (by kernel_rfl) (o := ⟨none, _, _, _, _, _⟩) rfl (fun K hK => ?_) AllHB.nil
          rw [if_pos (by rfl)]
          refine wp_store_all 27 _ _ rfl _ 27 [] coZ.toList [] (coA c m).toList rfl rfl gP rfl (by kernel_rfl) (by simp [Value.oneCell']) ?_
          intro w8 g8 U8
          have gQ8 := gQ.upd U8 (by first | exact npq | exact Ne.symm npq)
          clear gQ
          refine hK.out _ _ (Lib.hid (hHeld.out.trans (U8.b _ llP))) (fun hHeld2 => ?_)
          clear hK K hHeld
          have hHeld := hHeld2
          clear hHeld2
          try simp only [Act.put]
          refine wpHB_tail (by kernel_rfl) (by kernel_rfl) ?_
          clear hdir hsel hpan
          simp only [opsAt, List.getElem?_toArray, List.getElem?_cons_succ, List.getElem?_cons_zero, Option.toList_some, List.cons_append, List.nil_append]
          go_wp2_with (refine wpList_store_all rfl 27 _ _ rfl _ 27 [] coZ.toList [] (coA c m).toList rfl rfl gQ8 rfl (by kernel_rfl) (by simp [Value.oneCell']) ?_; intro w9 g9 U9)
          go_meet
          case rel => exact ⟨_, _, rfl, rfl, (by first | exact npq | exact Ne.symm npq), llP, llQ, g8.upd U9 (by first | exact npq | exact Ne.symm npq), g9, hHeld.out.trans (U9.b _ llQ)⟩
        exact AllHB.nil
      obtain ⟨p, q, rfl, rfl, npq, lp, lq, gp, gq, hb13⟩ := hcut
      obtain ⟨V0, rfl⟩ : ∃ W, W = wc := ⟨_, rfl⟩
      have HM0 : Hid (Off (fun b => b ≠ p ∧ b ≠ q) c m) := HCC.out.off.mono fun b hb => by have := HB4.size; omega
      have HC0 : Hid (Cont V0 c m) := HCC.out.then_ (below_then HB4 hb13)
      go_upto_region 15 with (fail)
      go_loopw [12, 13, 14, 15, 16] (fun y x f z g WR => ∃ (j : Nat) (mb md : Cm), j ≤ nL ∧ y = .int .i64 j ∧ Hid (Blk WR p 27 (coA (c.wc (mkW (L.take j) c.cl)) mb) ∧ Blk WR q 27 (coA (c.wc (mkW (L.reverse.take j) c.cl)) md) ∧ Cont WR (c.wc (mkW (L.take j) c.cl)) mb ∧ Cont WR (c.wc (mkW (L.reverse.take j) c.cl)) md ∧ Off (fun b => b ≠ p ∧ b ≠ q) (c.wc (mkW (L.take j) c.cl)) mb ∧ Off (fun b => b ≠ p ∧ b ≠ q) (c.wc (mkW (L.reverse.take j) c.cl)) md) ∧ Hid (Below u5.heap.size u5 WR)) (fun y _ _ _ _ _ => 2000000 - (intOf y).toNat)
      case atStart => exact ⟨0, m, m, by omega, rfl, ⟨gp, gq, HC0.out, HC0.out, HM0.out, HM0.out⟩, hb13⟩
      case round =>
        clear gp gq HC0 HM0 hb13
        obtain ⟨j, mb, md, hj', rfl, HST, HB5⟩ := hrel
        have hwj := wrap_small (n := j) (by omega)
        by_cases hlt : j < nL
        · have tn : decide ((j : Int) < (nL : Int)) = true := decide_eq_true (by omega)
          have tn' : decide (j < nL) = true := decide_eq_true hlt
          obtain ⟨xi, hxi⟩ : ∃ v, L[j]? = some v := ⟨_, List.getElem?_eq_getElem (by rw [HnL.out]; exact hlt)⟩
          obtain ⟨yi, hyi⟩ : ∃ v, L[nL - 1 - j]? = some v := ⟨_, List.getElem?_eq_getElem (by rw [HnL.out]; omega)⟩
          have hxm := HIN.out xi (List.mem_of_getElem? hxi)
          have hym := HIN.out yi (List.mem_of_getElem? hyi)
          have hwx := wai_law (S := L.take j) HOK.out (fun z hz => (HIN.out z (List.mem_of_mem_take hz)).1) hxm.1 hxm.2
          have hwy := wai_law (S := L.reverse.take j) HOK.out (fun z hz => (HIN.out z (List.mem_reverse.1 (List.mem_of_mem_take hz))).1) hym.1 hym.2
          rw [← take_wai hxi] at hwx
          rw [← take_wai (show L.reverse[j]? = some yi by rw [rev_get (by rw [HnL.out]; exact hlt), HnL.out]; exact hyi)] at hwy
          have hsr := hs1_4.then_ HB5.out
          obtain ⟨b1, o1, eA1, hb1, hc1⟩ := segAt hsr hxi
          obtain ⟨b2, o2, eA2, hb2, hc2⟩ := segAt hsr hyi
          have CX : Hid (wr.cell? ⟨b1, o1 + j, none⟩ = some (.int .i64 xi) ∧ b1 < wr.heap.size) := ⟨by simpa using hc1 0 _ rfl, hb1⟩
          have CY : Hid (wr.cell? ⟨b2, o2 + (nL - 1 - j), none⟩ = some (.int .i64 yi) ∧ b2 < wr.heap.size) := ⟨by simpa using hc2 0 _ rfl, hb2⟩
          have hix := fun W => idx_at (t := 22) (size := 1) (cap := k1) (len := nL) (k := j) eA1 hlt (by kernel_rfl) (fun W => by kernel_rfl) W
          have hiy := fun W => idx_at (t := 22) (size := 1) (cap := k1) (len := nL) (k := nL - 1 - j) eA2 (by omega) (by kernel_rfl) (fun W => by kernel_rfl) W
          have HXE := Lib.hid hwx
          have HYE := Lib.hid hwy
          clear hxi hyi hxm hym hwx hwy hsr hb1 hc1 hb2 hc2 eA1 eA2
          obtain ⟨B0, eB0⟩ : ∃ C, (c.wc (mkW (L.take j) c.cl)) = C := ⟨_, rfl⟩
          obtain ⟨D0, eD0⟩ : ∃ C, (c.wc (mkW (L.reverse.take j) c.cl)) = C := ⟨_, rfl⟩
          obtain ⟨CB, eCB⟩ : ∃ C, (c.wc (mkW (L.take (j + 1)) c.cl)) = C := ⟨_, rfl⟩
          obtain ⟨CD, eCD⟩ : ∃ C, (c.wc (mkW (L.reverse.take (j + 1)) c.cl)) = C := ⟨_, rfl⟩
          rw [eB0, eCB] at HXE
          rw [eD0, eCD] at HYE
          rw [eB0, eD0] at HST
          clear eB0 eD0
          have HEB := Lib.hid eCB
          have HED := Lib.hid eCD
          clear eCB eCD
          have HCX : Hid (∀ W b, Below wr.heap.size wr W → Blk W b 3 #[.int .i64 xi] → Calls Tryz.prog 12 #[.agg (coA B0 mb), .agg #[.int .i64 3, .slice (some ⟨b, 0, none⟩) 1 1, .int .i64 0, .int .i64 0, .int .i64 0, .int .i64 0, .slice none 0 0, .int .i64 0, .int .i64 0, .bool false, .bool false, .int .i64 0, .int .i64 0, .int .i64 0, .int .i64 0, .int .i64 0, .int .i64 0, .bool false, .int .i64 0]] W fun e w' => (∃ m', e = .returned (.tuple #[.agg (coA CB m'), .int .i64 0]) ∧ Cont w' CB m' ∧ Off (W.heap.size ≤ ·) CB m') ∧ Below W.heap.size W w') := fun W b hb hg => apply_off B0 CB mb (.wai xi) ⟨some ⟨b, 0, none⟩, 1, none, 0⟩ 0 W (HST.out.2.2.1.then_ hb) (patM_one hg rfl rfl) HXE.out.1 (by rw [apC_yes HXE.out.1, HXE.out.2])
          have HCY : Hid (∀ W b, Below wr.heap.size wr W → Blk W b 3 #[.int .i64 yi] → Calls Tryz.prog 12 #[.agg (coA D0 md), .agg #[.int .i64 3, .slice (some ⟨b, 0, none⟩) 1 1, .int .i64 0, .int .i64 0, .int .i64 0, .int .i64 0, .slice none 0 0, .int .i64 0, .int .i64 0, .bool false, .bool false, .int .i64 0, .int .i64 0, .int .i64 0, .int .i64 0, .int .i64 0, .int .i64 0, .bool false, .int .i64 0]] W fun e w' => (∃ m', e = .returned (.tuple #[.agg (coA CD m'), .int .i64 0]) ∧ Cont w' CD m' ∧ Off (W.heap.size ≤ ·) CD m') ∧ Below W.heap.size W w') := fun W b hb hg => apply_off D0 CD md (.wai yi) ⟨some ⟨b, 0, none⟩, 1, none, 0⟩ 0 W (HST.out.2.2.2.1.then_ hb) (patM_one hg rfl rfl) HYE.out.1 (by rw [apC_yes HYE.out.1, HYE.out.2])
          clear HXE HYE
          have hw1 : IntKind.i64.wrap ((nL : Int) - 1) = (nL : Int) - 1 := by rw [IntKind.wrap_i64]; omega
          have hw2 : IntKind.i64.wrap ((nL : Int) - 1 - (j : Int)) = ((nL - 1 - j : Nat) : Int) := by rw [IntKind.wrap_i64]; omega
          have HB0 := HB5.out
          have gP := HST.out.1
          have gQ := HST.out.2.1
          have lP := gP.lt
          have lQ := gQ.lt
          go_upto_region 17 with (fail)
          go_cut [13, 14] from 70 to 80 (fun v13 v14 W => ∃ q m, v13 = .pointer (some ⟨q, 0, none⟩) ∧ v14 = .int .i64 0 ∧ Blk W q 27 (coA CB m) ∧ Cont W CB m ∧ Off (wr.heap.size ≤ ·) CB m ∧ wr.heap.size ≤ q ∧ Below wr.heap.size wr W)
          case first =>
            refine wp_region_hb (fun w' => Hid (Below wr.heap.size wr w')) [0, 1, 2, 3, 4, 5, 6, 7, 8, 9, 10, 11, 12] [13] (by kernel_rfl) (by kernel_rfl) (by repeat (first | with_reducible refine panOk_then ?_ | with_reducible refine panOk_block ?_ | exact panOk_body)) (Lib.hid (Below.drew (Below.refl _ _))) (fun hdir hsel hpan hHeld => ?_)
            refine wpHB_take (i := 0) (oi := ⟨some 71, _, _, _, _, _⟩) hdir hsel hpan rfl (by kernel_rfl) (by kernel_rfl) (by kernel_rfl) (yieldsIf_row (by rfl) 27 _ rfl p rfl 27 _ (fun w hw => (gP.then_ hw.out)) ⟨_, Tryz.underlying27⟩ (by kernel_rfl)) (by assumption) ?_
            try simp only [Act.put, List.setIfInBounds_toArray, List.set_cons_zero, List.set_cons_succ]
            refine wpHB_take (i := 1) (oi := ⟨some 72, _, _, _, _, _⟩) hdir hsel hpan rfl (by kernel_rfl) (by kernel_rfl) (by kernel_rfl) (Or.inl ⟨by rfl, fun _ _ => by rfl⟩) (by assumption) ?_
            try simp only [Act.put, List.setIfInBounds_toArray, List.set_cons_zero, List.set_cons_succ]
            refine wpHB_take (i := 2) (oi := ⟨some 73, _, _, _, _, _⟩) hdir hsel hpan rfl (by kernel_rfl) (by kernel_rfl) (by kernel_rfl) (Or.inl ⟨by rfl, fun _ _ => by rfl⟩) (by assumption) ?_
            try simp only [Act.put, List.setIfInBounds_toArray, List.set_cons_zero, List.set_cons_succ]
            refine wpHB_take (i := 3) (oi := ⟨some 74, _, _, _, _, _⟩) (v := .pointer (some ⟨b1, o1 + j, none⟩)) hdir hsel hpan rfl (by kernel_rfl) (by kernel_rfl) (by kernel_rfl) (Or.inl ⟨by rfl, fun w hw => by go_simp⟩) (by assumption) ?_
            try simp only [Act.put, List.setIfInBounds_toArray, List.set_cons_zero, List.set_cons_succ]
            refine wpHB_take (i := 4) (oi := ⟨some 75, _, _, _, _, _⟩) (v := .int .i64 xi) hdir hsel hpan rfl (by kernel_rfl) (by kernel_rfl) (by kernel_rfl) (Or.inl ⟨by rfl, fun w hw => by have hc := ((hw.out.cell (p := ⟨b1, o1 + j, none⟩) CX.out.2).trans CX.out.1); go_simp⟩) (by assumption) ?_
            try simp only [Act.put, List.setIfInBounds_toArray, List.set_cons_zero, List.set_cons_succ]
            refine wpHB_ready (rs := [5, 11]) (by kernel_rfl) (by simp) ?_
            refine AllHB.cons (by kernel_rfl) (o := ⟨some 76, _, _, _, _, _⟩) rfl (fun K hK => ?_) ?_
            · go_simp
              refine name_k ?_
              intro Vb hVb
              obtain ⟨BB, eBB, gb, hbb⟩ := (by first | exact list_new2 hVb | exact list_new2 (W := wr.drew) hVb : ∃ b, _)
              try rw [eBB]
              try (have eBB2 : wr.heap.size = BB := eBB; rw [eBB2])
              try (replace gp := gp.then_ hbb)
              clear hVb
              refine hK.out _ _ (Lib.hid (below_then hHeld.out hbb)) (fun hHeld2 => ?_)
              clear hK K hHeld
              have hHeld := hHeld2
              clear hHeld2
              try simp only [Act.put, List.setIfInBounds_toArray, List.set_cons_zero, List.set_cons_succ]
              refine wpHB_take (i := 6) (oi := ⟨some 77, _, _, _, _, _⟩) (v := .agg #[.int .i64 3, .slice (some ⟨BB, 0, none⟩) 1 1, .int .i64 0, .int .i64 0, .int .i64 0, .int .i64 0, .slice none 0 0, .int .i64 0, .int .i64 0, .bool false, .bool false, .int .i64 0, .int .i64 0, .int .i64 0, .int .i64 0, .int .i64 0, .int .i64 0, .bool false, .int .i64 0]) hdir hsel hpan rfl (by kernel_rfl) (by kernel_rfl) (by kernel_rfl) (Or.inl ⟨by rfl, fun w hw => by go_simp⟩) (by assumption) ?_
              try simp only [Act.put, List.setIfInBounds_toArray, List.set_cons_zero, List.set_cons_succ]
              refine wpHB_ready (rs := [7, 11]) (by kernel_rfl) (by simp) ?_
              refine AllHB.cons (by kernel_rfl) (o := ⟨some 78, _, _, _, _, _⟩) rfl (fun K hK => ?_) ?_
              · go_simp
                (go_at_call 12; (with_reducible refine (HCX.out _ BB hHeld.out gb).mono ?_); rintro e wa ⟨⟨m2, rfl, hca, hof⟩, hba⟩)
                try (have ho := hof.mono fun b hb => Nat.ne_of_gt (Nat.lt_of_lt_of_le gp.lt hb))
                try (replace gp := gp.then_ hba)
                have hoB := hof.mono fun b hb => Nat.le_trans hHeld.out.size hb
                clear hof
                refine hK.out _ _ (Lib.hid (below_then hHeld.out hba)) (fun hHeld2 => ?_)
                clear hK K hHeld
                have hHeld := hHeld2
                clear hHeld2
                try simp only [Act.put, List.setIfInBounds_toArray, List.set_cons_zero, List.set_cons_succ]
                refine wpHB_take (i := 8) (oi := ⟨some 70, _, _, _, _, _⟩) hdir hsel hpan rfl (by kernel_rfl) (by kernel_rfl) (by kernel_rfl) (Or.inl ⟨by rfl, fun _ _ => by rfl⟩) (by assumption) ?_
                try simp only [Act.put, List.setIfInBounds_toArray, List.set_cons_zero, List.set_cons_succ]
                refine wpHB_take (i := 9) (oi := ⟨some 79, _, _, _, _, _⟩) hdir hsel hpan rfl (by kernel_rfl) (by kernel_rfl) (by kernel_rfl) (Or.inl ⟨by rfl, fun _ _ => by rfl⟩) (by assumption) ?_
                try simp only [Act.put, List.setIfInBounds_toArray, List.set_cons_zero, List.set_cons_succ]
                refine wpHB_take (i := 10) (oi := ⟨some 80, _, _, _, _, _⟩) hdir hsel hpan rfl (by kernel_rfl) (by kernel_rfl) (by kernel_rfl) (Or.inl ⟨by rfl, fun _ _ => by rfl⟩) (by assumption) ?_
                try simp only [Act.put, List.setIfInBounds_toArray, List.set_cons_zero, List.set_cons_succ]
                refine wpHB_ready (rs := [11]) (by kernel_rfl) (by simp) ?_
                refine AllHB.cons (by kernel_rfl) (o := ⟨some 13, _, _, _, _, _⟩) rfl (fun K hK => ?_) AllHB.nil
                go_simp
                have lla := hHeld.out.size
                refine name_k ?_
                intro Vp hVp
                obtain ⟨gp, hbp⟩ : _ ∧ _ := (by first | exact con_new hVp | exact con_new (W := wr.drew) hVp)
                try (have ho := hca.off.mono fun b hb => Nat.ne_of_lt hb)
                try (replace hca := hca.then_ hbp)
                try (replace gb := gb.then_ hbp)
                clear hVp
                refine hK.out _ _ (Lib.hid (below_then hHeld.out hbp)) (fun hHeld2 => ?_)
                clear hK K hHeld
                have hHeld := hHeld2
                clear hHeld2
                try simp only [Act.put, List.setIfInBounds_toArray, List.set_cons_zero, List.set_cons_succ]
                refine wpHB_ready (rs := [12]) (by kernel_rfl) (by simp) ?_
                refine AllHB.cons (by kernel_rfl) (o := ⟨none, _, _, _, _, _⟩) rfl (fun K hK => ?_) AllHB.nil
                rw [if_pos (by rfl)]
                refine wp_store_all 27 _ _ rfl _ 27 [] coZ.toList [] (coA CB m2).toList rfl rfl gp rfl (by kernel_rfl) (by simp [Value.oneCell']) ?_
                intro w8 g8 U8
                refine hK.out _ _ (Lib.hid (hHeld.out.trans (U8.b _ lla))) (fun hHeld2 => ?_)
                clear hK K hHeld
                have hHeld := hHeld2
                clear hHeld2
                try simp only [Act.put]
                refine wpHB_tail (by kernel_rfl) (by kernel_rfl) ?_
                clear hdir hsel hpan
                simp only [opsAt, List.getElem?_toArray, List.getElem?_cons_succ, List.getElem?_cons_zero, Option.toList_some, List.cons_append, List.nil_append]
                go_wp2
                go_meet
                case rel => exact ⟨_, m2, rfl, rfl, g8, hca.upd U8 ho, hoB, lla, hHeld.out⟩
              refine AllHB.cons (by kernel_rfl) (o := ⟨some 13, _, _, _, _, _⟩) rfl (fun K hK => ?_) ?_
              · go_simp
                have lla := hHeld.out.size
                refine name_k ?_
                intro Vp hVp
                obtain ⟨gp, hbp⟩ : _ ∧ _ := (by first | exact con_new hVp | exact con_new (W := wr.drew) hVp)
                try (have ho := hca.off.mono fun b hb => Nat.ne_of_lt hb)
                try (replace hca := hca.then_ hbp)
                try (replace gb := gb.then_ hbp)
                clear hVp
                refine hK.out _ _ (Lib.hid (below_then hHeld.out hbp)) (fun hHeld2 => ?_)
                clear hK K hHeld
                have hHeld := hHeld2
                clear hHeld2
                try simp only [Act.put, List.setIfInBounds_toArray, List.set_cons_zero, List.set_cons_succ]
                refine wpHB_ready (rs := [7]) (by kernel_rfl) (by simp) ?_
                refine AllHB.cons (by kernel_rfl) (o := ⟨some 78, _, _, _, _, _⟩) rfl (fun K hK => ?_) AllHB.nil
                go_simp
                (go_at_call 12; (with_reducible refine (HCX.out _ BB hHeld.out gb).mono ?_); rintro e wa ⟨⟨m2, rfl, hca, hof⟩, hba⟩)
                try (have ho := hof.mono fun b hb => Nat.ne_of_gt (Nat.lt_of_lt_of_le gp.lt hb))
                try (replace gp := gp.then_ hba)
                have hoB := hof.mono fun b hb => Nat.le_trans hHeld.out.size hb
                clear hof
                refine hK.out _ _ (Lib.hid (below_then hHeld.out hba)) (fun hHeld2 => ?_)
                clear hK K hHeld
                have hHeld := hHeld2
                clear hHeld2
                try simp only [Act.put, List.setIfInBounds_toArray, List.set_cons_zero, List.set_cons_succ]
                refine wpHB_take (i := 8) (oi := ⟨some 70, _, _, _, _, _⟩) hdir hsel hpan rfl (by kernel_rfl) (by kernel_rfl) (by kernel_rfl) (Or.inl ⟨by rfl, fun _ _ => by rfl⟩) (by assumption) ?_
                try simp only [Act.put, List.setIfInBounds_toArray, List.set_cons_zero, List.set_cons_succ]
                refine wpHB_take (i := 9) (oi := ⟨some 79, _, _, _, _, _⟩) hdir hsel hpan rfl (by kernel_rfl) (by kernel_rfl) (by kernel_rfl) (Or.inl ⟨by rfl, fun _ _ => by rfl⟩) (by assumption) ?_
                try simp only [Act.put, List.setIfInBounds_toArray, List.set_cons_zero, List.set_cons_succ]
                refine wpHB_take (i := 10) (oi := ⟨some 80, _, _, _, _, _⟩) hdir hsel hpan rfl (by kernel_rfl) (by kernel_rfl) (by kernel_rfl) (Or.inl ⟨by rfl, fun _ _ => by rfl⟩) (by assumption) ?_
                try simp only [Act.put, List.setIfInBounds_toArray, List.set_cons_zero, List.set_cons_succ]
                refine wpHB_ready (rs := [12]) (by kernel_rfl) (by simp) ?_
                refine AllHB.cons (by kernel_rfl) (o := ⟨none, _, _, _, _, _⟩) rfl (fun K hK => ?_) AllHB.nil
                rw [if_pos (by rfl)]
                refine wp_store_all 27 _ _ rfl _ 27 [] coZ.toList [] (coA CB m2).toList rfl rfl gp rfl (by kernel_rfl) (by simp [Value.oneCell']) ?_
                intro w8 g8 U8
                refine hK.out _ _ (Lib.hid (hHeld.out.trans (U8.b _ lla))) (fun hHeld2 => ?_)
                clear hK K hHeld
                have hHeld := hHeld2
                clear hHeld2
                try simp only [Act.put]
                refine wpHB_tail (by kernel_rfl) (by kernel_rfl) ?_
                clear hdir hsel hpan
                simp only [opsAt, List.getElem?_toArray, List.getElem?_cons_succ, List.getElem?_cons_zero, Option.toList_some, List.cons_append, List.nil_append]
                go_wp2
                go_meet
                case rel => exact ⟨_, m2, rfl, rfl, g8, hca.upd U8 ho, hoB, lla, hHeld.out⟩
              exact AllHB.nil
            refine AllHB.cons (by kernel_rfl) (o := ⟨some 13, _, _, _, _, _⟩) rfl (fun K hK => ?_) ?_
            · go_simp
              have lla := hHeld.out.size
              refine name_k ?_
              intro Vp hVp
              obtain ⟨gp, hbp⟩ : _ ∧ _ := (by first | exact con_new hVp | exact con_new (W := wr.drew) hVp)
              try (have ho := hca.off.mono fun b hb => Nat.ne_of_lt hb)
              try (replace hca := hca.then_ hbp)
              try (replace gb := gb.then_ hbp)
              clear hVp
              refine hK.out _ _ (Lib.hid (below_then hHeld.out hbp)) (fun hHeld2 => ?_)
              clear hK K hHeld
              have hHeld := hHeld2
              clear hHeld2
              try simp only [Act.put, List.setIfInBounds_toArray, List.set_cons_zero, List.set_cons_succ]
              refine wpHB_ready (rs := [5]) (by kernel_rfl) (by simp) ?_
              refine AllHB.cons (by kernel_rfl) (o := ⟨some 76, _, _, _, _, _⟩) rfl (fun K hK => ?_) AllHB.nil
              go_simp
              refine name_k ?_
              intro Vb hVb
              obtain ⟨BB, eBB, gb, hbb⟩ := (by first | exact list_new2 hVb | exact list_new2 (W := wr.drew) hVb : ∃ b, _)
              try rw [eBB]
              try (have eBB2 : wr.heap.size = BB := eBB; rw [eBB2])
              try (replace gp := gp.then_ hbb)
              clear hVb
              refine hK.out _ _ (Lib.hid (below_then hHeld.out hbb)) (fun hHeld2 => ?_)
              clear hK K hHeld
              have hHeld := hHeld2
              clear hHeld2
              try simp only [Act.put, List.setIfInBounds_toArray, List.set_cons_zero, List.set_cons_succ]
              refine wpHB_take (i := 6) (oi := ⟨some 77, _, _, _, _, _⟩) (v := .agg #[.int .i64 3, .slice (some ⟨BB, 0, none⟩) 1 1, .int .i64 0, .int .i64 0, .int .i64 0, .int .i64 0, .slice none 0 0, .int .i64 0, .int .i64 0, .bool false, .bool false, .int .i64 0, .int .i64 0, .int .i64 0, .int .i64 0, .int .i64 0, .int .i64 0, .bool false, .int .i64 0]) hdir hsel hpan rfl (by kernel_rfl) (by kernel_rfl) (by kernel_rfl) (Or.inl ⟨by rfl, fun w hw => by go_simp⟩) (by assumption) ?_
              try simp only [Act.put, List.setIfInBounds_toArray, List.set_cons_zero, List.set_cons_succ]
              refine wpHB_ready (rs := [7]) (by kernel_rfl) (by simp) ?_
              refine AllHB.cons (by kernel_rfl) (o := ⟨some 78, _, _, _, _, _⟩) rfl (fun K hK => ?_) AllHB.nil
              go_simp
              (go_at_call 12; (with_reducible refine (HCX.out _ BB hHeld.out gb).mono ?_); rintro e wa ⟨⟨m2, rfl, hca, hof⟩, hba⟩)
              try (have ho := hof.mono fun b hb => Nat.ne_of_gt (Nat.lt_of_lt_of_le gp.lt hb))
              try (replace gp := gp.then_ hba)
              have hoB := hof.mono fun b hb => Nat.le_trans hHeld.out.size hb
              clear hof
              refine hK.out _ _ (Lib.hid (below_then hHeld.out hba)) (fun hHeld2 => ?_)
              clear hK K hHeld
              have hHeld := hHeld2
              clear hHeld2
              try simp only [Act.put, List.setIfInBounds_toArray, List.set_cons_zero, List.set_cons_succ]
              refine wpHB_take (i := 8) (oi := ⟨some 70, _, _, _, _, _⟩) hdir hsel hpan rfl (by kernel_rfl) (by kernel_rfl) (by kernel_rfl) (Or.inl ⟨by rfl, fun _ _ => by rfl⟩) (by assumption) ?_
              try simp only [Act.put, List.setIfInBounds_toArray, List.set_cons_zero, List.set_cons_succ]
              refine wpHB_take (i := 9) (oi := ⟨some 79, _, _, _, _, _⟩) hdir hsel hpan rfl (by kernel_rfl) (by kernel_rfl) (by kernel_rfl) (Or.inl ⟨by rfl, fun _ _ => by rfl⟩) (by assumption) ?_
              try simp only [Act.put, List.setIfInBounds_toArray, List.set_cons_zero, List.set_cons_succ]
              refine wpHB_take (i := 10) (oi := ⟨some 80, _, _, _, _, _⟩) hdir hsel hpan rfl (by kernel_rfl) (by kernel_rfl) (by kernel_rfl) (Or.inl ⟨by rfl, fun _ _ => by rfl⟩) (by assumption) ?_
              try simp only [Act.put, List.setIfInBounds_toArray, List.set_cons_zero, List.set_cons_succ]
              refine wpHB_ready (rs := [12]) (by kernel_rfl) (by simp) ?_
              refine AllHB.cons (by kernel_rfl) (o := ⟨none, _, _, _, _, _⟩) rfl (fun K hK => ?_) AllHB.nil
              rw [if_pos (by rfl)]
              refine wp_store_all 27 _ _ rfl _ 27 [] coZ.toList [] (coA CB m2).toList rfl rfl gp rfl (by kernel_rfl) (by simp [Value.oneCell']) ?_
              intro w8 g8 U8
              refine hK.out _ _ (Lib.hid (hHeld.out.trans (U8.b _ lla))) (fun hHeld2 => ?_)
              clear hK K hHeld
              have hHeld := hHeld2
              clear hHeld2
              try simp only [Act.put]
              refine wpHB_tail (by kernel_rfl) (by kernel_rfl) ?_
              clear hdir hsel hpan
              simp only [opsAt, List.getElem?_toArray, List.getElem?_cons_succ, List.getElem?_cons_zero, Option.toList_some, List.cons_append, List.nil_append]
              go_wp2
              go_meet
              case rel => exact ⟨_, m2, rfl, rfl, g8, hca.upd U8 ho, hoB, lla, hHeld.out⟩
            exact AllHB.nil
          obtain ⟨bx, mx, rfl, rfl, gbx, hx, hox, hlx, hbx⟩ := hcut
          obtain ⟨Wx, rfl⟩ : ∃ W, W = wc := ⟨_, rfl⟩
          have HH1 := hbx
          have HB1 := below_then HB0 HH1
          have gP_1 := gP.then_ HH1
          have gQ_1 := gQ.then_ HH1
          clear gP gQ HB0 HH1
          have HOX := Lib.hid hox
          have hB17 := hbx
          clear hox HCX CX hix
          go_upto_region 18 with (fail)
          go_cut [15, 16] from 81 to 95 (fun v15 v16 W => ∃ q m, v15 = .pointer (some ⟨q, 0, none⟩) ∧ v16 = .int .i64 0 ∧ Blk W q 27 (coA CD m) ∧ Cont W CD m ∧ Off (Wx.heap.size ≤ ·) CD m ∧ Wx.heap.size ≤ q ∧ Below Wx.heap.size Wx W)
          case first =>
            refine wp_region_hb (fun w' => Hid (Below Wx.heap.size Wx w')) [0, 1, 2, 3, 4, 5, 6, 7, 8, 9, 10, 11, 12, 13, 14, 15, 16] [17] (by kernel_rfl) (by kernel_rfl) (by repeat (first | with_reducible refine panOk_then ?_ | with_reducible refine panOk_block ?_ | exact panOk_body)) (Lib.hid (Below.drew (Below.refl _ _))) (fun hdir hsel hpan hHeld => ?_)
            refine wpHB_take (i := 0) (oi := ⟨some 82, _, _, _, _, _⟩) hdir hsel hpan rfl (by kernel_rfl) (by kernel_rfl) (by kernel_rfl) (yieldsIf_row (by rfl) 27 _ rfl q rfl 27 _ (fun w hw => (gQ_1.then_ hw.out)) ⟨_, Tryz.underlying27⟩ (by kernel_rfl)) (by assumption) ?_
            try simp only [Act.put, List.setIfInBounds_toArray, List.set_cons_zero, List.set_cons_succ]
            refine wpHB_take (i := 1) (oi := ⟨some 83, _, _, _, _, _⟩) hdir hsel hpan rfl (by kernel_rfl) (by kernel_rfl) (by kernel_rfl) (Or.inl ⟨by rfl, fun _ _ => by rfl⟩) (by assumption) ?_
            try simp only [Act.put, List.setIfInBounds_toArray, List.set_cons_zero, List.set_cons_succ]
            refine wpHB_take (i := 2) (oi := ⟨some 84, _, _, _, _, _⟩) hdir hsel hpan rfl (by kernel_rfl) (by kernel_rfl) (by kernel_rfl) (Or.inl ⟨by rfl, fun _ _ => by rfl⟩) (by assumption) ?_
            try simp only [Act.put, List.setIfInBounds_toArray, List.set_cons_zero, List.set_cons_succ]
            refine wpHB_take (i := 3) (oi := ⟨some 85, _, _, _, _, _⟩) (v := .int .i64 (nL : Int)) hdir hsel hpan rfl (by kernel_rfl) (by kernel_rfl) (by kernel_rfl) (Or.inl ⟨by rfl, fun w hw => by go_simp⟩) (by assumption) ?_
            try simp only [Act.put, List.setIfInBounds_toArray, List.set_cons_zero, List.set_cons_succ]
            refine wpHB_take (i := 4) (oi := ⟨some 86, _, _, _, _, _⟩) (v := .int .i64 ((nL : Int) - 1)) hdir hsel hpan rfl (by kernel_rfl) (by kernel_rfl) (by kernel_rfl) (Or.inl ⟨by rfl, fun w hw => by go_simp⟩) (by assumption) ?_
            try simp only [Act.put, List.setIfInBounds_toArray, List.set_cons_zero, List.set_cons_succ]
            refine wpHB_take (i := 5) (oi := ⟨some 87, _, _, _, _, _⟩) hdir hsel hpan rfl (by kernel_rfl) (by kernel_rfl) (by kernel_rfl) (Or.inl ⟨by rfl, fun _ _ => by rfl⟩) (by assumption) ?_
            try simp only [Act.put, List.setIfInBounds_toArray, List.set_cons_zero, List.set_cons_succ]
            refine wpHB_take (i := 6) (oi := ⟨some 88, _, _, _, _, _⟩) (v := .int .i64 ((nL - 1 - j : Nat) : Int)) hdir hsel hpan rfl (by kernel_rfl) (by kernel_rfl) (by kernel_rfl) (Or.inl ⟨by rfl, fun w hw => by go_simp⟩) (by assumption) ?_
            try simp only [Act.put, List.setIfInBounds_toArray, List.set_cons_zero, List.set_cons_succ]
            refine wpHB_take (i := 7) (oi := ⟨some 89, _, _, _, _, _⟩) (v := .pointer (some ⟨b2, o2 + (nL - 1 - j), none⟩)) hdir hsel hpan rfl (by kernel_rfl) (by kernel_rfl) (by kernel_rfl) (Or.inl ⟨by rfl, fun w hw => by go_simp⟩) (by assumption) ?_
            try simp only [Act.put, List.setIfInBounds_toArray, List.set_cons_zero, List.set_cons_succ]
            refine wpHB_take (i := 8) (oi := ⟨some 90, _, _, _, _, _⟩) (v := .int .i64 yi) hdir hsel hpan rfl (by kernel_rfl) (by kernel_rfl) (by kernel_rfl) (Or.inl ⟨by rfl, fun w hw => by have hc := (((below_then hB17 hw.out).cell (p := ⟨b2, o2 + (nL - 1 - j), none⟩) CY.out.2).trans CY.out.1); go_simp⟩) (by assumption) ?_
            try simp only [Act.put, List.setIfInBounds_toArray, List.set_cons_zero, List.set_cons_succ]
            refine wpHB_ready (rs := [9, 15]) (by kernel_rfl) (by simp) ?_
            refine AllHB.cons (by kernel_rfl) (o := ⟨some 91, _, _, _, _, _⟩) rfl (fun K hK => ?_) ?_
            · go_simp
              refine name_k ?_
              intro Vb hVb
              obtain ⟨BB, eBB, gb, hbb⟩ := (by first | exact list_new2 hVb | exact list_new2 (W := Wx.drew) hVb : ∃ b, _)
              try rw [eBB]
              try (have eBB2 : Wx.heap.size = BB := eBB; rw [eBB2])
              try (replace gp := gp.then_ hbb)
              clear hVb
              refine hK.out _ _ (Lib.hid (below_then hHeld.out hbb)) (fun hHeld2 => ?_)
              clear hK K hHeld
              have hHeld := hHeld2
              clear hHeld2
              try simp only [Act.put, List.setIfInBounds_toArray, List.set_cons_zero, List.set_cons_succ]
              refine wpHB_take (i := 10) (oi := ⟨some 92, _, _, _, _, _⟩) (v := .agg #[.int .i64 3, .slice (some ⟨BB, 0, none⟩) 1 1, .int .i64 0, .int .i64 0, .int .i64 0, .int .i64 0, .slice none 0 0, .int .i64 0, .int .i64 0, .bool false, .bool false, .int .i64 0, .int .i64 0, .int .i64 0, .int .i64 0, .int .i64 0, .int .i64 0, .bool false, .int .i64 0]) hdir hsel hpan rfl (by kernel_rfl) (by kernel_rfl) (by kernel_rfl) (Or.inl ⟨by rfl, fun w hw => by go_simp⟩) (by assumption) ?_
              try simp only [Act.put, List.setIfInBounds_toArray, List.set_cons_zero, List.set_cons_succ]
              refine wpHB_ready (rs := [11, 15]) (by kernel_rfl) (by simp) ?_
              refine AllHB.cons (by kernel_rfl) (o := ⟨some 93, _, _, _, _, _⟩) rfl (fun K hK => ?_) ?_
              · go_simp
                (go_at_call 12; (with_reducible refine (HCY.out _ BB (below_then hB17 hHeld.out) gb).mono ?_); rintro e wa ⟨⟨m2, rfl, hca, hof⟩, hba⟩)
                try (have ho := hof.mono fun b hb => Nat.ne_of_gt (Nat.lt_of_lt_of_le gp.lt hb))
                try (replace gp := gp.then_ hba)
                have hoB := hof.mono fun b hb => Nat.le_trans hHeld.out.size hb
                clear hof
                refine hK.out _ _ (Lib.hid (below_then hHeld.out hba)) (fun hHeld2 => ?_)
                clear hK K hHeld
                have hHeld := hHeld2
                clear hHeld2
                try simp only [Act.put, List.setIfInBounds_toArray, List.set_cons_zero, List.set_cons_succ]
                refine wpHB_take (i := 12) (oi := ⟨some 81, _, _, _, _, _⟩) hdir hsel hpan rfl (by kernel_rfl) (by kernel_rfl) (by kernel_rfl) (Or.inl ⟨by rfl, fun _ _ => by rfl⟩) (by assumption) ?_
                try simp only [Act.put, List.setIfInBounds_toArray, List.set_cons_zero, List.set_cons_succ]
                refine wpHB_take (i := 13) (oi := ⟨some 94, _, _, _, _, _⟩) hdir hsel hpan rfl (by kernel_rfl) (by kernel_rfl) (by kernel_rfl) (Or.inl ⟨by rfl, fun _ _ => by rfl⟩) (by assumption) ?_
                try simp only [Act.put, List.setIfInBounds_toArray, List.set_cons_zero, List.set_cons_succ]
                refine wpHB_take (i := 14) (oi := ⟨some 95, _, _, _, _, _⟩) hdir hsel hpan rfl (by kernel_rfl) (by kernel_rfl) (by kernel_rfl) (Or.inl ⟨by rfl, fun _ _ => by rfl⟩) (by assumption) ?_
                try simp only [Act.put, List.setIfInBounds_toArray, List.set_cons_zero, List.set_cons_succ]
                refine wpHB_ready (rs := [15]) (by kernel_rfl) (by simp) ?_
                refine AllHB.cons (by kernel_rfl) (o := ⟨some 15, _, _, _, _, _⟩) rfl (fun K hK => ?_) AllHB.nil
                go_simp
                have lla := hHeld.out.size
                refine name_k ?_
                intro Vp hVp
                obtain ⟨gp, hbp⟩ : _ ∧ _ := (by first | exact con_new hVp | exact con_new (W := Wx.drew) hVp)
                try (have ho := hca.off.mono fun b hb => Nat.ne_of_lt hb)
                try (replace hca := hca.then_ hbp)
                try (replace gb := gb.then_ hbp)
                clear hVp
                refine hK.out _ _ (Lib.hid (below_then hHeld.out hbp)) (fun hHeld2 => ?_)
                clear hK K hHeld
                have hHeld := hHeld2
                clear hHeld2
                try simp only [Act.put, List.setIfInBounds_toArray, List.set_cons_zero, List.set_cons_succ]
                refine wpHB_ready (rs := [16]) (by kernel_rfl) (by simp) ?_
                refine AllHB.cons (by kernel_rfl) (o := ⟨none, _, _, _, _, _⟩) rfl (fun K hK => ?_) AllHB.nil
                rw [if_pos (by rfl)]
                refine wp_store_all 27 _ _ rfl _ 27 [] coZ.toList [] (coA CD m2).toList rfl rfl gp rfl (by kernel_rfl) (by simp [Value.oneCell']) ?_
                intro w8 g8 U8
                refine hK.out _ _ (Lib.hid (hHeld.out.trans (U8.b _ lla))) (fun hHeld2 => ?_)
                clear hK K hHeld
                have hHeld := hHeld2
                clear hHeld2
                try simp only [Act.put]
                refine wpHB_tail (by kernel_rfl) (by kernel_rfl) ?_
                clear hdir hsel hpan
                simp only [opsAt, List.getElem?_toArray, List.getElem?_cons_succ, List.getElem?_cons_zero, Option.toList_some, List.cons_append, List.nil_append]
                go_wp2
                go_meet
                case rel => exact ⟨_, m2, rfl, rfl, g8, hca.upd U8 ho, hoB, lla, hHeld.out⟩
              refine AllHB.cons (by kernel_rfl) (o := ⟨some 15, _, _, _, _, _⟩) rfl (fun K hK => ?_) ?_
              · go_simp
                have lla := hHeld.out.size
                refine name_k ?_
                intro Vp hVp
                obtain ⟨gp, hbp⟩ : _ ∧ _ := (by first | exact con_new hVp | exact con_new (W := Wx.drew) hVp)
                try (have ho := hca.off.mono fun b hb => Nat.ne_of_lt hb)
                try (replace hca := hca.then_ hbp)
                try (replace gb := gb.then_ hbp)
                clear hVp
                refine hK.out _ _ (Lib.hid (below_then hHeld.out hbp)) (fun hHeld2 => ?_)
                clear hK K hHeld
                have hHeld := hHeld2
                clear hHeld2
                try simp only [Act.put, List.setIfInBounds_toArray, List.set_cons_zero, List.set_cons_succ]
                refine wpHB_ready (rs := [11]) (by kernel_rfl) (by simp) ?_
                refine AllHB.cons (by kernel_rfl) (o := ⟨some 93, _, _, _, _, _⟩) rfl (fun K hK => ?_) AllHB.nil
                go_simp
                (go_at_call 12; (with_reducible refine (HCY.out _ BB (below_then hB17 hHeld.out) gb).mono ?_); rintro e wa ⟨⟨m2, rfl, hca, hof⟩, hba⟩)
                try (have ho := hof.mono fun b hb => Nat.ne_of_gt (Nat.lt_of_lt_of_le gp.lt hb))
                try (replace gp := gp.then_ hba)
                have hoB := hof.mono fun b hb => Nat.le_trans hHeld.out.size hb
                clear hof
                refine hK.out _ _ (Lib.hid (below_then hHeld.out hba)) (fun hHeld2 => ?_)
                clear hK K hHeld
                have hHeld := hHeld2
                clear hHeld2
                try simp only [Act.put, List.setIfInBounds_toArray, List.set_cons_zero, List.set_cons_succ]
                refine wpHB_take (i := 12) (oi := ⟨some 81, _, _, _, _, _⟩) hdir hsel hpan rfl (by kernel_rfl) (by kernel_rfl) (by kernel_rfl) (Or.inl ⟨by rfl, fun _ _ => by rfl⟩) (by assumption) ?_
                try simp only [Act.put, List.setIfInBounds_toArray, List.set_cons_zero, List.set_cons_succ]
                refine wpHB_take (i := 13) (oi := ⟨some 94, _, _, _, _, _⟩) hdir hsel hpan rfl (by kernel_rfl) (by kernel_rfl) (by kernel_rfl) (Or.inl ⟨by rfl, fun _ _ => by rfl⟩) (by assumption) ?_
                try simp only [Act.put, List.setIfInBounds_toArray, List.set_cons_zero, List.set_cons_succ]
                refine wpHB_take (i := 14) (oi := ⟨some 95, _, _, _, _, _⟩) hdir hsel hpan rfl (by kernel_rfl) (by kernel_rfl) (by kernel_rfl) (Or.inl ⟨by rfl, fun _ _ => by rfl⟩) (by assumption) ?_
                try simp only [Act.put, List.setIfInBounds_toArray, List.set_cons_zero, List.set_cons_succ]
                refine wpHB_ready (rs := [16]) (by kernel_rfl) (by simp) ?_
                refine AllHB.cons (by kernel_rfl) (o := ⟨none, _, _, _, _, _⟩) rfl (fun K hK => ?_) AllHB.nil
                rw [if_pos (by rfl)]
                refine wp_store_all 27 _ _ rfl _ 27 [] coZ.toList [] (coA CD m2).toList rfl rfl gp rfl (by kernel_rfl) (by simp [Value.oneCell']) ?_
                intro w8 g8 U8
                refine hK.out _ _ (Lib.hid (hHeld.out.trans (U8.b _ lla))) (fun hHeld2 => ?_)
                clear hK K hHeld
                have hHeld := hHeld2
                clear hHeld2
                try simp only [Act.put]
                refine wpHB_tail (by kernel_rfl) (by kernel_rfl) ?_
                clear hdir hsel hpan
                simp only [opsAt, List.getElem?_toArray, List.getElem?_cons_succ, List.getElem?_cons_zero, Option.toList_some, List.cons_append, List.nil_append]
                go_wp2
                go_meet
                case rel => exact ⟨_, m2, rfl, rfl, g8, hca.upd U8 ho, hoB, lla, hHeld.out⟩
              exact AllHB.nil
            refine AllHB.cons (by kernel_rfl) (o := ⟨some 15, _, _, _, _, _⟩) rfl (fun K hK => ?_) ?_
            · go_simp
              have lla := hHeld.out.size
              refine name_k ?_
              intro Vp hVp
              obtain ⟨gp, hbp⟩ : _ ∧ _ := (by first | exact con_new hVp | exact con_new (W := Wx.drew) hVp)
              try (have ho := hca.off.mono fun b hb => Nat.ne_of_lt hb)
              try (replace hca := hca.then_ hbp)
              try (replace gb := gb.then_ hbp)
              clear hVp
              refine hK.out _ _ (Lib.hid (below_then hHeld.out hbp)) (fun hHeld2 => ?_)
              clear hK K hHeld
              have hHeld := hHeld2
              clear hHeld2
              try simp only [Act.put, List.setIfInBounds_toArray, List.set_cons_zero, List.set_cons_succ]
              refine wpHB_ready (rs := [9]) (by kernel_rfl) (by simp) ?_
              refine AllHB.cons (by kernel_rfl) (o := ⟨some 91, _, _, _, _, _⟩) rfl (fun K hK => ?_) AllHB.nil
              go_simp
              refine name_k ?_
              intro Vb hVb
              obtain ⟨BB, eBB, gb, hbb⟩ := (by first | exact list_new2 hVb | exact list_new2 (W := Wx.drew) hVb : ∃ b, _)
              try rw [eBB]
              try (have eBB2 : Wx.heap.size = BB := eBB; rw [eBB2])
              try (replace gp := gp.then_ hbb)
              clear hVb
              refine hK.out _ _ (Lib.hid (below_then hHeld.out hbb)) (fun hHeld2 => ?_)
              clear hK K hHeld
              have hHeld := hHeld2
              clear hHeld2
              try simp only [Act.put, List.setIfInBounds_toArray, List.set_cons_zero, List.set_cons_succ]
              refine wpHB_take (i := 10) (oi := ⟨some 92, _, _, _, _, _⟩) (v := .agg #[.int .i64 3, .slice (some ⟨BB, 0, none⟩) 1 1, .int .i64 0, .int .i64 0, .int .i64 0, .int .i64 0, .slice none 0 0, .int .i64 0, .int .i64 0, .bool false, .bool false, .int .i64 0, .int .i64 0, .int .i64 0, .int .i64 0, .int .i64 0, .int .i64 0, .bool false, .int .i64 0]) hdir hsel hpan rfl (by kernel_rfl) (by kernel_rfl) (by kernel_rfl) (Or.inl ⟨by rfl, fun w hw => by go_simp⟩) (by assumption) ?_
              try simp only [Act.put, List.setIfInBounds_toArray, List.set_cons_zero, List.set_cons_succ]
              refine wpHB_ready (rs := [11]) (by kernel_rfl) (by simp) ?_
              refine AllHB.cons (by kernel_rfl) (o := ⟨some 93, _, _, _, _, _⟩) rfl (fun K hK => ?_) AllHB.nil
              go_simp
              (go_at_call 12; (with_reducible refine (HCY.out _ BB (below_then hB17 hHeld.out) gb).mono ?_); rintro e wa ⟨⟨m2, rfl, hca, hof⟩, hba⟩)
              try (have ho := hof.mono fun b hb => Nat.ne_of_gt (Nat.lt_of_lt_of_le gp.lt hb))
              try (replace gp := gp.then_ hba)
              have hoB := hof.mono fun b hb => Nat.le_trans hHeld.out.size hb
              clear hof
              refine hK.out _ _ (Lib.hid (below_then hHeld.out hba)) (fun hHeld2 => ?_)
              clear hK K hHeld
              have hHeld := hHeld2
              clear hHeld2
              try simp only [Act.put, List.setIfInBounds_toArray, List.set_cons_zero, List.set_cons_succ]
              refine wpHB_take (i := 12) (oi := ⟨some 81, _, _, _, _, _⟩) hdir hsel hpan rfl (by kernel_rfl) (by kernel_rfl) (by kernel_rfl) (Or.inl ⟨by rfl, fun _ _ => by rfl⟩) (by assumption) ?_
              try simp only [Act.put, List.setIfInBounds_toArray, List.set_cons_zero, List.set_cons_succ]
              refine wpHB_take (i := 13) (oi := ⟨some 94, _, _, _, _, _⟩) hdir hsel hpan rfl (by kernel_rfl) (by kernel_rfl) (by kernel_rfl) (Or.inl ⟨by rfl, fun _ _ => by rfl⟩) (by assumption) ?_
              try simp only [Act.put, List.setIfInBounds_toArray, List.set_cons_zero, List.set_cons_succ]
              refine wpHB_take (i := 14) (oi := ⟨some 95, _, _, _, _, _⟩) hdir hsel hpan rfl (by kernel_rfl) (by kernel_rfl) (by kernel_rfl) (Or.inl ⟨by rfl, fun _ _ => by rfl⟩) (by assumption) ?_
              try simp only [Act.put, List.setIfInBounds_toArray, List.set_cons_zero, List.set_cons_succ]
              refine wpHB_ready (rs := [16]) (by kernel_rfl) (by simp) ?_
              refine AllHB.cons (by kernel_rfl) (o := ⟨none, _, _, _, _, _⟩) rfl (fun K hK => ?_) AllHB.nil
              rw [if_pos (by rfl)]
              refine wp_store_all 27 _ _ rfl _ 27 [] coZ.toList [] (coA CD m2).toList rfl rfl gp rfl (by kernel_rfl) (by simp [Value.oneCell']) ?_
              intro w8 g8 U8
              refine hK.out _ _ (Lib.hid (hHeld.out.trans (U8.b _ lla))) (fun hHeld2 => ?_)
              clear hK K hHeld
              have hHeld := hHeld2
              clear hHeld2
              try simp only [Act.put]
              refine wpHB_tail (by kernel_rfl) (by kernel_rfl) ?_
              clear hdir hsel hpan
              simp only [opsAt, List.getElem?_toArray, List.getElem?_cons_succ, List.getElem?_cons_zero, Option.toList_some, List.cons_append, List.nil_append]
              go_wp2
              go_meet
              case rel => exact ⟨_, m2, rfl, rfl, g8, hca.upd U8 ho, hoB, lla, hHeld.out⟩
            exact AllHB.nil
          obtain ⟨bz, mz, rfl, rfl, gbz, hz, hoz, hlz, hbz⟩ := hcut
          obtain ⟨Wz, rfl⟩ : ∃ W, W = wc := ⟨_, rfl⟩
          have HH2 := hbz
          have HB2 := below_then HB1 HH2
          have gP_2 := gP_1.then_ HH2
          have gQ_2 := gQ_1.then_ HH2
          have gbx_2 := gbx.then_ HH2
          have hx_2 := hx.then_ HH2
          clear gP_1 gQ_1 gbx hx HB1 HH2
          clear HCY CY hiy hw1 hw2
          have l17 := hB17.size
          have oX : Off (fun b => b ≠ p ∧ b ≠ q) CB mx := HOX.out.mono fun b hb => by have h : wr.heap.size ≤ b := hb; omega
          have oY : Off (fun b => b ≠ p ∧ b ≠ q) CD mz := hoz.mono fun b hb => by have h : Wx.heap.size ≤ b := hb; omega
          have nxp : bx ≠ p := by omega
          have nxq : bx ≠ q := by omega
          have nyp : bz ≠ p := by omega
          have nyq : bz ≠ q := by omega
          go_upto_region 21 with (fail)
          have hD21 : Below Wz.heap.size Wz Wz.drew := Below.drew (Below.refl _ _)
          have gPd := gP_2.then_ hD21
          have gQd := gQ_2.then_ hD21
          have hXd := hx_2.then_ hD21
          have hYd := hz.then_ hD21
          refine wp_region_hb (fun w' => Hid (Blk w' bx 27 (coA CB mx) ∧ Blk w' bz 27 (coA CD mz) ∧ Below u5.heap.size u5 w')) [0, 1, 2] [3] (by kernel_rfl) (by kernel_rfl) (by repeat (first | with_reducible refine panOk_then ?_ | with_reducible refine panOk_block ?_ | exact panOk_body)) (Lib.hid ⟨gbx_2.then_ hD21, gbz.then_ hD21, below_then HB2 hD21⟩) (fun hdir hsel hpan hHeld => ?_)
          refine wpHB_take (i := 0) (oi := ⟨some 102, _, _, _, _, _⟩) hdir hsel hpan rfl (by kernel_rfl) (by kernel_rfl) (by kernel_rfl) (yieldsIf_row (by rfl) 27 _ rfl bx rfl 27 _ (fun w hw => hw.out.1) ⟨_, Tryz.underlying27⟩ (by kernel_rfl)) (by assumption) ?_
          try simp only [Act.put, List.setIfInBounds_toArray, List.set_cons_zero, List.set_cons_succ]
          refine wpHB_take (i := 1) (oi := ⟨some 103, _, _, _, _, _⟩) hdir hsel hpan rfl (by kernel_rfl) (by kernel_rfl) (by kernel_rfl) (yieldsIf_row (by rfl) 27 _ rfl bz rfl 27 _ (fun w hw => hw.out.2.1) ⟨_, Tryz.underlying27⟩ (by kernel_rfl)) (by assumption) ?_
          try simp only [Act.put, List.setIfInBounds_toArray, List.set_cons_zero, List.set_cons_succ]
          refine wpHB_ready (rs := [2]) (by kernel_rfl) (by simp) ?_
          refine AllHB.cons (by kernel_rfl) (o := ⟨none, _, _, _, _, _⟩) rfl (fun K hK => ?_) AllHB.nil
          rw [if_pos (by rfl)]
          refine wp_store_all 27 _ _ rfl _ 27 [] (coA B0 mb).toList [] (coA CB mx).toList rfl rfl gPd rfl (by kernel_rfl) (by simp [Value.oneCell']) ?_
          intro w8 g8 U8
          have gQ8 := gQd.upd U8 npq.symm
          refine hK.out _ _ (Lib.hid ⟨hHeld.out.1.upd U8 nxp, hHeld.out.2.1.upd U8 nyp, hHeld.out.2.2.trans (U8.b _ lp)⟩) (fun hHeld2 => ?_)
          clear hK K hHeld
          have hHeld := hHeld2
          clear hHeld2
          try simp only [Act.put]
          refine wpHB_tail (by kernel_rfl) (by kernel_rfl) ?_
          clear hdir hsel hpan
          simp only [opsAt, List.getElem?_toArray, List.getElem?_cons_succ, List.getElem?_cons_zero, Option.toList_some, List.cons_append, List.nil_append]
          go_wp2_with (refine wpList_store_all rfl 27 _ _ rfl _ 27 [] (coA D0 md).toList [] (coA CD mz).toList rfl rfl gQ8 rfl (by kernel_rfl) (by simp [Value.oneCell']) ?_; intro w9 g9 U9)
          have hst : Blk w9 p 27 (coA CB mx) ∧ Blk w9 q 27 (coA CD mz) ∧ Cont w9 CB mx ∧ Cont w9 CD mz ∧ Off (fun b => b ≠ p ∧ b ≠ q) CB mx ∧ Off (fun b => b ≠ p ∧ b ≠ q) CD mz := ⟨g8.upd U9 npq, g9, (hXd.upd U8 (oX.mono fun b hb => hb.1)).upd U9 (oX.mono fun b hb => hb.2), (hYd.upd U8 (oY.mono fun b hb => hb.1)).upd U9 (oY.mono fun b hb => hb.2), oX, oY⟩
          have HB6 := Lib.hid (hHeld.out.2.2.trans (U9.b _ lq))
          rw [← HEB.out, ← HED.out] at hst
          have HST2 := Lib.hid hst
          clear hst gPd gQd hXd hYd oX oY HOX hoz HST HB5
          first | exact ⟨⟨j + 1, mx, mz, by omega, by simp, HST2, HB6⟩, by simp [intOf]; omega⟩ | (go_roundw; (case rel => exact ⟨j + 1, mx, mz, by omega, by simp, HST2, HB6⟩); (case measure => simp [intOf]; omega))
        have tn : decide ((j : Int) < (nL : Int)) = false := decide_eq_false (by omega)
        have tn' : decide (j < nL) = false := decide_eq_false hlt
        have ej : j = nL := by omega
        have eB : (c.wc (mkW (L.take j) c.cl)) = C1 := by rw [HC1.out, ej, List.take_of_length_le (by rw [HnL.out]; exact Nat.le_refl _)]
        have eD : (c.wc (mkW (L.reverse.take j) c.cl)) = C1 := by rw [HC1.out, ej, List.take_of_length_le (by rw [List.length_reverse, HnL.out]; exact Nat.le_refl _), mkW_rev (fun x hx => (HIN.out x hx).1)]
        rw [eB, eD] at HST
        clear eB eD ej hlt hj'
        have gA := gbu5.then_ HB5.out
        have hA := hca.then_ HB5.out
        have gP := HST.out.1
        have gQ := HST.out.2.1
        have HQ1 := Lib.hid (fun W (hb : Below wr.heap.size wr W) => scon_to C1 C1 ma mb true W (hA.then_ hb) (HST.out.2.2.1.then_ hb) (by simp))
        have HQ2 := Lib.hid (fun W (hb : Below wr.heap.size wr W) => scon_to C1 C1 ma md true W (hA.then_ hb) (HST.out.2.2.2.1.then_ hb) (by simp))
        have hBE := below_then HB4 HB5.out
        clear hA
        go_wp2_with (first | (refine wpList_row_w (by rfl) 27 _ rfl bu5 rfl 27 _ gA ⟨_, Tryz.underlying27⟩ (by kernel_rfl) ?_; simp only [Act.put, List.setIfInBounds_toArray, List.set_cons_succ, List.set_cons_zero]) | (refine wpList_row_w (by rfl) 27 _ rfl p rfl 27 _ gP ⟨_, Tryz.underlying27⟩ (by kernel_rfl) ?_; simp only [Act.put, List.setIfInBounds_toArray, List.set_cons_succ, List.set_cons_zero]) | (go_at_call 15; (with_reducible refine (HQ1.out _ (Below.refl _ _)).mono ?_); rintro e wz ⟨rfl, hbz⟩) | (refine wpList_row_w (by rfl) 27 _ rfl bu5 rfl 27 _ (gA.then_ hbz) ⟨_, Tryz.underlying27⟩ (by kernel_rfl) ?_; simp only [Act.put, List.setIfInBounds_toArray, List.set_cons_succ, List.set_cons_zero]) | (refine wpList_row_w (by rfl) 27 _ rfl q rfl 27 _ (gQ.then_ hbz) ⟨_, Tryz.underlying27⟩ (by kernel_rfl) ?_; simp only [Act.put, List.setIfInBounds_toArray, List.set_cons_succ, List.set_cons_zero]) | (go_at_call 15; (with_reducible refine (HQ2.out _ hbz).mono ?_); rintro e wy ⟨rfl, hby⟩))
        go_ret
        exact ⟨rfl, below_then hBE (below_then hbz hby)⟩
    · have tn : decide ((N : Int) < (LW : Int)) = false := decide_eq_false (by omega)
      have tn' : decide (N < LW) = false := decide_eq_false hlw
      clear hlw tt
      have HH3 := hB2
      have HB3 := below_then HB2 HH3
      have gbc_3 := gbc_2.then_ HH3
      clear gbc_2 HB2 HH3
      have hs1 : SgI wr A1 L := HS1'.out
      clear HS1'
      go_upto_region 11 with (first | (refine wpList_row_w (by rfl) 27 _ rfl bc rfl 27 _ gbc_3 ⟨_, Tryz.underlying27⟩ (by kernel_rfl) ?_; simp only [Act.put, List.setIfInBounds_toArray, List.set_cons_succ, List.set_cons_zero]) | (go_at_call 12; (with_reducible refine (HA.out _ A1 k1 HB3 hs1 hk1).mono ?_); rintro e w5 ⟨⟨ma, rfl, hca0⟩, hbw5⟩) | (refine wpList_store_all rfl 27 _ _ rfl w5.heap.size 27 [] coZ.toList [] (coA C1 ma).toList rfl rfl (Blk.new _ _ _) rfl (by kernel_rfl) (by simp [Value.oneCell']) ?_; intro u5 gbu5 Uu5))
      have hsu5 : Below w5.heap.size w5 u5 := (wa1 _ _).trans (Uu5.b _ (Nat.le_refl _))
      have HH4 := below_then hbw5 hsu5
      have HB4 := below_then HB3 HH4
      have gbc_4 := gbc_3.then_ HH4
      have hs1_4 := hs1.then_ HH4
      clear gbc_3 hs1 HB3 HH4
      have hca := hca0.then_ hsu5
      obtain ⟨bu5, ebu5⟩ : ∃ b, w5.heap.size = b := ⟨_, rfl⟩
      rw [ebu5] at gbu5 ⊢
      clear ebu5 Uu5 hsu5 hbw5 hca0
      go_upto_region 13 with (fail)
      go_cut [10, 11] from 62 to 63 (fun v10 v11 W => ∃ p q, v10 = .pointer (some ⟨p, 0, none⟩) ∧ v11 = .pointer (some ⟨q, 0, none⟩) ∧ p ≠ q ∧ u5.heap.size ≤ p ∧ u5.heap.size ≤ q ∧ Blk W p 27 (coA c m) ∧ Blk W q 27 (coA c m) ∧ Below u5.heap.size u5 W)
      case first =>
        refine wp_region_hb (fun w' => Hid (Below u5.heap.size u5 w')) [0, 1, 2, 3, 4] [5] (by kernel_rfl) (by kernel_rfl) (by repeat (first | with_reducible refine panOk_then ?_ | with_reducible refine panOk_block ?_ | exact panOk_body)) (Lib.hid (Below.drew (Below.refl _ _))) (fun hdir hsel hpan hHeld => ?_)
        refine wpHB_take (i := 0) (oi := ⟨some 62, _, _, _, _, _⟩) hdir hsel hpan rfl (by kernel_rfl) (by kernel_rfl) (by kernel_rfl) (yieldsIf_row (by rfl) 27 _ rfl bc rfl 27 _ (fun w hw => (gbc_4.then_ hw.out)) ⟨_, Tryz.underlying27⟩ (by kernel_rfl)) (by assumption) ?_
        try simp only [Act.put, List.setIfInBounds_toArray, List.set_cons_zero, List.set_cons_succ]
        refine wpHB_take (i := 1) (oi := ⟨some 63, _, _, _, _, _⟩) hdir hsel hpan rfl (by kernel_rfl) (by kernel_rfl) (by kernel_rfl) (yieldsIf_row (by rfl) 27 _ rfl bc rfl 27 _ (fun w hw => (gbc_4.then_ hw.out)) ⟨_, Tryz.underlying27⟩ (by kernel_rfl)) (by assumption) ?_
        try simp only [Act.put, List.setIfInBounds_toArray, List.set_cons_zero, List.set_cons_succ]
        refine wpHB_ready (rs := [2, 3]) (by kernel_rfl) (by simp) ?_
        refine AllHB.cons (by kernel_rfl) (o := ⟨some 10, _, _, _, _, _⟩) rfl (fun K hK => ?_) ?_
        · go_simp
          have llP := hHeld.out.size
          refine name_k ?_
          intro Vp hVp
          obtain ⟨gP, hbp⟩ : _ ∧ _ := (by first | exact con_new hVp | exact con_new (W := u5.drew) hVp)
          try (have npq := Nat.ne_of_lt gQ.lt)
          try (replace gQ := gQ.then_ hbp)
          clear hVp
          refine hK.out _ _ (Lib.hid (below_then hHeld.out hbp)) (fun hHeld2 => ?_)
          clear hK K hHeld
          have hHeld := hHeld2
          clear hHeld2
          try simp only [Act.put, List.setIfInBounds_toArray, List.set_cons_zero, List.set_cons_succ]
          refine wpHB_ready (rs := [3]) (by kernel_rfl) (by simp) ?_
          refine AllHB.cons (by kernel_rfl) (o := ⟨some 11, _, _, _, _, _⟩) rfl (fun K hK => ?_) AllHB.nil
          go_simp
          have llQ := hHeld.out.size
          refine name_k ?_
          intro Vp hVp
          obtain ⟨gQ, hbp⟩ : _ ∧ _ := (by first | exact con_new hVp | exact con_new (W := u5.drew) hVp)
          try (have npq := Nat.ne_of_lt gP.lt)
          try (replace gP := gP.then_ hbp)
          clear hVp
          refine hK.out _ _ (Lib.hid (below_then hHeld.out hbp)) (fun hHeld2 => ?_)
          clear hK K hHeld
          have hHeld := hHeld2
          clear hHeld2
          try simp only [Act.put, List.setIfInBounds_toArray, List.set_cons_zero, List.set_cons_succ]
          refine wpHB_ready (rs := [4]) (by kernel_rfl) (by simp) ?_
          refine AllHB.cons (by kernel_rfl) (o := ⟨none, _, _, _, _, _⟩) rfl (fun K hK => ?_) AllHB.nil
          rw [if_pos (by rfl)]
          refine wp_store_all 27 _ _ rfl _ 27 [] coZ.toList [] (coA c m).toList rfl rfl gP rfl (by kernel_rfl) (by simp [Value.oneCell']) ?_
          intro w8 g8 U8
          have gQ8 := gQ.upd U8 (by first | exact npq | exact Ne.symm npq)
          clear gQ
          refine hK.out _ _ (Lib.hid (hHeld.out.trans (U8.b _ llP))) (fun hHeld2 => ?_)
          clear hK K hHeld
          have hHeld := hHeld2
          clear hHeld2
          try simp only [Act.put]
          refine wpHB_tail (by kernel_rfl) (by kernel_rfl) ?_
          clear hdir hsel hpan
          simp only [opsAt, List.getElem?_toArray, List.getElem?_cons_succ, List.getElem?_cons_zero, Option.toList_some, List.cons_append, List.nil_append]
          go_wp2_with (refine wpList_store_all rfl 27 _ _ rfl _ 27 [] coZ.toList [] (coA c m).toList rfl rfl gQ8 rfl (by kernel_rfl) (by simp [Value.oneCell']) ?_; intro w9 g9 U9)
          go_meet
          case rel => exact ⟨_, _, rfl, rfl, (by first | exact npq | exact Ne.symm npq), llP, llQ, g8.upd U9 (by first | exact npq | exact Ne.symm npq), g9, hHeld.out.trans (U9.b _ llQ)⟩
        refine AllHB.cons (by kernel_rfl) (o := ⟨some 11, _, _, _, _, _⟩) rfl (fun K hK => ?_) ?_
        · go_simp
          have llQ := hHeld.out.size
          refine name_k ?_
          intro Vp hVp
          obtain ⟨gQ, hbp⟩ : _ ∧ _ := (by first | exact con_new hVp | exact con_new (W := u5.drew) hVp)
          try (have npq := Nat.ne_of_lt gP.lt)
          try (replace gP := gP.then_ hbp)
          clear hVp
          refine hK.out _ _ (Lib.hid (below_then hHeld.out hbp)) (fun hHeld2 => ?_)
          clear hK K hHeld
          have hHeld := hHeld2
          clear hHeld2
          try simp only [Act.put, List.setIfInBounds_toArray, List.set_cons_zero, List.set_cons_succ]
          refine wpHB_ready (rs := [2]) (by kernel_rfl) (by simp) ?_
          refine AllHB.cons (by kernel_rfl) (o := ⟨some 10, _, _, _, _, _⟩) rfl (fun K hK => ?_) AllHB.nil
          go_simp
          have llP := hHeld.out.size
          refine name_k ?_
          intro Vp hVp
          obtain ⟨gP, hbp⟩ : _ ∧ _ := (by first | exact con_new hVp | exact con_new (W := u5.drew) hVp)
          try (have npq := Nat.ne_of_lt gQ.lt)
          try (replace gQ := gQ.then_ hbp)
          clear hVp
          refine hK.out _ _ (Lib.hid (below_then hHeld.out hbp)) (fun hHeld2 => ?_)
          clear hK K hHeld
          have hHeld := hHeld2
          clear hHeld2
          try simp only [Act.put, List.setIfInBounds_toArray, List.set_cons_zero, List.set_cons_succ]
          refine wpHB_ready (rs := [4]) (by kernel_rfl) (by simp) ?_
          refine AllHB.cons (by kernel_rfl) (o := ⟨none, _, _, _, _, _⟩) rfl (fun K hK => ?_) AllHB.nil
          rw [if_pos (by rfl)]
          refine wp_store_all 27 _ _ rfl _ 27 [] coZ.toList [] (coA c m).toList rfl rfl gP rfl (by kernel_rfl) (by simp [Value.oneCell']) ?_
          intro w8 g8 U8
          have gQ8 := gQ.upd U8 (by first | exact npq | exact Ne.symm npq)
          clear gQ
          refine hK.out _ _ (Lib.hid (hHeld.out.trans (U8.b _ llP))) (fun hHeld2 => ?_)
          clear hK K hHeld
          have hHeld := hHeld2
          clear hHeld2
          try simp only [Act.put]
          refine wpHB_tail (by kernel_rfl) (by kernel_rfl) ?_
          clear hdir hsel hpan
          simp only [opsAt, List.getElem?_toArray, List.getElem?_cons_succ, List.getElem?_cons_zero, Option.toList_some, List.cons_append, List.nil_append]
          go_wp2_with (refine wpList_store_all rfl 27 _ _ rfl _ 27 [] coZ.toList [] (coA c m).toList rfl rfl gQ8 rfl (by kernel_rfl) (by simp [Value.oneCell']) ?_; intro w9 g9 U9)
          go_meet
          case rel => exact ⟨_, _, rfl, rfl, (by first | exact npq | exact Ne.symm npq), llP, llQ, g8.upd U9 (by first | exact npq | exact Ne.symm npq), g9, hHeld.out.trans (U9.b _ llQ)⟩
        exact AllHB.nil
      obtain ⟨p, q, rfl, rfl, npq, lp, lq, gp, gq, hb13⟩ := hcut
      obtain ⟨V0, rfl⟩ : ∃ W, W = wc := ⟨_, rfl⟩
      have HM0 : Hid (Off (fun b => b ≠ p ∧ b ≠ q) c m) := HCC.out.off.mono fun b hb => by have := HB4.size; omega
      have HC0 : Hid (Cont V0 c m) := HCC.out.then_ (below_then HB4 hb13)
      go_upto_region 15 with (fail)
      go_loopw [12, 13, 14, 15, 16] (fun y x f z g WR => ∃ (j : Nat) (mb md : Cm), j ≤ nL ∧ y = .int .i64 j ∧ Hid (Blk WR p 27 (coA (c.wc (mkW (L.take j) c.cl)) mb) ∧ Blk WR q 27 (coA (c.wc (mkW (L.reverse.take j) c.cl)) md) ∧ Cont WR (c.wc (mkW (L.take j) c.cl)) mb ∧ Cont WR (c.wc (mkW (L.reverse.take j) c.cl)) md ∧ Off (fun b => b ≠ p ∧ b ≠ q) (c.wc (mkW (L.take j) c.cl)) mb ∧ Off (fun b => b ≠ p ∧ b ≠ q) (c.wc (mkW (L.reverse.take j) c.cl)) md) ∧ Hid (Below u5.heap.size u5 WR)) (fun y _ _ _ _ _ => 2000000 - (intOf y).toNat)
      case atStart => exact ⟨0, m, m, by omega, rfl, ⟨gp, gq, HC0.out, HC0.out, HM0.out, HM0.out⟩, hb13⟩
      case round =>
        clear gp gq HC0 HM0 hb13
        obtain ⟨j, mb, md, hj', rfl, HST, HB5⟩ := hrel
        have hwj := wrap_small (n := j) (by omega)
        by_cases hlt : j < nL
        · have tn : decide ((j : Int) < (nL : Int)) = true := decide_eq_true (by omega)
          have tn' : decide (j < nL) = true := decide_eq_true hlt
          obtain ⟨xi, hxi⟩ : ∃ v, L[j]? = some v := ⟨_, List.getElem?_eq_getElem (by rw [HnL.out]; exact hlt)⟩
          obtain ⟨yi, hyi⟩ : ∃ v, L[nL - 1 - j]? = some v := ⟨_, List.getElem?_eq_getElem (by rw [HnL.out]; omega)⟩
          have hxm := HIN.out xi (List.mem_of_getElem? hxi)
          have hym := HIN.out yi (List.mem_of_getElem? hyi)
          have hwx := wai_law (S := L.take j) HOK.out (fun z hz => (HIN.out z (List.mem_of_mem_take hz)).1) hxm.1 hxm.2
          have hwy := wai_law (S := L.reverse.take j) HOK.out (fun z hz => (HIN.out z (List.mem_reverse.1 (List.mem_of_mem_take hz))).1) hym.1 hym.2
          rw [← take_wai hxi] at hwx
          rw [← take_wai (show L.reverse[j]? = some yi by rw [rev_get (by rw [HnL.out]; exact hlt), HnL.out]; exact hyi)] at hwy
          have hsr := hs1_4.then_ HB5.out
          obtain ⟨b1, o1, eA1, hb1, hc1⟩ := segAt hsr hxi
          obtain ⟨b2, o2, eA2, hb2, hc2⟩ := segAt hsr hyi
          have CX : Hid (wr.cell? ⟨b1, o1 + j, none⟩ = some (.int .i64 xi) ∧ b1 < wr.heap.size) := ⟨by simpa using hc1 0 _ rfl, hb1⟩
          have CY : Hid (wr.cell? ⟨b2, o2 + (nL - 1 - j), none⟩ = some (.int .i64 yi) ∧ b2 < wr.heap.size) := ⟨by simpa using hc2 0 _ rfl, hb2⟩
          have hix := fun W => idx_at (t := 22) (size := 1) (cap := k1) (len := nL) (k := j) eA1 hlt (by kernel_rfl) (fun W => by kernel_rfl) W
          have hiy := fun W => idx_at (t := 22) (size := 1) (cap := k1) (len := nL) (k := nL - 1 - j) eA2 (by omega) (by kernel_rfl) (fun W => by kernel_rfl) W
          have HXE := Lib.hid hwx
          have HYE := Lib.hid hwy
          clear hxi hyi hxm hym hwx hwy hsr hb1 hc1 hb2 hc2 eA1 eA2
          obtain ⟨B0, eB0⟩ : ∃ C, (c.wc (mkW (L.take j) c.cl)) = C := ⟨_, rfl⟩
          obtain ⟨D0, eD0⟩ : ∃ C, (c.wc (mkW (L.reverse.take j) c.cl)) = C := ⟨_, rfl⟩
          obtain ⟨CB, eCB⟩ : ∃ C, (c.wc (mkW (L.take (j + 1)) c.cl)) = C := ⟨_, rfl⟩
          obtain ⟨CD, eCD⟩ : ∃ C, (c.wc (mkW (L.reverse.take (j + 1)) c.cl)) = C := ⟨_, rfl⟩
          rw [eB0, eCB] at HXE
          rw [eD0, eCD] at HYE
          rw [eB0, eD0] at HST
          clear eB0 eD0
          have HEB := Lib.hid eCB
          have HED := Lib.hid eCD
          clear eCB eCD
          have HCX : Hid (∀ W b, Below wr.heap.size wr W → Blk W b 3 #[.int .i64 xi] → Calls Tryz.prog 12 #[.agg (coA B0 mb), .agg #[.int .i64 3, .slice (some ⟨b, 0, none⟩) 1 1, .int .i64 0, .int .i64 0, .int .i64 0, .int .i64 0, .slice none 0 0, .int .i64 0, .int .i64 0, .bool false, .bool false, .int .i64 0, .int .i64 0, .int .i64 0, .int .i64 0, .int .i64 0, .int .i64 0, .bool false, .int .i64 0]] W fun e w' => (∃ m', e = .returned (.tuple #[.agg (coA CB m'), .int .i64 0]) ∧ Cont w' CB m' ∧ Off (W.heap.size ≤ ·) CB m') ∧ Below W.heap.size W w') := fun W b hb hg => apply_off B0 CB mb (.wai xi) ⟨some ⟨b, 0, none⟩, 1, none, 0⟩ 0 W (HST.out.2.2.1.then_ hb) (patM_one hg rfl rfl) HXE.out.1 (by rw [apC_yes HXE.out.1, HXE.out.2])
          have HCY : Hid (∀ W b, Below wr.heap.size wr W → Blk W b 3 #[.int .i64 yi] → Calls Tryz.prog 12 #[.agg (coA D0 md), .agg #[.int .i64 3, .slice (some ⟨b, 0, none⟩) 1 1, .int .i64 0, .int .i64 0, .int .i64 0, .int .i64 0, .slice none 0 0, .int .i64 0, .int .i64 0, .bool false, .bool false, .int .i64 0, .int .i64 0, .int .i64 0, .int .i64 0, .int .i64 0, .int .i64 0, .bool false, .int .i64 0]] W fun e w' => (∃ m', e = .returned (.tuple #[.agg (coA CD m'), .int .i64 0]) ∧ Cont w' CD m' ∧ Off (W.heap.size ≤ ·) CD m') ∧ Below W.heap.size W w') := fun W b hb hg => apply_off D0 CD md (.wai yi) ⟨some ⟨b, 0, none⟩, 1, none, 0⟩ 0 W (HST.out.2.2.2.1.then_ hb) (patM_one hg rfl rfl) HYE.out.1 (by rw [apC_yes HYE.out.1, HYE.out.2])
          clear HXE HYE
          have hw1 : IntKind.i64.wrap ((nL : Int) - 1) = (nL : Int) - 1 := by rw [IntKind.wrap_i64]; omega
          have hw2 : IntKind.i64.wrap ((nL : Int) - 1 - (j : Int)) = ((nL - 1 - j : Nat) : Int) := by rw [IntKind.wrap_i64]; omega
          have HB0 := HB5.out
          have gP := HST.out.1
          have gQ := HST.out.2.1
          have lP := gP.lt
          have lQ := gQ.lt
          go_upto_region 17 with (fail)
          go_cut [13, 14] from 70 to 80 (fun v13 v14 W => ∃ q m, v13 = .pointer (some ⟨q, 0, none⟩) ∧ v14 = .int .i64 0 ∧ Blk W q 27 (coA CB m) ∧ Cont W CB m ∧ Off (wr.heap.size ≤ ·) CB m ∧ wr.heap.size ≤ q ∧ Below wr.heap.size wr W)
          case first =>
            refine wp_region_hb (fun w' => Hid (Below wr.heap.size wr w')) [0, 1, 2, 3, 4, 5, 6, 7, 8, 9, 10, 11, 12] [13] (by kernel_rfl) (by kernel_rfl) (by repeat (first | with_reducible refine panOk_then ?_ | with_reducible refine panOk_block ?_ | exact panOk_body)) (Lib.hid (Below.drew (Below.refl _ _))) (fun hdir hsel hpan hHeld => ?_)
            refine wpHB_take (i := 0) (oi := ⟨some 71, _, _, _, _, _⟩) hdir hsel hpan rfl (by kernel_rfl) (by kernel_rfl) (by kernel_rfl) (yieldsIf_row (by rfl) 27 _ rfl p rfl 27 _ (fun w hw => (gP.then_ hw.out)) ⟨_, Tryz.underlying27⟩ (by kernel_rfl)) (by assumption) ?_
            try simp only [Act.put, List.setIfInBounds_toArray, List.set_cons_zero, List.set_cons_succ]
            refine wpHB_take (i := 1) (oi := ⟨some 72, _, _, _, _, _⟩) hdir hsel hpan rfl (by kernel_rfl) (by kernel_rfl) (by kernel_rfl) (Or.inl ⟨by rfl, fun _ _ => by rfl⟩) (by assumption) ?_
            try simp only [Act.put, List.setIfInBounds_toArray, List.set_cons_zero, List.set_cons_succ]
            refine wpHB_take (i := 2) (oi := ⟨some 73, _, _, _, _, _⟩) hdir hsel hpan rfl (by kernel_rfl) (by kernel_rfl) (by kernel_rfl) (Or.inl ⟨by rfl, fun _ _ => by rfl⟩) (by assumption) ?_
            try simp only [Act.put, List.setIfInBounds_toArray, List.set_cons_zero, List.set_cons_succ]
            refine wpHB_take (i := 3) (oi := ⟨some 74, _, _, _, _, _⟩) (v := .pointer (some ⟨b1, o1 + j, none⟩)) hdir hsel hpan rfl (by kernel_rfl) (by kernel_rfl) (by kernel_rfl) (Or.inl ⟨by rfl, fun w hw => by go_simp⟩) (by assumption) ?_
            try simp only [Act.put, List.setIfInBounds_toArray, List.set_cons_zero, List.set_cons_succ]
            refine wpHB_take (i := 4) (oi := ⟨some 75, _, _, _, _, _⟩) (v := .int .i64 xi) hdir hsel hpan rfl (by kernel_rfl) (by kernel_rfl) (by kernel_rfl) (Or.inl ⟨by rfl, fun w hw => by have hc := ((hw.out.cell (p := ⟨b1, o1 + j, none⟩) CX.out.2).trans CX.out.1); go_simp⟩) (by assumption) ?_
            try simp only [Act.put, List.setIfInBounds_toArray, List.set_cons_zero, List.set_cons_succ]
            refine wpHB_ready (rs := [5, 11]) (by kernel_rfl) (by simp) ?_
            refine AllHB.cons (by kernel_rfl) (o := ⟨some 76, _, _, _, _, _⟩) rfl (fun K hK => ?_) ?_
            · go_simp
              refine name_k ?_
              intro Vb hVb
              obtain ⟨BB, eBB, gb, hbb⟩ := (by first | exact list_new2 hVb | exact list_new2 (W := wr.drew) hVb : ∃ b, _)
              try rw [eBB]
              try (have eBB2 : wr.heap.size = BB := eBB; rw [eBB2])
              try (replace gp := gp.then_ hbb)
              clear hVb
              refine hK.out _ _ (Lib.hid (below_then hHeld.out hbb)) (fun hHeld2 => ?_)
              clear hK K hHeld
              have hHeld := hHeld2
              clear hHeld2
              try simp only [Act.put, List.setIfInBounds_toArray, List.set_cons_zero, List.set_cons_succ]
              refine wpHB_take (i := 6) (oi := ⟨some 77, _, _, _, _, _⟩) (v := .agg #[.int .i64 3, .slice (some ⟨BB, 0, none⟩) 1 1, .int .i64 0, .int .i64 0, .int .i64 0, .int .i64 0, .slice none 0 0, .int .i64 0, .int .i64 0, .bool false, .bool false, .int .i64 0, .int .i64 0, .int .i64 0, .int .i64 0, .int .i64 0, .int .i64 0, .bool false, .int .i64 0]) hdir hsel hpan rfl (by kernel_rfl) (by kernel_rfl) (by kernel_rfl) (Or.inl ⟨by rfl, fun w hw => by go_simp⟩) (by assumption) ?_
              try simp only [Act.put, List.setIfInBounds_toArray, List.set_cons_zero, List.set_cons_succ]
              refine wpHB_ready (rs := [7, 11]) (by kernel_rfl) (by simp) ?_
              refine AllHB.cons (by kernel_rfl) (o := ⟨some 78, _, _, _, _, _⟩) rfl (fun K hK => ?_) ?_
              · go_simp
                (go_at_call 12; (with_reducible refine (HCX.out _ BB hHeld.out gb).mono ?_); rintro e wa ⟨⟨m2, rfl, hca, hof⟩, hba⟩)
                try (have ho := hof.mono fun b hb => Nat.ne_of_gt (Nat.lt_of_lt_of_le gp.lt hb))
                try (replace gp := gp.then_ hba)
                have hoB := hof.mono fun b hb => Nat.le_trans hHeld.out.size hb
                clear hof
                refine hK.out _ _ (Lib.hid (below_then hHeld.out hba)) (fun hHeld2 => ?_)
                clear hK K hHeld
                have hHeld := hHeld2
                clear hHeld2
                try simp only [Act.put, List.setIfInBounds_toArray, List.set_cons_zero, List.set_cons_succ]
                refine wpHB_take (i := 8) (oi := ⟨some 70, _, _, _, _, _⟩) hdir hsel hpan rfl (by kernel_rfl) (by kernel_rfl) (by kernel_rfl) (Or.inl ⟨by rfl, fun _ _ => by rfl⟩) (by assumption) ?_
                try simp only [Act.put, List.setIfInBounds_toArray, List.set_cons_zero, List.set_cons_succ]
                refine wpHB_take (i := 9) (oi := ⟨some 79, _, _, _, _, _⟩) hdir hsel hpan rfl (by kernel_rfl) (by kernel_rfl) (by kernel_rfl) (Or.inl ⟨by rfl, fun _ _ => by rfl⟩) (by assumption) ?_
                try simp only [Act.put, List.setIfInBounds_toArray, List.set_cons_zero, List.set_cons_succ]
                refine wpHB_take (i := 10) (oi := ⟨some 80, _, _, _, _, _⟩) hdir hsel hpan rfl (by kernel_rfl) (by kernel_rfl) (by kernel_rfl) (Or.inl ⟨by rfl, fun _ _ => by rfl⟩) (by assumption) ?_
                try simp only [Act.put, List.setIfInBounds_toArray, List.set_cons_zero, List.set_cons_succ]
                refine wpHB_ready (rs := [11]) (by kernel_rfl) (by simp) ?_
                refine AllHB.cons (by kernel_rfl) (o := ⟨some 13, _, _, _, _, _⟩) rfl (fun K hK => ?_) AllHB.nil
                go_simp
                have lla := hHeld.out.size
                refine name_k ?_
                intro Vp hVp
                obtain ⟨gp, hbp⟩ : _ ∧ _ := (by first | exact con_new hVp | exact con_new (W := wr.drew) hVp)
                try (have ho := hca.off.mono fun b hb => Nat.ne_of_lt hb)
                try (replace hca := hca.then_ hbp)
                try (replace gb := gb.then_ hbp)
                clear hVp
                refine hK.out _ _ (Lib.hid (below_then hHeld.out hbp)) (fun hHeld2 => ?_)
                clear hK K hHeld
                have hHeld := hHeld2
                clear hHeld2
                try simp only [Act.put, List.setIfInBounds_toArray, List.set_cons_zero, List.set_cons_succ]
                refine wpHB_ready (rs := [12]) (by kernel_rfl) (by simp) ?_
                refine AllHB.cons (by kernel_rfl) (o := ⟨none, _, _, _, _, _⟩) rfl (fun K hK => ?_) AllHB.nil
                rw [if_pos (by rfl)]
                refine wp_store_all 27 _ _ rfl _ 27 [] coZ.toList [] (coA CB m2).toList rfl rfl gp rfl (by kernel_rfl) (by simp [Value.oneCell']) ?_
                intro w8 g8 U8
                refine hK.out _ _ (Lib.hid (hHeld.out.trans (U8.b _ lla))) (fun hHeld2 => ?_)
                clear hK K hHeld
                have hHeld := hHeld2
                clear hHeld2
                try simp only [Act.put]
                refine wpHB_tail (by kernel_rfl) (by kernel_rfl) ?_
                clear hdir hsel hpan
                simp only [opsAt, List.getElem?_toArray, List.getElem?_cons_succ, List.getElem?_cons_zero, Option.toList_some, List.cons_append, List.nil_append]
                go_wp2
                go_meet
                case rel => exact ⟨_, m2, rfl, rfl, g8, hca.upd U8 ho, hoB, lla, hHeld.out⟩
              refine AllHB.cons (by kernel_rfl) (o := ⟨some 13, _, _, _, _, _⟩) rfl (fun K hK => ?_) ?_
              · go_simp
                have lla := hHeld.out.size
                refine name_k ?_
                intro Vp hVp
                obtain ⟨gp, hbp⟩ : _ ∧ _ := (by first | exact con_new hVp | exact con_new (W := wr.drew) hVp)
                try (have ho := hca.off.mono fun b hb => Nat.ne_of_lt hb)
                try (replace hca := hca.then_ hbp)
                try (replace gb := gb.then_ hbp)
                clear hVp
                refine hK.out _ _ (Lib.hid (below_then hHeld.out hbp)) (fun hHeld2 => ?_)
                clear hK K hHeld
                have hHeld := hHeld2
                clear hHeld2
                try simp only [Act.put, List.setIfInBounds_toArray, List.set_cons_zero, List.set_cons_succ]
                refine wpHB_ready (rs := [7]) (by kernel_rfl) (by simp) ?_
                refine AllHB.cons (by kernel_rfl) (o := ⟨some 78, _, _, _, _, _⟩) rfl (fun K hK => ?_) AllHB.nil
                go_simp
                (go_at_call 12; (with_reducible refine (HCX.out _ BB hHeld.out gb).mono ?_); rintro e wa ⟨⟨m2, rfl, hca, hof⟩, hba⟩)
                try (have ho := hof.mono fun b hb => Nat.ne_of_gt (Nat.lt_of_lt_of_le gp.lt hb))
                try (replace gp := gp.then_ hba)
                have hoB := hof.mono fun b hb => Nat.le_trans hHeld.out.size hb
                clear hof
                refine hK.out _ _ (Lib.hid (below_then hHeld.out hba)) (fun hHeld2 => ?_)
                clear hK K hHeld
                have hHeld := hHeld2
                clear hHeld2
                try simp only [Act.put, List.setIfInBounds_toArray, List.set_cons_zero, List.set_cons_succ]
                refine wpHB_take (i := 8) (oi := ⟨some 70, _, _, _, _, _⟩) hdir hsel hpan rfl (by kernel_rfl) (by kernel_rfl) (by kernel_rfl) (Or.inl ⟨by rfl, fun _ _ => by rfl⟩) (by assumption) ?_
                try simp only [Act.put, List.setIfInBounds_toArray, List.set_cons_zero, List.set_cons_succ]
                refine wpHB_take (i := 9) (oi := ⟨some 79, _, _, _, _, _⟩) hdir hsel hpan rfl (by kernel_rfl) (by kernel_rfl) (by kernel_rfl) (Or.inl ⟨by rfl, fun _ _ => by rfl⟩) (by assumption) ?_
                try simp only [Act.put, List.setIfInBounds_toArray, List.set_cons_zero, List.set_cons_succ]
                refine wpHB_take (i := 10) (oi := ⟨some 80, _, _, _, _, _⟩) hdir hsel hpan rfl (by kernel_rfl) (by kernel_rfl) (by kernel_rfl) (Or.inl ⟨by rfl, fun _ _ => by rfl⟩) (by assumption) ?_
                try simp only [Act.put, List.setIfInBounds_toArray, List.set_cons_zero, List.set_cons_succ]
                refine wpHB_ready (rs := [12]) (by kernel_rfl) (by simp) ?_
                refine AllHB.cons (by kernel_rfl) (o := ⟨none, _, _, _, _, _⟩) rfl (fun K hK => ?_) AllHB.nil
                rw [if_pos (by rfl)]
                refine wp_store_all 27 _ _ rfl _ 27 [] coZ.toList [] (coA CB m2).toList rfl rfl gp rfl (by kernel_rfl) (by simp [Value.oneCell']) ?_
                intro w8 g8 U8
                refine hK.out _ _ (Lib.hid (hHeld.out.trans (U8.b _ lla))) (fun hHeld2 => ?_)
                clear hK K hHeld
                have hHeld := hHeld2
                clear hHeld2
                try simp only [Act.put]
                refine wpHB_tail (by kernel_rfl) (by kernel_rfl) ?_
                clear hdir hsel hpan
                simp only [opsAt, List.getElem?_toArray, List.getElem?_cons_succ, List.getElem?_cons_zero, Option.toList_some, List.cons_append, List.nil_append]
                go_wp2
                go_meet
                case rel => exact ⟨_, m2, rfl, rfl, g8, hca.upd U8 ho, hoB, lla, hHeld.out⟩
              exact AllHB.nil
            refine AllHB.cons (by kernel_rfl) (o := ⟨some 13, _, _, _, _, _⟩) rfl (fun K hK => ?_) ?_
            · go_simp
              have lla := hHeld.out.size
              refine name_k ?_
              intro Vp hVp
              obtain ⟨gp, hbp⟩ : _ ∧ _ := (by first | exact con_new hVp | exact con_new (W := wr.drew) hVp)
              try (have ho := hca.off.mono fun b hb => Nat.ne_of_lt hb)
              try (replace hca := hca.then_ hbp)
              try (replace gb := gb.then_ hbp)
              clear hVp
              refine hK.out _ _ (Lib.hid (below_then hHeld.out hbp)) (fun hHeld2 => ?_)
              clear hK K hHeld
              have hHeld := hHeld2
              clear hHeld2
              try simp only [Act.put, List.setIfInBounds_toArray, List.set_cons_zero, List.set_cons_succ]
              refine wpHB_ready (rs := [5]) (by kernel_rfl) (by simp) ?_
              refine AllHB.cons (by kernel_rfl) (o := ⟨some 76, _, _, _, _, _⟩) rfl (fun K hK => ?_) AllHB.nil
              go_simp
              refine name_k ?_
              intro Vb hVb
              obtain ⟨BB, eBB, gb, hbb⟩ := (by first | exact list_new2 hVb | exact list_new2 (W := wr.drew) hVb : ∃ b, _)
              try rw [eBB]
              try (have eBB2 : wr.heap.size = BB := eBB; rw [eBB2])
              try (replace gp := gp.then_ hbb)
              clear hVb
              refine hK.out _ _ (Lib.hid (below_then hHeld.out hbb)) (fun hHeld2 => ?_)
              clear hK K hHeld
              have hHeld := hHeld2
              clear hHeld2
              try simp only [Act.put, List.setIfInBounds_toArray, List.set_cons_zero, List.set_cons_succ]
              refine wpHB_take (i := 6) (oi := ⟨some 77, _, _, _, _, _⟩) (v := .agg #[.int .i64 3, .slice (some ⟨BB, 0, none⟩) 1 1, .int .i64 0, .int .i64 0, .int .i64 0, .int .i64 0, .slice none 0 0, .int .i64 0, .int .i64 0, .bool false, .bool false, .int .i64 0, .int .i64 0, .int .i64 0, .int .i64 0, .int .i64 0, .int .i64 0, .bool false, .int .i64 0]) hdir hsel hpan rfl (by kernel_rfl) (by kernel_rfl) (by kernel_rfl) (Or.inl ⟨by rfl, fun w hw => by go_simp⟩) (by assumption) ?_
              try simp only [Act.put, List.setIfInBounds_toArray, List.set_cons_zero, List.set_cons_succ]
              refine wpHB_ready (rs := [7]) (by kernel_rfl) (by simp) ?_
              refine AllHB.cons (by kernel_rfl) (o := ⟨some 78, _, _, _, _, _⟩) rfl (fun K hK => ?_) AllHB.nil
              go_simp
              (go_at_call 12; (with_reducible refine (HCX.out _ BB hHeld.out gb).mono ?_); rintro e wa ⟨⟨m2, rfl, hca, hof⟩, hba⟩)
              try (have ho := hof.mono fun b hb => Nat.ne_of_gt (Nat.lt_of_lt_of_le gp.lt hb))
              try (replace gp := gp.then_ hba)
              have hoB := hof.mono fun b hb => Nat.le_trans hHeld.out.size hb
              clear hof
              refine hK.out _ _ (Lib.hid (below_then hHeld.out hba)) (fun hHeld2 => ?_)
              clear hK K hHeld
              have hHeld := hHeld2
              clear hHeld2
              try simp only [Act.put, List.setIfInBounds_toArray, List.set_cons_zero, List.set_cons_succ]
              refine wpHB_take (i := 8) (oi := ⟨some 70, _, _, _, _, _⟩) hdir hsel hpan rfl (by kernel_rfl) (by kernel_rfl) (by kernel_rfl) (Or.inl ⟨by rfl, fun _ _ => by rfl⟩) (by assumption) ?_
              try simp only [Act.put, List.setIfInBounds_toArray, List.set_cons_zero, List.set_cons_succ]
              refine wpHB_take (i := 9) (oi := ⟨some 79, _, _, _, _, _⟩) hdir hsel hpan rfl (by kernel_rfl) (by kernel_rfl) (by kernel_rfl) (Or.inl ⟨by rfl, fun _ _ => by rfl⟩) (by assumption) ?_
              try simp only [Act.put, List.setIfInBounds_toArray, List.set_cons_zero, List.set_cons_succ]
              refine wpHB_take (i := 10) (oi := ⟨some 80, _, _, _, _, _⟩) hdir hsel hpan rfl (by kernel_rfl) (by kernel_rfl) (by kernel_rfl) (Or.inl ⟨by rfl, fun _ _ => by rfl⟩) (by assumption) ?_
              try simp only [Act.put, List.setIfInBounds_toArray, List.set_cons_zero, List.set_cons_succ]
              refine wpHB_ready (rs := [12]) (by kernel_rfl) (by simp) ?_
              refine AllHB.cons (by kernel_rfl) (o := ⟨none, _, _, _, _, _⟩) rfl (fun K hK => ?_) AllHB.nil
              rw [if_pos (by rfl)]
              refine wp_store_all 27 _ _ rfl _ 27 [] coZ.toList [] (coA CB m2).toList rfl rfl gp rfl (by kernel_rfl) (by simp [Value.oneCell']) ?_
              intro w8 g8 U8
              refine hK.out _ _ (Lib.hid (hHeld.out.trans (U8.b _ lla))) (fun hHeld2 => ?_)
              clear hK K hHeld
              have hHeld := hHeld2
              clear hHeld2
              try simp only [Act.put]
              refine wpHB_tail (by kernel_rfl) (by kernel_rfl) ?_
              clear hdir hsel hpan
              simp only [opsAt, List.getElem?_toArray, List.getElem?_cons_succ, List.getElem?_cons_zero, Option.toList_some, List.cons_append, List.nil_append]
              go_wp2
              go_meet
              case rel => exact ⟨_, m2, rfl, rfl, g8, hca.upd U8 ho, hoB, lla, hHeld.out⟩
            exact AllHB.nil
          obtain ⟨bx, mx, rfl, rfl, gbx, hx, hox, hlx, hbx⟩ := hcut
          obtain ⟨Wx, rfl⟩ : ∃ W, W = wc := ⟨_, rfl⟩
          have HH1 := hbx
          have HB1 := below_then HB0 HH1
          have gP_1 := gP.then_ HH1
          have gQ_1 := gQ.then_ HH1
          clear gP gQ HB0 HH1
          have HOX := Lib.hid hox
          have hB17 := hbx
          clear hox HCX CX hix
          go_upto_region 18 with (fail)
          go_cut [15, 16] from 81 to 95 (fun v15 v16 W => ∃ q m, v15 = .pointer (some ⟨q, 0, none⟩) ∧ v16 = .int .i64 0 ∧ Blk W q 27 (coA CD m) ∧ Cont W CD m ∧ Off (Wx.heap.size ≤ ·) CD m ∧ Wx.heap.size ≤ q ∧ Below Wx.heap.size Wx W)
          case first =>
            refine wp_region_hb (fun w' => Hid (Below Wx.heap.size Wx w')) [0, 1, 2, 3, 4, 5, 6, 7, 8, 9, 10, 11, 12, 13, 14, 15, 16] [17] (by kernel_rfl) (by kernel_rfl) (by repeat (first | with_reducible refine panOk_then ?_ | with_reducible refine panOk_block ?_ | exact panOk_body)) (Lib.hid (Below.drew (Below.refl _ _))) (fun hdir hsel hpan hHeld => ?_)
            refine wpHB_take (i := 0) (oi := ⟨some 82, _, _, _, _, _⟩) hdir hsel hpan rfl (by kernel_rfl) (by kernel_rfl) (by kernel_rfl) (yieldsIf_row (by rfl) 27 _ rfl q rfl 27 _ (fun w hw => (gQ_1.then_ hw.out)) ⟨_, Tryz.underlying27⟩ (by kernel_rfl)) (by assumption) ?_
            try simp only [Act.put, List.setIfInBounds_toArray, List.set_cons_zero, List.set_cons_succ]
            refine wpHB_take (i := 1) (oi := ⟨some 83, _, _, _, _, _⟩) hdir hsel hpan rfl (by kernel_rfl) (by kernel_rfl) (by kernel_rfl) (Or.inl ⟨by rfl, fun _ _ => by rfl⟩) (by assumption) ?_
            try simp only [Act.put, List.setIfInBounds_toArray, List.set_cons_zero, List.set_cons_succ]
            refine wpHB_take (i := 2) (oi := ⟨some 84, _, _, _, _, _⟩) hdir hsel hpan rfl (by kernel_rfl) (by kernel_rfl) (by kernel_rfl) (Or.inl ⟨by rfl, fun _ _ => by rfl⟩) (by assumption) ?_
            try simp only [Act.put, List.setIfInBounds_toArray, List.set_cons_zero, List.set_cons_succ]
            refine wpHB_take (i := 3) (oi := ⟨some 85, _, _, _, _, _⟩) (v := .int .i64 (nL : Int)) hdir hsel hpan rfl (by kernel_rfl) (by kernel_rfl) (by kernel_rfl) (Or.inl ⟨by rfl, fun w hw => by go_simp⟩) (by assumption) ?_
            try simp only [Act.put, List.setIfInBounds_toArray, List.set_cons_zero, List.set_cons_succ]
            refine wpHB_take (i := 4) (oi := ⟨some 86, _, _, _, _, _⟩) (v := .int .i64 ((nL : Int) - 1)) hdir hsel hpan rfl (by kernel_rfl) (by kernel_rfl) (by kernel_rfl) (Or.inl ⟨by rfl, fun w hw => by go_simp⟩) (by assumption) ?_
            try simp only [Act.put, List.setIfInBounds_toArray, List.set_cons_zero, List.set_cons_succ]
            refine wpHB_take (i := 5) (oi := ⟨some 87, _, _, _, _, _⟩) hdir hsel hpan rfl (by kernel_rfl) (by kernel_rfl) (by kernel_rfl) (Or.inl ⟨by rfl, fun _ _ => by rfl⟩) (by assumption) ?_
            try simp only [Act.put, List.setIfInBounds_toArray, List.set_cons_zero, List.set_cons_succ]
            refine wpHB_take (i := 6) (oi := ⟨some 88, _, _, _, _, _⟩) (v := .int .i64 ((nL - 1 - j : Nat) : Int)) hdir hsel hpan rfl (by kernel_rfl) (by kernel_rfl) (by kernel_rfl) (Or.inl ⟨by rfl, fun w hw => by go_simp⟩) (by assumption) ?_
            try simp only [Act.put, List.setIfInBounds_toArray, List.set_cons_zero, List.set_cons_succ]
            refine wpHB_take (i := 7) (oi := ⟨some 89, _, _, _, _, _⟩) (v := .pointer (some ⟨b2, o2 + (nL - 1 - j), none⟩)) hdir hsel hpan rfl (by kernel_rfl) (by kernel_rfl) (by kernel_rfl) (Or.inl ⟨by rfl, fun w hw => by go_simp⟩) (by assumption) ?_
            try simp only [Act.put, List.setIfInBounds_toArray, List.set_cons_zero, List.set_cons_succ]
            refine wpHB_take (i := 8) (oi := ⟨some 90, _, _, _, _, _⟩) (v := .int .i64 yi) hdir hsel hpan rfl (by kernel_rfl) (by kernel_rfl) (by kernel_rfl) (Or.inl ⟨by rfl, fun w hw => by have hc := (((below_then hB17 hw.out).cell (p := ⟨b2, o2 + (nL - 1 - j), none⟩) CY.out.2).trans CY.out.1); go_simp⟩) (by assumption) ?_
            try simp only [Act.put, List.setIfInBounds_toArray, List.set_cons_zero, List.set_cons_succ]
            refine wpHB_ready (rs := [9, 15]) (by kernel_rfl) (by simp) ?_
            refine AllHB.cons (by kernel_rfl) (o := ⟨some 91, _, _, _, _, _⟩) rfl (fun K hK => ?_) ?_
            · go_simp
              refine name_k ?_
              intro Vb hVb
              obtain ⟨BB, eBB, gb, hbb⟩ := (by first | exact list_new2 hVb | exact list_new2 (W := Wx.drew) hVb : ∃ b, _)
              try rw [eBB]
              try (have eBB2 : Wx.heap.size = BB := eBB; rw [eBB2])
              try (replace gp := gp.then_ hbb)
              clear hVb
              refine hK.out _ _ (Lib.hid (below_then hHeld.out hbb)) (fun hHeld2 => ?_)
              clear hK K hHeld
              have hHeld := hHeld2
              clear hHeld2
              try simp only [Act.put, List.setIfInBounds_toArray, List.set_cons_zero, List.set_cons_succ]
              refine wpHB_take (i := 10) (oi := ⟨some 92, _, _, _, _, _⟩) (v := .agg #[.int .i64 3, .slice (some ⟨BB, 0, none⟩) 1 1, .int .i64 0, .int .i64 0, .int .i64 0, .int .i64 0, .slice none 0 0, .int .i64 0, .int .i64 0, .bool false, .bool false, .int .i64 0, .int .i64 0, .int .i64 0, .int .i64 0, .int .i64 0, .int .i64 0, .bool false, .int .i64 0]) hdir hsel hpan rfl (by kernel_rfl) (by kernel_rfl) (by kernel_rfl) (Or.inl ⟨by rfl, fun w hw => by go_simp⟩) (by assumption) ?_
              try simp only [Act.put, List.setIfInBounds_toArray, List.set_cons_zero, List.set_cons_succ]
              refine wpHB_ready (rs := [11, 15]) (by kernel_rfl) (by simp) ?_
              refine AllHB.cons (by kernel_rfl) (o := ⟨some 93, _, _, _, _, _⟩) rfl (fun K hK => ?_) ?_
              · go_simp
                (go_at_call 12; (with_reducible refine (HCY.out _ BB (below_then hB17 hHeld.out) gb).mono ?_); rintro e wa ⟨⟨m2, rfl, hca, hof⟩, hba⟩)
                try (have ho := hof.mono fun b hb => Nat.ne_of_gt (Nat.lt_of_lt_of_le gp.lt hb))
                try (replace gp := gp.then_ hba)
                have hoB := hof.mono fun b hb => Nat.le_trans hHeld.out.size hb
                clear hof
                refine hK.out _ _ (Lib.hid (below_then hHeld.out hba)) (fun hHeld2 => ?_)
                clear hK K hHeld
                have hHeld := hHeld2
                clear hHeld2
                try simp only [Act.put, List.setIfInBounds_toArray, List.set_cons_zero, List.set_cons_succ]
                refine wpHB_take (i := 12) (oi := ⟨some 81, _, _, _, _, _⟩) hdir hsel hpan rfl (by kernel_rfl) (by kernel_rfl) (by kernel_rfl) (Or.inl ⟨by rfl, fun _ _ => by rfl⟩) (by assumption) ?_
                try simp only [Act.put, List.setIfInBounds_toArray, List.set_cons_zero, List.set_cons_succ]
                refine wpHB_take (i := 13) (oi := ⟨some 94, _, _, _, _, _⟩) hdir hsel hpan rfl (by kernel_rfl) (by kernel_rfl) (by kernel_rfl) (Or.inl ⟨by rfl, fun _ _ => by rfl⟩) (by assumption) ?_
                try simp only [Act.put, List.setIfInBounds_toArray, List.set_cons_zero, List.set_cons_succ]
                refine wpHB_take (i := 14) (oi := ⟨some 95, _, _, _, _, _⟩) hdir hsel hpan rfl (by kernel_rfl) (by kernel_rfl) (by kernel_rfl) (Or.inl ⟨by rfl, fun _ _ => by rfl⟩) (by assumption) ?_
                try simp only [Act.put, List.setIfInBounds_toArray, List.set_cons_zero, List.set_cons_succ]
                refine wpHB_ready (rs := [15]) (by kernel_rfl) (by simp) ?_
                refine AllHB.cons (by kernel_rfl) (o := ⟨some 15, _, _, _, _, _⟩) rfl (fun K hK => ?_) AllHB.nil
                go_simp
                have lla := hHeld.out.size
                refine name_k ?_
                intro Vp hVp
                obtain ⟨gp, hbp⟩ : _ ∧ _ := (by first | exact con_new hVp | exact con_new (W := Wx.drew) hVp)
                try (have ho := hca.off.mono fun b hb => Nat.ne_of_lt hb)
                try (replace hca := hca.then_ hbp)
                try (replace gb := gb.then_ hbp)
                clear hVp
                refine hK.out _ _ (Lib.hid (below_then hHeld.out hbp)) (fun hHeld2 => ?_)
                clear hK K hHeld
                have hHeld := hHeld2
                clear hHeld2
                try simp only [Act.put, List.setIfInBounds_toArray, List.set_cons_zero, List.set_cons_succ]
                refine wpHB_ready (rs := [16]) (by kernel_rfl) (by simp) ?_
                refine AllHB.cons (by kernel_rfl) (o := ⟨none, _, _, _, _, _⟩) rfl (fun K hK => ?_) AllHB.nil
                rw [if_pos (by rfl)]
                refine wp_store_all 27 _ _ rfl _ 27 [] coZ.toList [] (coA CD m2).toList rfl rfl gp rfl (by kernel_rfl) (by simp [Value.oneCell']) ?_
                intro w8 g8 U8
                refine hK.out _ _ (Lib.hid (hHeld.out.trans (U8.b _ lla))) (fun hHeld2 => ?_)
                clear hK K hHeld
                have hHeld := hHeld2
                clear hHeld2
                try simp only [Act.put]
                refine wpHB_tail (by kernel_rfl) (by kernel_rfl) ?_
                clear hdir hsel hpan
                simp only [opsAt, List.getElem?_toArray, List.getElem?_cons_succ, List.getElem?_cons_zero, Option.toList_some, List.cons_append, List.nil_append]
                go_wp2
                go_meet
                case rel => exact ⟨_, m2, rfl, rfl, g8, hca.upd U8 ho, hoB, lla, hHeld.out⟩
              refine AllHB.cons (by kernel_rfl) (o := ⟨some 15, _, _, _, _, _⟩) rfl (fun K hK => ?_) ?_
              · go_simp
                have lla := hHeld.out.size
                refine name_k ?_
                intro Vp hVp
                obtain ⟨gp, hbp⟩ : _ ∧ _ := (by first | exact con_new hVp | exact con_new (W := Wx.drew) hVp)
                try (have ho := hca.off.mono fun b hb => Nat.ne_of_lt hb)
                try (replace hca := hca.then_ hbp)
                try (replace gb := gb.then_ hbp)
                clear hVp
                refine hK.out _ _ (Lib.hid (below_then hHeld.out hbp)) (fun hHeld2 => ?_)
                clear hK K hHeld
                have hHeld := hHeld2
                clear hHeld2
                try simp only [Act.put, List.setIfInBounds_toArray, List.set_cons_zero, List.set_cons_succ]
                refine wpHB_ready (rs := [11]) (by kernel_rfl) (by simp) ?_
                refine AllHB.cons (by kernel_rfl) (o := ⟨some 93, _, _, _, _, _⟩) rfl (fun K hK => ?_) AllHB.nil
                go_simp
                (go_at_call 12; (with_reducible refine (HCY.out _ BB (below_then hB17 hHeld.out) gb).mono ?_); rintro e wa ⟨⟨m2, rfl, hca, hof⟩, hba⟩)
                try (have ho := hof.mono fun b hb => Nat.ne_of_gt (Nat.lt_of_lt_of_le gp.lt hb))
                try (replace gp := gp.then_ hba)
                have hoB := hof.mono fun b hb => Nat.le_trans hHeld.out.size hb
                clear hof
                refine hK.out _ _ (Lib.hid (below_then hHeld.out hba)) (fun hHeld2 => ?_)
                clear hK K hHeld
                have hHeld := hHeld2
                clear hHeld2
                try simp only [Act.put, List.setIfInBounds_toArray, List.set_cons_zero, List.set_cons_succ]
                refine wpHB_take (i := 12) (oi := ⟨some 81, _, _, _, _, _⟩) hdir hsel hpan rfl (by kernel_rfl) (by kernel_rfl) (by kernel_rfl) (Or.inl ⟨by rfl, fun _ _ => by rfl⟩) (by assumption) ?_
                try simp only [Act.put, List.setIfInBounds_toArray, List.set_cons_zero, List.set_cons_succ]
                refine wpHB_take (i := 13) (oi := ⟨some 94, _, _, _, _, _⟩) hdir hsel hpan rfl (by kernel_rfl) (by kernel_rfl) (by kernel_rfl) (Or.inl ⟨by rfl, fun _ _ => by rfl⟩) (by assumption) ?_
                try simp only [Act.put, List.setIfInBounds_toArray, List.set_cons_zero, List.set_cons_succ]
                refine wpHB_take (i := 14) (oi := ⟨some 95, _, _, _, _, _⟩) hdir hsel hpan rfl (by kernel_rfl) (by kernel_rfl) (by kernel_rfl) (Or.inl ⟨by rfl, fun _ _ => by rfl⟩) (by assumption) ?_
                try simp only [Act.put, List.setIfInBounds_toArray, List.set_cons_zero, List.set_cons_succ]
                refine wpHB_ready (rs := [16]) (by kernel_rfl) (by simp) ?_
                refine AllHB.cons (by kernel_rfl) (o := ⟨none, _, _, _, _, _⟩) rfl (fun K hK => ?_) AllHB.nil
                rw [if_pos (by rfl)]
                refine wp_store_all 27 _ _ rfl _ 27 [] coZ.toList [] (coA CD m2).toList rfl rfl gp rfl (by kernel_rfl) (by simp [Value.oneCell']) ?_
                intro w8 g8 U8
                refine hK.out _ _ (Lib.hid (hHeld.out.trans (U8.b _ lla))) (fun hHeld2 => ?_)
                clear hK K hHeld
                have hHeld := hHeld2
                clear hHeld2
                try simp only [Act.put]
                refine wpHB_tail (by kernel_rfl) (by kernel_rfl) ?_
                clear hdir hsel hpan
                simp only [opsAt, List.getElem?_toArray, List.getElem?_cons_succ, List.getElem?_cons_zero, Option.toList_some, List.cons_append, List.nil_append]
                go_wp2
                go_meet
                case rel => exact ⟨_, m2, rfl, rfl, g8, hca.upd U8 ho, hoB, lla, hHeld.out⟩
              exact AllHB.nil
            refine AllHB.cons (by kernel_rfl) (o := ⟨some 15, _, _, _, _, _⟩) rfl (fun K hK => ?_) ?_
            · go_simp
              have lla := hHeld.out.size
              refine name_k ?_
              intro Vp hVp
              obtain ⟨gp, hbp⟩ : _ ∧ _ := (by first | exact con_new hVp | exact con_new (W := Wx.drew) hVp)
              try (have ho := hca.off.mono fun b hb => Nat.ne_of_lt hb)
              try (replace hca := hca.then_ hbp)
              try (replace gb := gb.then_ hbp)
              clear hVp
              refine hK.out _ _ (Lib.hid (below_then hHeld.out hbp)) (fun hHeld2 => ?_)
              clear hK K hHeld
              have hHeld := hHeld2
              clear hHeld2
              try simp only [Act.put, List.setIfInBounds_toArray, List.set_cons_zero, List.set_cons_succ]
              refine wpHB_ready (rs := [9]) (by kernel_rfl) (by simp) ?_
              refine AllHB.cons (by kernel_rfl) (o := ⟨some 91, _, _, _, _, _⟩) rfl (fun K hK => ?_) AllHB.nil
              go_simp
              refine name_k ?_
              intro Vb hVb
              obtain ⟨BB, eBB, gb, hbb⟩ := (by first | exact list_new2 hVb | exact list_new2 (W := Wx.drew) hVb : ∃ b, _)
              try rw [eBB]
              try (have eBB2 : Wx.heap.size = BB := eBB; rw [eBB2])
              try (replace gp := gp.then_ hbb)
              clear hVb
              refine hK.out _ _ (Lib.hid (below_then hHeld.out hbb)) (fun hHeld2 => ?_)
              clear hK K hHeld
              have hHeld := hHeld2
              clear hHeld2
              try simp only [Act.put, List.setIfInBounds_toArray, List.set_cons_zero, List.set_cons_succ]
              refine wpHB_take (i := 10) (oi := ⟨some 92, _, _, _, _, _⟩) (v := .agg #[.int .i64 3, .slice (some ⟨BB, 0, none⟩) 1 1, .int .i64 0, .int .i64 0, .int .i64 0, .int .i64 0, .slice none 0 0, .int .i64 0, .int .i64 0, .bool false, .bool false, .int .i64 0, .int .i64 0, .int .i64 0, .int .i64 0, .int .i64 0, .int .i64 0, .bool false, .int .i64 0]) hdir hsel hpan rfl (by kernel_rfl) (by kernel_rfl) (by kernel_rfl) (Or.inl ⟨by rfl, fun w hw => by go_simp⟩) (by assumption) ?_
              try simp only [Act.put, List.setIfInBounds_toArray, List.set_cons_zero, List.set_cons_succ]
              refine wpHB_ready (rs := [11]) (by kernel_rfl) (by simp) ?_
              refine AllHB.cons (by kernel_rfl) (o := ⟨some 93, _, _, _, _, _⟩) rfl (fun K hK => ?_) AllHB.nil
              go_simp
              (go_at_call 12; (with_reducible refine (HCY.out _ BB (below_then hB17 hHeld.out) gb).mono ?_); rintro e wa ⟨⟨m2, rfl, hca, hof⟩, hba⟩)
              try (have ho := hof.mono fun b hb => Nat.ne_of_gt (Nat.lt_of_lt_of_le gp.lt hb))
              try (replace gp := gp.then_ hba)
              have hoB := hof.mono fun b hb => Nat.le_trans hHeld.out.size hb
              clear hof
              refine hK.out _ _ (Lib.hid (below_then hHeld.out hba)) (fun hHeld2 => ?_)
              clear hK K hHeld
              have hHeld := hHeld2
              clear hHeld2
              try simp only [Act.put, List.setIfInBounds_toArray, List.set_cons_zero, List.set_cons_succ]
              refine wpHB_take (i := 12) (oi := ⟨some 81, _, _, _, _, _⟩) hdir hsel hpan rfl (by kernel_rfl) (by kernel_rfl) (by kernel_rfl) (Or.inl ⟨by rfl, fun _ _ => by rfl⟩) (by assumption) ?_
              try simp only [Act.put, List.setIfInBounds_toArray, List.set_cons_zero, List.set_cons_succ]
              refine wpHB_take (i := 13) (oi := ⟨some 94, _, _, _, _, _⟩) hdir hsel hpan rfl (by kernel_rfl) (by kernel_rfl) (by kernel_rfl) (Or.inl ⟨by rfl, fun _ _ => by rfl⟩) (by assumption) ?_
              try simp only [Act.put, List.setIfInBounds_toArray, List.set_cons_zero, List.set_cons_succ]
              refine wpHB_take (i := 14) (oi := ⟨some 95, _, _, _, _, _⟩) hdir hsel hpan rfl (by kernel_rfl) (by kernel_rfl) (by kernel_rfl) (Or.inl ⟨by rfl, fun _ _ => by rfl⟩) (by assumption) ?_
              try simp only [Act.put, List.setIfInBounds_toArray, List.set_cons_zero, List.set_cons_succ]
              refine wpHB_ready (rs := [16]) (by kernel_rfl) (by simp) ?_
              refine AllHB.cons (by kernel_rfl) (o := ⟨none, _, _, _, _, _⟩) rfl (fun K hK => ?_) AllHB.nil
              rw [if_pos (by rfl)]
              refine wp_store_all 27 _ _ rfl _ 27 [] coZ.toList [] (coA CD m2).toList rfl rfl gp rfl (by kernel_rfl) (by simp [Value.oneCell']) ?_
              intro w8 g8 U8
              refine hK.out _ _ (Lib.hid (hHeld.out.trans (U8.b _ lla))) (fun hHeld2 => ?_)
              clear hK K hHeld
              have hHeld := hHeld2
              clear hHeld2
              try simp only [Act.put]
              refine wpHB_tail (by kernel_rfl) (by kernel_rfl) ?_
              clear hdir hsel hpan
              simp only [opsAt, List.getElem?_toArray, List.getElem?_cons_succ, List.getElem?_cons_zero, Option.toList_some, List.cons_append, List.nil_append]
              go_wp2
              go_meet
              case rel => exact ⟨_, m2, rfl, rfl, g8, hca.upd U8 ho, hoB, lla, hHeld.out⟩
            exact AllHB.nil
          obtain ⟨bz, mz, rfl, rfl, gbz, hz, hoz, hlz, hbz⟩ := hcut
          obtain ⟨Wz, rfl⟩ : ∃ W, W = wc := ⟨_, rfl⟩
          have HH2 := hbz
          have HB2 := below_then HB1 HH2
          have gP_2 := gP_1.then_ HH2
          have gQ_2 := gQ_1.then_ HH2
          have gbx_2 := gbx.then_ HH2
          have hx_2 := hx.then_ HH2
          clear gP_1 gQ_1 gbx hx HB1 HH2
          clear HCY CY hiy hw1 hw2
          have l17 := hB17.size
          have oX : Off (fun b => b ≠ p ∧ b ≠ q) CB mx := HOX.out.mono fun b hb => by have h : wr.heap.size ≤ b := hb; omega
          have oY : Off (fun b => b ≠ p ∧ b ≠ q) CD mz := hoz.mono fun b hb => by have h : Wx.heap.size ≤ b := hb; omega
          have nxp : bx ≠ p := by omega
          have nxq : bx ≠ q := by omega
          have nyp : bz ≠ p := by omega
          have nyq : bz ≠ q := by omega
          go_upto_region 21 with (fail)
          have hD21 : Below Wz.heap.size Wz Wz.drew := Below.drew (Below.refl _ _)
          have gPd := gP_2.then_ hD21
          have gQd := gQ_2.then_ hD21
          have hXd := hx_2.then_ hD21
          have hYd := hz.then_ hD21
          refine wp_region_hb (fun w' => Hid (Blk w' bx 27 (coA CB mx) ∧ Blk w' bz 27 (coA CD mz) ∧ Below u5.heap.size u5 w')) [0, 1, 2] [3] (by kernel_rfl) (by kernel_rfl) (by repeat (first | with_reducible refine panOk_then ?_ | with_reducible refine panOk_block ?_ | exact panOk_body)) (Lib.hid ⟨gbx_2.then_ hD21, gbz.then_ hD21, below_then HB2 hD21⟩) (fun hdir hsel hpan hHeld => ?_)
          refine wpHB_take (i := 0) (oi := ⟨some 102, _, _, _, _, _⟩) hdir hsel hpan rfl (by kernel_rfl) (by kernel_rfl) (by kernel_rfl) (yieldsIf_row (by rfl) 27 _ rfl bx rfl 27 _ (fun w hw => hw.out.1) ⟨_, Tryz.underlying27⟩ (by kernel_rfl)) (by assumption) ?_
          try simp only [Act.put, List.setIfInBounds_toArray, List.set_cons_zero, List.set_cons_succ]
          refine wpHB_take (i := 1) (oi := ⟨some 103, _, _, _, _, _⟩) hdir hsel hpan rfl (by kernel_rfl) (by kernel_rfl) (by kernel_rfl) (yieldsIf_row (by rfl) 27 _ rfl bz rfl 27 _ (fun w hw => hw.out.2.1) ⟨_, Tryz.underlying27⟩ (by kernel_rfl)) (by assumption) ?_
          try simp only [Act.put, List.setIfInBounds_toArray, List.set_cons_zero, List.set_cons_succ]
          refine wpHB_ready (rs := [2]) (by kernel_rfl) (by simp) ?_
          refine AllHB.cons (by kernel_rfl) (o := ⟨none, _, _, _, _, _⟩) rfl (fun K hK => ?_) AllHB.nil
          rw [if_pos (by rfl)]
          refine wp_store_all 27 _ _ rfl _ 27 [] (coA B0 mb).toList [] (coA CB mx).toList rfl rfl gPd rfl (by kernel_rfl) (by simp [Value.oneCell']) ?_
          intro w8 g8 U8
          have gQ8 := gQd.upd U8 npq.symm
          refine hK.out _ _ (Lib.hid ⟨hHeld.out.1.upd U8 nxp, hHeld.out.2.1.upd U8 nyp, hHeld.out.2.2.trans (U8.b _ lp)⟩) (fun hHeld2 => ?_)
          clear hK K hHeld
          have hHeld := hHeld2
          clear hHeld2
          try simp only [Act.put]
          refine wpHB_tail (by kernel_rfl) (by kernel_rfl) ?_
          clear hdir hsel hpan
          simp only [opsAt, List.getElem?_toArray, List.getElem?_cons_succ, List.getElem?_cons_zero, Option.toList_some, List.cons_append, List.nil_append]
          go_wp2_with (refine wpList_store_all rfl 27 _ _ rfl _ 27 [] (coA D0 md).toList [] (coA CD mz).toList rfl rfl gQ8 rfl (by kernel_rfl) (by simp [Value.oneCell']) ?_; intro w9 g9 U9)
          have hst : Blk w9 p 27 (coA CB mx) ∧ Blk w9 q 27 (coA CD mz) ∧ Cont w9 CB mx ∧ Cont w9 CD mz ∧ Off (fun b => b ≠ p ∧ b ≠ q) CB mx ∧ Off (fun b => b ≠ p ∧ b ≠ q) CD mz := ⟨g8.upd U9 npq, g9, (hXd.upd U8 (oX.mono fun b hb => hb.1)).upd U9 (oX.mono fun b hb => hb.2), (hYd.upd U8 (oY.mono fun b hb => hb.1)).upd U9 (oY.mono fun b hb => hb.2), oX, oY⟩
          have HB6 := Lib.hid (hHeld.out.2.2.trans (U9.b _ lq))
          rw [← HEB.out, ← HED.out] at hst
          have HST2 := Lib.hid hst
          clear hst gPd gQd hXd hYd oX oY HOX hoz HST HB5
          first | exact ⟨⟨j + 1, mx, mz, by omega, by simp, HST2, HB6⟩, by simp [intOf]; omega⟩ | (go_roundw; (case rel => exact ⟨j + 1, mx, mz, by omega, by simp, HST2, HB6⟩); (case measure => simp [intOf]; omega))
        have tn : decide ((j : Int) < (nL : Int)) = false := decide_eq_false (by omega)
        have tn' : decide (j < nL) = false := decide_eq_false hlt
        have ej : j = nL := by omega
        have eB : (c.wc (mkW (L.take j) c.cl)) = C1 := by rw [HC1.out, ej, List.take_of_length_le (by rw [HnL.out]; exact Nat.le_refl _)]
        have eD : (c.wc (mkW (L.reverse.take j) c.cl)) = C1 := by rw [HC1.out, ej, List.take_of_length_le (by rw [List.length_reverse, HnL.out]; exact Nat.le_refl _), mkW_rev (fun x hx => (HIN.out x hx).1)]
        rw [eB, eD] at HST
        clear eB eD ej hlt hj'
        have gA := gbu5.then_ HB5.out
        have hA := hca.then_ HB5.out
        have gP := HST.out.1
        have gQ := HST.out.2.1
        have HQ1 := Lib.hid (fun W (hb : Below wr.heap.size wr W) => scon_to C1 C1 ma mb true W (hA.then_ hb) (HST.out.2.2.1.then_ hb) (by simp))
        have HQ2 := Lib.hid (fun W (hb : Below wr.heap.size wr W) => scon_to C1 C1 ma md true W (hA.then_ hb) (HST.out.2.2.2.1.then_ hb) (by simp))
        have hBE := below_then HB4 HB5.out
        clear hA
        go_wp2_with (first | (refine wpList_row_w (by rfl) 27 _ rfl bu5 rfl 27 _ gA ⟨_, Tryz.underlying27⟩ (by kernel_rfl) ?_; simp only [Act.put, List.setIfInBounds_toArray, List.set_cons_succ, List.set_cons_zero]) | (refine wpList_row_w (by rfl) 27 _ rfl p rfl 27 _ gP ⟨_, Tryz.underlying27⟩ (by kernel_rfl) ?_; simp only [Act.put, List.setIfInBounds_toArray, List.set_cons_succ, List.set_cons_zero]) | (go_at_call 15; (with_reducible refine (HQ1.out _ (Below.refl _ _)).mono ?_); rintro e wz ⟨rfl, hbz⟩) | (refine wpList_row_w (by rfl) 27 _ rfl bu5 rfl 27 _ (gA.then_ hbz) ⟨_, Tryz.underlying27⟩ (by kernel_rfl) ?_; simp only [Act.put, List.setIfInBounds_toArray, List.set_cons_succ, List.set_cons_zero]) | (refine wpList_row_w (by rfl) 27 _ rfl q rfl 27 _ (gQ.then_ hbz) ⟨_, Tryz.underlying27⟩ (by kernel_rfl) ?_; simp only [Act.put, List.setIfInBounds_toArray, List.set_cons_succ, List.set_cons_zero]) | (go_at_call 15; (with_reducible refine (HQ2.out _ hbz).mono ?_); rintro e wy ⟨rfl, hby⟩))
        go_ret
        exact ⟨rfl, below_then hBE (below_then hbz hby)⟩
end Go.Proofs.YtplommmegkdhdaaGreatDoor
