/- The walk of MergeConflicts. -/
import Derived.Test.YtcplneglfbdooaaZLc4a
namespace Go.Proofs.Ytcplneglfbdooaa
open Go.RowKit

set_option maxRecDepth 100000 in
set_option maxHeartbeats 6400000 in
theorem conflicts_any (c : Con) (m : Cm) (L1 L2 : List Pk) (A1 A2 : Option Addr) (k1 k2 : Nat) (w : World) (hc : ContW w c m) (hl1 : PatsW w A1 L1 k1) (hl2 : PatsW w A2 L2 k2) :
    Calls Try.prog 6 #[.agg (coA c m), .slice A1 L1.length k1, .slice A2 L2.length k2] w fun e w' => e = .returned (.bool true) ∧ Below w.heap.size w w' := by
  have HH := Lib.hid (fun W => head_any W)
  cases hs1 : smallA c (pats L1) with
  | false =>
    have HS := Lib.hid (fun W (hb : Below w.heap.size w W) => small_at c m L1 A1 k1 false hc hl1 hs1 W hb)
    clear hc hl1 hs1 hl2
    go_enter Try.func6, Try.ntmps6
    go_upto_region 1 with (fail)
    refine name_wp ?_
    intro X0 hX
    have gbc : Blk X0 w.heap.size 27 (coA c m) := by rw [hX]; exact blk_at (by simp)
    have HB0 : Below w.heap.size w X0 := by rw [hX]; (repeat (first | with_reducible assumption | with_reducible exact Below.refl _ _ | with_reducible refine below_drewN ?_ _ | with_reducible refine Below.drew ?_ | with_reducible refine below_alloc ?_ _ | with_reducible refine Below.setCell ?_ (by first | omega | (simp; done) | (simp; omega)) _ | with_reducible refine below_then ?_ (by with_reducible assumption) | (refine below_then (a := World.drew _) ?_ (by with_reducible assumption))))
    clear hX
    obtain ⟨bc, ebc⟩ : ∃ b, w.heap.size = b := ⟨_, rfl⟩
    have lbc : w.heap.size ≤ bc := by omega
    rw [ebc] at gbc ⊢
    clear ebc
    go_upto_region 2 with ((go_at_call 9; (with_reducible refine (HH.out _).mono ?_); rintro e w1 ⟨rfl, hbw1⟩))
    have HH1 := hbw1
    have HB1 := below_then HB0 HH1
    have gbc_1 := gbc.then_ HH1
    clear gbc HB0 HH1
    go_wp2_with (first | (refine wpList_row_w (by rfl) 27 _ rfl bc rfl 27 _ gbc_1 ⟨_, Try.underlying27⟩ (by kernel_rfl) ?_; simp only [Act.put, List.setIfInBounds_toArray, List.set_cons_succ, List.set_cons_zero]) | (go_at_call 10; (with_reducible refine (HS.out _ HB1).mono ?_); rintro e w2 ⟨rfl, hbw2⟩))
    go_ret
    exact ⟨rfl, below_then HB1 hbw2⟩
  | true =>
  have HS := Lib.hid (fun W (hb : Below w.heap.size w W) => small_at c m L1 A1 k1 true hc hl1 hs1 W hb)
  cases hs2 : smallA c (pats L2) with
  | false =>
    have HT := Lib.hid (fun W (hb : Below w.heap.size w W) => small_at c m L2 A2 k2 false hc hl2 hs2 W hb)
    clear hc hl1 hs1 hl2 hs2
    go_enter Try.func6, Try.ntmps6
    go_upto_region 1 with (fail)
    refine name_wp ?_
    intro X0 hX
    have gbc : Blk X0 w.heap.size 27 (coA c m) := by rw [hX]; exact blk_at (by simp)
    have HB0 : Below w.heap.size w X0 := by rw [hX]; (repeat (first | with_reducible assumption | with_reducible exact Below.refl _ _ | with_reducible refine below_drewN ?_ _ | with_reducible refine Below.drew ?_ | with_reducible refine below_alloc ?_ _ | with_reducible refine Below.setCell ?_ (by first | omega | (simp; done) | (simp; omega)) _ | with_reducible refine below_then ?_ (by with_reducible assumption) | (refine below_then (a := World.drew _) ?_ (by with_reducible assumption))))
    clear hX
    obtain ⟨bc, ebc⟩ : ∃ b, w.heap.size = b := ⟨_, rfl⟩
    have lbc : w.heap.size ≤ bc := by omega
    rw [ebc] at gbc ⊢
    clear ebc
    go_upto_region 2 with ((go_at_call 9; (with_reducible refine (HH.out _).mono ?_); rintro e w1 ⟨rfl, hbw1⟩))
    have HH1 := hbw1
    have HB1 := below_then HB0 HH1
    have gbc_1 := gbc.then_ HH1
    clear gbc HB0 HH1
    go_wp2_with (first | (refine wpList_row_w (by rfl) 27 _ rfl bc rfl 27 _ gbc_1 ⟨_, Try.underlying27⟩ (by kernel_rfl) ?_; simp only [Act.put, List.setIfInBounds_toArray, List.set_cons_succ, List.set_cons_zero]) | (go_at_call 10; (with_reducible refine (HS.out _ HB1).mono ?_); rintro e w2 ⟨rfl, hbw2⟩; have gw2 := gbc_1.then_ hbw2) | (refine wpList_row_w (by rfl) 27 _ rfl bc rfl 27 _ gw2 ⟨_, Try.underlying27⟩ (by kernel_rfl) ?_; simp only [Act.put, List.setIfInBounds_toArray, List.set_cons_succ, List.set_cons_zero]) | (go_at_call 10; (with_reducible refine (HT.out _ (below_then HB1 hbw2)).mono ?_); rintro e w3 ⟨rfl, hbw3⟩))
    go_ret
    exact ⟨rfl, below_then (below_then HB1 hbw2) hbw3⟩
  | true =>
  have HT := Lib.hid (fun W (hb : Below w.heap.size w W) => small_at c m L2 A2 k2 true hc hl2 hs2 W hb)
  obtain ⟨hC, hn⟩ := smallA_con hc hs1
  obtain ⟨hP1, h71, hk1⟩ := smallA_pats hl1 hs1
  obtain ⟨hP2, h72, hk2⟩ := smallA_pats hl2 hs2
  have hwr : IntKind.i64.wrap ((L1.length : Int) + (L2.length : Int)) = (L1.length : Int) + (L2.length : Int) := by rw [IntKind.wrap_i64]; omega
  clear hc hl1 hs1 hl2 hs2
  by_cases h60 : 12 < L1.length + L2.length
  · have t1 : decide ((12 : Int) < (L1.length : Int) + (L2.length : Int)) = true := decide_eq_true (by omega)
    clear h60 h71 h72 hk1 hk2 hn hC hP1 hP2
    go_enter Try.func6, Try.ntmps6
    go_upto_region 1 with (fail)
    refine name_wp ?_
    intro X0 hX
    have gbc : Blk X0 w.heap.size 27 (coA c m) := by rw [hX]; exact blk_at (by simp)
    have HB0 : Below w.heap.size w X0 := by rw [hX]; (repeat (first | with_reducible assumption | with_reducible exact Below.refl _ _ | with_reducible refine below_drewN ?_ _ | with_reducible refine Below.drew ?_ | with_reducible refine below_alloc ?_ _ | with_reducible refine Below.setCell ?_ (by first | omega | (simp; done) | (simp; omega)) _ | with_reducible refine below_then ?_ (by with_reducible assumption) | (refine below_then (a := World.drew _) ?_ (by with_reducible assumption))))
    clear hX
    obtain ⟨bc, ebc⟩ : ∃ b, w.heap.size = b := ⟨_, rfl⟩
    have lbc : w.heap.size ≤ bc := by omega
    rw [ebc] at gbc ⊢
    clear ebc
    go_upto_region 2 with ((go_at_call 9; (with_reducible refine (HH.out _).mono ?_); rintro e w1 ⟨rfl, hbw1⟩))
    have HH1 := hbw1
    have HB1 := below_then HB0 HH1
    have gbc_1 := gbc.then_ HH1
    clear gbc HB0 HH1
    go_wp2_with (first | (refine wpList_row_w (by rfl) 27 _ rfl bc rfl 27 _ gbc_1 ⟨_, Try.underlying27⟩ (by kernel_rfl) ?_; simp only [Act.put, List.setIfInBounds_toArray, List.set_cons_succ, List.set_cons_zero]) | (go_at_call 10; (with_reducible refine (HS.out _ HB1).mono ?_); rintro e w2 ⟨rfl, hbw2⟩; have gw2 := gbc_1.then_ hbw2) | (refine wpList_row_w (by rfl) 27 _ rfl bc rfl 27 _ gw2 ⟨_, Try.underlying27⟩ (by kernel_rfl) ?_; simp only [Act.put, List.setIfInBounds_toArray, List.set_cons_succ, List.set_cons_zero]) | (go_at_call 10; (with_reducible refine (HT.out _ (below_then HB1 hbw2)).mono ?_); rintro e w3 ⟨rfl, hbw3⟩))
    go_ret
    exact ⟨rfl, below_then (below_then HB1 hbw2) hbw3⟩
  have t1 : decide ((12 : Int) < (L1.length : Int) + (L2.length : Int)) = false := decide_eq_false (by omega)
  have h12 : (pats L1).length + (pats L2).length ≤ 12 := by rw [List.length_map, List.length_map]; omega
  have HCW := Lib.hid hC
  have HP1 := Lib.hid hP1
  have HP2 := Lib.hid hP2
  have he2 := fun W => eqP2 0 0 0 0 W
  have hz2 : ∀ W : World, (zeroValue 36).run Try.prog W = .ok (.agg #[.int .i64 0, .int .i64 0]) W := fun W => by kernel_rfl
  simp only [and_self, decide_true] at he2
  obtain ⟨E, eE⟩ : ∃ E, (c.mrE (pats L1) (pats L2)).1 = E := ⟨_, rfl⟩
  have HM12 := Lib.hid (conflict_law (c := c) (l := pats L1) (r := pats L2) (by omega))
  have HMP := Lib.hid (mr_pair (c := c) (l := pats L1) (r := pats L2))
  have HE := Lib.hid eE
  clear hC hP1 hP2 eE h12
  go_enter Try.func6, Try.ntmps6
  go_upto_region 1 with (fail)
  refine name_wp ?_
  intro X0 hX
  have gbc : Blk X0 w.heap.size 27 (coA c m) := by rw [hX]; exact blk_at (by simp)
  have HB0 : Below w.heap.size w X0 := by rw [hX]; (repeat (first | with_reducible assumption | with_reducible exact Below.refl _ _ | with_reducible refine below_drewN ?_ _ | with_reducible refine Below.drew ?_ | with_reducible refine below_alloc ?_ _ | with_reducible refine Below.setCell ?_ (by first | omega | (simp; done) | (simp; omega)) _ | with_reducible refine below_then ?_ (by with_reducible assumption) | (refine below_then (a := World.drew _) ?_ (by with_reducible assumption))))
  clear hX
  obtain ⟨bc, ebc⟩ : ∃ b, w.heap.size = b := ⟨_, rfl⟩
  have lbc : w.heap.size ≤ bc := by omega
  rw [ebc] at gbc ⊢
  clear ebc
  go_upto_region 2 with ((go_at_call 9; (with_reducible refine (HH.out _).mono ?_); rintro e w1 ⟨rfl, hbw1⟩))
  have HH1 := hbw1
  have HB1 := below_then HB0 HH1
  have gbc_1 := gbc.then_ HH1
  clear gbc HB0 HH1
  go_upto_region 4 with (first | (refine wpList_row_w (by rfl) 27 _ rfl bc rfl 27 _ gbc_1 ⟨_, Try.underlying27⟩ (by kernel_rfl) ?_; simp only [Act.put, List.setIfInBounds_toArray, List.set_cons_succ, List.set_cons_zero]) | (go_at_call 10; (with_reducible refine (HS.out _ HB1).mono ?_); rintro e w2 ⟨rfl, hbw2⟩; have gw2 := gbc_1.then_ hbw2) | (refine wpList_row_w (by rfl) 27 _ rfl bc rfl 27 _ gw2 ⟨_, Try.underlying27⟩ (by kernel_rfl) ?_; simp only [Act.put, List.setIfInBounds_toArray, List.set_cons_succ, List.set_cons_zero]) | (go_at_call 10; (with_reducible refine (HT.out _ (below_then HB1 hbw2)).mono ?_); rintro e WS ⟨rfl, hbw3⟩))
  have HH2 := below_then hbw2 hbw3
  have HB2 := below_then HB1 HH2
  have gbc_2 := gbc_1.then_ HH2
  clear gbc_1 HB1 HH2
  try clear gw2
  have HBS := Lib.hid HB2
  have GBS := Lib.hid gbc_2
  clear HB2 gbc_2
  obtain ⟨BB, hBB⟩ : ∃ b, (decide (0 < L1.length) && decide (0 < L2.length)) = b := ⟨_, rfl⟩
  go_cut [57] from 50 to 57 (fun v W => v = .bool BB ∧ WS = W)
  case first =>
    by_cases h1 : 0 < L1.length
    · have u1 : decide ((0 : Int) < (L1.length : Int)) = true := decide_eq_true (by omega)
      have u1n : decide (0 < L1.length) = true := decide_eq_true h1
      by_cases h2 : 0 < L2.length
      · have u2 : decide ((0 : Int) < (L2.length : Int)) = true := decide_eq_true (by omega)
        have u2n : decide (0 < L2.length) = true := decide_eq_true h2
        obtain rfl : BB = true := by rw [← hBB, u1n, u2n]; rfl
        clear hBB h1 h2
        go_wp2
        go_meet
        case rel => exact ⟨rfl, rfl⟩
      · have u2 : decide ((0 : Int) < (L2.length : Int)) = false := decide_eq_false (by omega)
        have u2n : decide (0 < L2.length) = false := decide_eq_false h2
        obtain rfl : BB = false := by rw [← hBB, u1n, u2n]; rfl
        clear hBB h1 h2
        go_wp2
        go_meet
        case rel => exact ⟨rfl, rfl⟩
    · have u1 : decide ((0 : Int) < (L1.length : Int)) = false := decide_eq_false (by omega)
      have u1n : decide (0 < L1.length) = false := decide_eq_false h1
      obtain rfl : BB = false := by rw [← hBB, u1n]; rfl
      clear hBB h1
      go_wp2
      go_meet
      case rel => exact ⟨rfl, rfl⟩
  obtain ⟨rfl, rfl⟩ := hcut
  have HBB := Lib.hid hBB
  clear hBB
  go_upto_if 57 with (fail)
  go_cut [] from 57 to 57 (fun W => Below WS.heap.size WS W)
  case first =>
    cases BB
    case false => (go_wp2; go_meet; (case rel => exact Below.refl _ _))
    case true =>
    obtain ⟨h1, h2⟩ : 0 < L1.length ∧ 0 < L2.length := by have := HBB.out; simpa using this
    obtain ⟨x, hx⟩ : ∃ x, L1[0]? = some x := ⟨_, List.getElem?_eq_getElem h1⟩
    obtain ⟨y, hy⟩ : ∃ y, L2[0]? = some y := ⟨_, List.getElem?_eq_getElem h2⟩
    have hPS1 := HP1.out.then_ HBS.out
    have hPS2 := HP2.out.then_ HBS.out
    obtain ⟨b1, o1, eA1, lb1, hc1⟩ := segAt hPS1.s hx
    obtain ⟨b2, o2, eA2, lb2, hc2⟩ := segAt hPS2.s hy
    have rb1 : Hid (WS.rangeAt b1 o1 (eP x)) := fun j v hv => by simpa using hc1 j v hv
    have rb2 : Hid (WS.rangeAt b2 o2 (eP y)) := fun j v hv => by simpa using hc2 j v hv
    have hib1 : ∀ W : World, (Instr.indexAt 28 (.slice A1 L1.length k1) (.int .i64 0)).run Try.prog W = .ok (.pointer (some ⟨b1, o1, none⟩)) W := fun W => by simpa using idx_at (t := 28) (size := 19) (cap := k1) (len := L1.length) (k := 0) eA1 h1 (by kernel_rfl) (fun W => by kernel_rfl) W
    have hib2 : ∀ W : World, (Instr.indexAt 28 (.slice A2 L2.length k2) (.int .i64 0)).run Try.prog W = .ok (.pointer (some ⟨b2, o2, none⟩)) W := fun W => by simpa using idx_at (t := 28) (size := 19) (cap := k2) (len := L2.length) (k := 0) eA2 h2 (by kernel_rfl) (fun W => by kernel_rfl) W
    have hs1 : ∀ W : World, (Instr.slice 28 (.slice A1 L1.length k1) none (some (.int .i64 1)) none).run Try.prog W = .ok (.slice A1 1 k1) W := fun W => take_at (t := 28) (A := A1) (len := L1.length) (size := 19) (i := 1) (by omega) (by kernel_rfl) (fun W => by kernel_rfl) W
    have hs2 : ∀ W : World, (Instr.slice 28 (.slice A2 L2.length k2) none (some (.int .i64 1)) none).run Try.prog W = .ok (.slice A2 1 k2) W := fun W => take_at (t := 28) (A := A2) (len := L2.length) (size := 19) (i := 1) (by omega) (by kernel_rfl) (fun W => by kernel_rfl) W
    have px : Hid (PatM WS x.p x.m) := hPS1.t x (List.mem_of_getElem? hx)
    have py : Hid (PatM WS y.p y.m) := hPS2.t y (List.mem_of_getElem? hy)
    obtain ⟨E1, eE1⟩ : ∃ E, c.apE x.p = E := ⟨_, rfl⟩
    obtain ⟨E2, eE2⟩ : ∃ E, c.apE y.p = E := ⟨_, rfl⟩
    obtain ⟨C1, eC1⟩ : ∃ C, c.apC x.p = C := ⟨_, rfl⟩
    obtain ⟨C2, eC2⟩ : ∃ C, c.apC y.p = C := ⟨_, rfl⟩
    obtain ⟨⟨G, g1, g2⟩, eG⟩ : ∃ G, c.mrE [x.p] [y.p] = G := ⟨_, rfl⟩
    obtain ⟨S, eS⟩ : ∃ S, c.com x.p y.p = S := ⟨_, rfl⟩
    have HX1 := Lib.hid (fun W (hb : Below WS.heap.size WS W) => apply_to c C1 m x.p x.m E1 W (HCW.out.then_ (below_then HBS.out hb)) (px.out.then_ hb) eE1 eC1)
    have HX2 := Lib.hid (fun W (hb : Below WS.heap.size WS W) => apply_to c C2 m y.p y.m E2 W (HCW.out.then_ (below_then HBS.out hb)) (py.out.then_ hb) eE2 eC2)
    have tk1 : (L1.take 1).length = 1 := by rw [List.length_take]; omega
    have tk2 : (L2.take 1).length = 1 := by rw [List.length_take]; omega
    have ek1 : (pats L1).take 1 = [x.p] := by cases L1 with | nil => cases hx | cons a l => (simp at hx; subst hx; rfl)
    have ek2 : (pats L2).take 1 = [y.p] := by cases L2 with | nil => cases hy | cons a l => (simp at hy; subst hy; rfl)
    have HX3 := Lib.hid (fun W (hb : Below WS.heap.size WS W) => mrg_tk c m L1 L2 A1 A2 1 1 1 1 k1 k2 W G g1 g2 (HCW.out.then_ (below_then HBS.out hb)) (HP1.out.then_ (below_then HBS.out hb)) (HP2.out.then_ (below_then HBS.out hb)) tk1 tk2 (by omega) (by rw [ek1, ek2]; exact eG))
    have HX4 := Lib.hid (fun W (hb : Below WS.heap.size WS W) => com_at c m x.p y.p x.m y.m W S (HCW.out.then_ (below_then HBS.out hb)) (px.out.then_ hb) (py.out.then_ hb) eS)
    have hone := one_parts (c := c) (p := x.p) (q := y.p) hn
    rw [eE1, eE2, eG, eS] at hone
    have HONE := Lib.hid hone
    clear hone ek1 ek2 tk1 tk2 eE1 eE2 eC1 eC2 eG eS px py hx hy hPS1 hPS2 hc1 hc2 eA1 eA2 h1 h2
    go_upto_region 5 with (fail)
    go_cut [9] from 58 to 65 (fun v W => v = .int .i64 E1 ∧ Below WS.heap.size WS W)
    case first =>
      refine wp_region_hb (fun w' => Hid (Below WS.heap.size WS w')) [0, 1, 2, 3, 4, 5, 6, 7, 8, 9] [10] (by kernel_rfl) (by kernel_rfl) (by repeat (first | with_reducible refine panOk_then ?_ | with_reducible refine panOk_block ?_ | exact panOk_body)) (Lib.hid (Below.drew (Below.refl _ _))) (fun hdir hsel hpan hHeld => ?_)
      refine wpHB_take (i := 0) (oi := ⟨some 59, _, _, _, _, _⟩) hdir hsel hpan rfl (by kernel_rfl) (by kernel_rfl) (by kernel_rfl) (yieldsIf_row (by rfl) 27 _ rfl bc rfl 27 _ (fun w hw => (GBS.out.then_ hw.out)) ⟨_, Try.underlying27⟩ (by kernel_rfl)) (by assumption) ?_
      try simp only [Act.put, List.setIfInBounds_toArray, List.set_cons_zero, List.set_cons_succ]
      refine wpHB_take (i := 1) (oi := ⟨some 60, _, _, _, _, _⟩) hdir hsel hpan rfl (by kernel_rfl) (by kernel_rfl) (by kernel_rfl) (Or.inl ⟨by rfl, fun _ _ => by rfl⟩) (by assumption) ?_
      try simp only [Act.put, List.setIfInBounds_toArray, List.set_cons_zero, List.set_cons_succ]
      refine wpHB_take (i := 2) (oi := ⟨some 61, _, _, _, _, _⟩) (v := .pointer (some ⟨b1, o1, none⟩)) hdir hsel hpan rfl (by kernel_rfl) (by kernel_rfl) (by kernel_rfl) (Or.inl ⟨by rfl, fun w hw => by have h := hib1 w; go_simp⟩) (by assumption) ?_
      try simp only [Act.put, List.setIfInBounds_toArray, List.set_cons_zero, List.set_cons_succ]
      refine wpHB_take (i := 3) (oi := ⟨some 62, _, _, _, _, _⟩) hdir hsel hpan rfl (by kernel_rfl) (by kernel_rfl) (by kernel_rfl) (yieldsIf_load_mid (by rfl) 49 _ rfl b1 _ rfl (eP x) _ (fun w hw => (fun j v hv => (hw.out.cell (p := ⟨b1, _, none⟩) lb1).trans (rb1.out j v hv))) Try.underlying49 rfl (by kernel_rfl)) (by assumption) ?_
      try simp only [Act.put, List.setIfInBounds_toArray, List.set_cons_zero, List.set_cons_succ]
      refine wpHB_ready (rs := [4, 8]) (by kernel_rfl) (by simp) ?_
      refine AllHB.cons (by kernel_rfl) (o := ⟨some 63, _, _, _, _, _⟩) rfl (fun K hK => ?_) ?_
      · go_simp
        (go_at_call 17; (with_reducible refine (HX1.out _ hHeld.out).mono ?_); rintro e wa ⟨⟨ma, rfl, hma⟩, hbwa⟩)
        refine hK.out _ _ (Lib.hid (below_then hHeld.out hbwa)) (fun hHeld2 => ?_)
        clear hK K hHeld
        have hHeld := hHeld2
        clear hHeld2
        try simp only [Act.put, List.setIfInBounds_toArray, List.set_cons_zero, List.set_cons_succ]
        refine wpHB_take (i := 5) (oi := ⟨some 58, _, _, _, _, _⟩) hdir hsel hpan rfl (by kernel_rfl) (by kernel_rfl) (by kernel_rfl) (Or.inl ⟨by rfl, fun _ _ => by rfl⟩) (by assumption) ?_
        try simp only [Act.put, List.setIfInBounds_toArray, List.set_cons_zero, List.set_cons_succ]
        refine wpHB_take (i := 6) (oi := ⟨some 64, _, _, _, _, _⟩) hdir hsel hpan rfl (by kernel_rfl) (by kernel_rfl) (by kernel_rfl) (Or.inl ⟨by rfl, fun _ _ => by rfl⟩) (by assumption) ?_
        try simp only [Act.put, List.setIfInBounds_toArray, List.set_cons_zero, List.set_cons_succ]
        refine wpHB_take (i := 7) (oi := ⟨some 65, _, _, _, _, _⟩) hdir hsel hpan rfl (by kernel_rfl) (by kernel_rfl) (by kernel_rfl) (Or.inl ⟨by rfl, fun _ _ => by rfl⟩) (by assumption) ?_
        try simp only [Act.put, List.setIfInBounds_toArray, List.set_cons_zero, List.set_cons_succ]
        refine wpHB_ready (rs := [8]) (by kernel_rfl) (by simp) ?_
        refine AllHB.cons (by kernel_rfl) (o := ⟨some 8, _, _, _, _, _⟩) rfl (fun K hK => ?_) AllHB.nil
        go_simp
        have lla := hHeld.out.size
        refine name_k ?_
        intro Vp hVp
        obtain ⟨gp, hbp⟩ : _ ∧ _ := (by first | exact con_new hVp | exact con_new (W := WS.drew) hVp)
        clear hVp
        refine hK.out _ _ (Lib.hid (below_then hHeld.out hbp)) (fun hHeld2 => ?_)
        clear hK K hHeld
        have hHeld := hHeld2
        clear hHeld2
        try simp only [Act.put, List.setIfInBounds_toArray, List.set_cons_zero, List.set_cons_succ]
        refine wpHB_ready (rs := [9]) (by kernel_rfl) (by simp) ?_
        refine AllHB.cons (by kernel_rfl) (o := ⟨none, _, _, _, _, _⟩) rfl (fun K hK => ?_) AllHB.nil
        rw [if_pos (by rfl)]
        refine wp_store_all 27 _ _ rfl _ 27 [] coZ.toList [] (coA C1 ma).toList rfl rfl (gp.then_ (by (repeat (first | with_reducible exact Below.refl _ _ | with_reducible assumption | with_reducible refine below_then ?_ (by with_reducible assumption))))) rfl (by kernel_rfl) (by simp [Value.oneCell']) ?_
        intro w8 g8 U8
        refine hK.out _ _ (Lib.hid (hHeld.out.trans (U8.b _ lla))) (fun hHeld2 => ?_)
        clear hK K hHeld
        have hHeld := hHeld2
        clear hHeld2
        try simp only [Act.put]
        refine wpHB_tail (by kernel_rfl) (by kernel_rfl) ?_
        clear hdir hsel hpan
        simp only [opsAt, List.getElem?_toArray, List.getElem?_cons_succ, List.getElem?_cons_zero, Option.toList_some, List.cons_append, List.nil_append]
        go_wp2
        go_meet
        case rel => exact ⟨rfl, hHeld.out⟩
      refine AllHB.cons (by kernel_rfl) (o := ⟨some 8, _, _, _, _, _⟩) rfl (fun K hK => ?_) ?_
      · go_simp
        have lla := hHeld.out.size
        refine name_k ?_
        intro Vp hVp
        obtain ⟨gp, hbp⟩ : _ ∧ _ := (by first | exact con_new hVp | exact con_new (W := WS.drew) hVp)
        clear hVp
        refine hK.out _ _ (Lib.hid (below_then hHeld.out hbp)) (fun hHeld2 => ?_)
        clear hK K hHeld
        have hHeld := hHeld2
        clear hHeld2
        try simp only [Act.put, List.setIfInBounds_toArray, List.set_cons_zero, List.set_cons_succ]
        refine wpHB_ready (rs := [4]) (by kernel_rfl) (by simp) ?_
        refine AllHB.cons (by kernel_rfl) (o := ⟨some 63, _, _, _, _, _⟩) rfl (fun K hK => ?_) AllHB.nil
        go_simp
        (go_at_call 17; (with_reducible refine (HX1.out _ hHeld.out).mono ?_); rintro e wa ⟨⟨ma, rfl, hma⟩, hbwa⟩)
        refine hK.out _ _ (Lib.hid (below_then hHeld.out hbwa)) (fun hHeld2 => ?_)
        clear hK K hHeld
        have hHeld := hHeld2
        clear hHeld2
        try simp only [Act.put, List.setIfInBounds_toArray, List.set_cons_zero, List.set_cons_succ]
        refine wpHB_take (i := 5) (oi := ⟨some 58, _, _, _, _, _⟩) hdir hsel hpan rfl (by kernel_rfl) (by kernel_rfl) (by kernel_rfl) (Or.inl ⟨by rfl, fun _ _ => by rfl⟩) (by assumption) ?_
        try simp only [Act.put, List.setIfInBounds_toArray, List.set_cons_zero, List.set_cons_succ]
        refine wpHB_take (i := 6) (oi := ⟨some 64, _, _, _, _, _⟩) hdir hsel hpan rfl (by kernel_rfl) (by kernel_rfl) (by kernel_rfl) (Or.inl ⟨by rfl, fun _ _ => by rfl⟩) (by assumption) ?_
        try simp only [Act.put, List.setIfInBounds_toArray, List.set_cons_zero, List.set_cons_succ]
        refine wpHB_take (i := 7) (oi := ⟨some 65, _, _, _, _, _⟩) hdir hsel hpan rfl (by kernel_rfl) (by kernel_rfl) (by kernel_rfl) (Or.inl ⟨by rfl, fun _ _ => by rfl⟩) (by assumption) ?_
        try simp only [Act.put, List.setIfInBounds_toArray, List.set_cons_zero, List.set_cons_succ]
        refine wpHB_ready (rs := [9]) (by kernel_rfl) (by simp) ?_
        refine AllHB.cons (by kernel_rfl) (o := ⟨none, _, _, _, _, _⟩) rfl (fun K hK => ?_) AllHB.nil
        rw [if_pos (by rfl)]
        refine wp_store_all 27 _ _ rfl _ 27 [] coZ.toList [] (coA C1 ma).toList rfl rfl (gp.then_ (by (repeat (first | with_reducible exact Below.refl _ _ | with_reducible assumption | with_reducible refine below_then ?_ (by with_reducible assumption))))) rfl (by kernel_rfl) (by simp [Value.oneCell']) ?_
        intro w8 g8 U8
        refine hK.out _ _ (Lib.hid (hHeld.out.trans (U8.b _ lla))) (fun hHeld2 => ?_)
        clear hK K hHeld
        have hHeld := hHeld2
        clear hHeld2
        try simp only [Act.put]
        refine wpHB_tail (by kernel_rfl) (by kernel_rfl) ?_
        clear hdir hsel hpan
        simp only [opsAt, List.getElem?_toArray, List.getElem?_cons_succ, List.getElem?_cons_zero, Option.toList_some, List.cons_append, List.nil_append]
        go_wp2
        go_meet
        case rel => exact ⟨rfl, hHeld.out⟩
      exact AllHB.nil
    obtain ⟨rfl, hbn⟩ := hcut
    obtain ⟨WT, rfl⟩ : ∃ W, W = wc := ⟨_, rfl⟩
    have HHWT := Lib.hid hbn
    clear hbn
    go_upto_region 6 with (fail)
    go_cut [11] from 66 to 73 (fun v W => v = .int .i64 E2 ∧ Below WT.heap.size WT W)
    case first =>
      refine wp_region_hb (fun w' => Hid (Below WT.heap.size WT w')) [0, 1, 2, 3, 4, 5, 6, 7, 8, 9] [10] (by kernel_rfl) (by kernel_rfl) (by repeat (first | with_reducible refine panOk_then ?_ | with_reducible refine panOk_block ?_ | exact panOk_body)) (Lib.hid (Below.drew (Below.refl _ _))) (fun hdir hsel hpan hHeld => ?_)
      refine wpHB_take (i := 0) (oi := ⟨some 67, _, _, _, _, _⟩) hdir hsel hpan rfl (by kernel_rfl) (by kernel_rfl) (by kernel_rfl) (yieldsIf_row (by rfl) 27 _ rfl bc rfl 27 _ (fun w hw => (GBS.out.then_ (below_then HHWT.out hw.out))) ⟨_, Try.underlying27⟩ (by kernel_rfl)) (by assumption) ?_
      try simp only [Act.put, List.setIfInBounds_toArray, List.set_cons_zero, List.set_cons_succ]
      refine wpHB_take (i := 1) (oi := ⟨some 68, _, _, _, _, _⟩) hdir hsel hpan rfl (by kernel_rfl) (by kernel_rfl) (by kernel_rfl) (Or.inl ⟨by rfl, fun _ _ => by rfl⟩) (by assumption) ?_
      try simp only [Act.put, List.setIfInBounds_toArray, List.set_cons_zero, List.set_cons_succ]
      refine wpHB_take (i := 2) (oi := ⟨some 69, _, _, _, _, _⟩) (v := .pointer (some ⟨b2, o2, none⟩)) hdir hsel hpan rfl (by kernel_rfl) (by kernel_rfl) (by kernel_rfl) (Or.inl ⟨by rfl, fun w hw => by have h := hib2 w; go_simp⟩) (by assumption) ?_
      try simp only [Act.put, List.setIfInBounds_toArray, List.set_cons_zero, List.set_cons_succ]
      refine wpHB_take (i := 3) (oi := ⟨some 70, _, _, _, _, _⟩) hdir hsel hpan rfl (by kernel_rfl) (by kernel_rfl) (by kernel_rfl) (yieldsIf_load_mid (by rfl) 49 _ rfl b2 _ rfl (eP y) _ (fun w hw => (fun j v hv => ((below_then HHWT.out hw.out).cell (p := ⟨b2, _, none⟩) lb2).trans (rb2.out j v hv))) Try.underlying49 rfl (by kernel_rfl)) (by assumption) ?_
      try simp only [Act.put, List.setIfInBounds_toArray, List.set_cons_zero, List.set_cons_succ]
      refine wpHB_ready (rs := [4, 8]) (by kernel_rfl) (by simp) ?_
      refine AllHB.cons (by kernel_rfl) (o := ⟨some 71, _, _, _, _, _⟩) rfl (fun K hK => ?_) ?_
      · go_simp
        (go_at_call 17; (with_reducible refine (HX2.out _ (below_then HHWT.out hHeld.out)).mono ?_); rintro e wa ⟨⟨ma, rfl, hma⟩, hbwa⟩)
        refine hK.out _ _ (Lib.hid (below_then hHeld.out hbwa)) (fun hHeld2 => ?_)
        clear hK K hHeld
        have hHeld := hHeld2
        clear hHeld2
        try simp only [Act.put, List.setIfInBounds_toArray, List.set_cons_zero, List.set_cons_succ]
        refine wpHB_take (i := 5) (oi := ⟨some 66, _, _, _, _, _⟩) hdir hsel hpan rfl (by kernel_rfl) (by kernel_rfl) (by kernel_rfl) (Or.inl ⟨by rfl, fun _ _ => by rfl⟩) (by assumption) ?_
        try simp only [Act.put, List.setIfInBounds_toArray, List.set_cons_zero, List.set_cons_succ]
        refine wpHB_take (i := 6) (oi := ⟨some 72, _, _, _, _, _⟩) hdir hsel hpan rfl (by kernel_rfl) (by kernel_rfl) (by kernel_rfl) (Or.inl ⟨by rfl, fun _ _ => by rfl⟩) (by assumption) ?_
        try simp only [Act.put, List.setIfInBounds_toArray, List.set_cons_zero, List.set_cons_succ]
        refine wpHB_take (i := 7) (oi := ⟨some 73, _, _, _, _, _⟩) hdir hsel hpan rfl (by kernel_rfl) (by kernel_rfl) (by kernel_rfl) (Or.inl ⟨by rfl, fun _ _ => by rfl⟩) (by assumption) ?_
        try simp only [Act.put, List.setIfInBounds_toArray, List.set_cons_zero, List.set_cons_succ]
        refine wpHB_ready (rs := [8]) (by kernel_rfl) (by simp) ?_
        refine AllHB.cons (by kernel_rfl) (o := ⟨some 10, _, _, _, _, _⟩) rfl (fun K hK => ?_) AllHB.nil
        go_simp
        have lla := hHeld.out.size
        refine name_k ?_
        intro Vp hVp
        obtain ⟨gp, hbp⟩ : _ ∧ _ := (by first | exact con_new hVp | exact con_new (W := WT.drew) hVp)
        clear hVp
        refine hK.out _ _ (Lib.hid (below_then hHeld.out hbp)) (fun hHeld2 => ?_)
        clear hK K hHeld
        have hHeld := hHeld2
        clear hHeld2
        try simp only [Act.put, List.setIfInBounds_toArray, List.set_cons_zero, List.set_cons_succ]
        refine wpHB_ready (rs := [9]) (by kernel_rfl) (by simp) ?_
        refine AllHB.cons (by kernel_rfl) (o := ⟨none, _, _, _, _, _⟩) rfl (fun K hK => ?_) AllHB.nil
        rw [if_pos (by rfl)]
        refine wp_store_all 27 _ _ rfl _ 27 [] coZ.toList [] (coA C2 ma).toList rfl rfl (gp.then_ (by (repeat (first | with_reducible exact Below.refl _ _ | with_reducible assumption | with_reducible refine below_then ?_ (by with_reducible assumption))))) rfl (by kernel_rfl) (by simp [Value.oneCell']) ?_
        intro w8 g8 U8
        refine hK.out _ _ (Lib.hid (hHeld.out.trans (U8.b _ lla))) (fun hHeld2 => ?_)
        clear hK K hHeld
        have hHeld := hHeld2
        clear hHeld2
        try simp only [Act.put]
        refine wpHB_tail (by kernel_rfl) (by kernel_rfl) ?_
        clear hdir hsel hpan
        simp only [opsAt, List.getElem?_toArray, List.getElem?_cons_succ, List.getElem?_cons_zero, Option.toList_some, List.cons_append, List.nil_append]
        go_wp2
        go_meet
        case rel => exact ⟨rfl, hHeld.out⟩
      refine AllHB.cons (by kernel_rfl) (o := ⟨some 10, _, _, _, _, _⟩) rfl (fun K hK => ?_) ?_
      · go_simp
        have lla := hHeld.out.size
        refine name_k ?_
        intro Vp hVp
        obtain ⟨gp, hbp⟩ : _ ∧ _ := (by first | exact con_new hVp | exact con_new (W := WT.drew) hVp)
        clear hVp
        refine hK.out _ _ (Lib.hid (below_then hHeld.out hbp)) (fun hHeld2 => ?_)
        clear hK K hHeld
        have hHeld := hHeld2
        clear hHeld2
        try simp only [Act.put, List.setIfInBounds_toArray, List.set_cons_zero, List.set_cons_succ]
        refine wpHB_ready (rs := [4]) (by kernel_rfl) (by simp) ?_
        refine AllHB.cons (by kernel_rfl) (o := ⟨some 71, _, _, _, _, _⟩) rfl (fun K hK => ?_) AllHB.nil
        go_simp
        (go_at_call 17; (with_reducible refine (HX2.out _ (below_then HHWT.out hHeld.out)).mono ?_); rintro e wa ⟨⟨ma, rfl, hma⟩, hbwa⟩)
        refine hK.out _ _ (Lib.hid (below_then hHeld.out hbwa)) (fun hHeld2 => ?_)
        clear hK K hHeld
        have hHeld := hHeld2
        clear hHeld2
        try simp only [Act.put, List.setIfInBounds_toArray, List.set_cons_zero, List.set_cons_succ]
        refine wpHB_take (i := 5) (oi := ⟨some 66, _, _, _, _, _⟩) hdir hsel hpan rfl (by kernel_rfl) (by kernel_rfl) (by kernel_rfl) (Or.inl ⟨by rfl, fun _ _ => by rfl⟩) (by assumption) ?_
        try simp only [Act.put, List.setIfInBounds_toArray, List.set_cons_zero, List.set_cons_succ]
        refine wpHB_take (i := 6) (oi := ⟨some 72, _, _, _, _, _⟩) hdir hsel hpan rfl (by kernel_rfl) (by kernel_rfl) (by kernel_rfl) (Or.inl ⟨by rfl, fun _ _ => by rfl⟩) (by assumption) ?_
        try simp only [Act.put, List.setIfInBounds_toArray, List.set_cons_zero, List.set_cons_succ]
        refine wpHB_take (i := 7) (oi := ⟨some 73, _, _, _, _, _⟩) hdir hsel hpan rfl (by kernel_rfl) (by kernel_rfl) (by kernel_rfl) (Or.inl ⟨by rfl, fun _ _ => by rfl⟩) (by assumption) ?_
        try simp only [Act.put, List.setIfInBounds_toArray, List.set_cons_zero, List.set_cons_succ]
        refine wpHB_ready (rs := [9]) (by kernel_rfl) (by simp) ?_
        refine AllHB.cons (by kernel_rfl) (o := ⟨none, _, _, _, _, _⟩) rfl (fun K hK => ?_) AllHB.nil
        rw [if_pos (by rfl)]
        refine wp_store_all 27 _ _ rfl _ 27 [] coZ.toList [] (coA C2 ma).toList rfl rfl (gp.then_ (by (repeat (first | with_reducible exact Below.refl _ _ | with_reducible assumption | with_reducible refine below_then ?_ (by with_reducible assumption))))) rfl (by kernel_rfl) (by simp [Value.oneCell']) ?_
        intro w8 g8 U8
        refine hK.out _ _ (Lib.hid (hHeld.out.trans (U8.b _ lla))) (fun hHeld2 => ?_)
        clear hK K hHeld
        have hHeld := hHeld2
        clear hHeld2
        try simp only [Act.put]
        refine wpHB_tail (by kernel_rfl) (by kernel_rfl) ?_
        clear hdir hsel hpan
        simp only [opsAt, List.getElem?_toArray, List.getElem?_cons_succ, List.getElem?_cons_zero, Option.toList_some, List.cons_append, List.nil_append]
        go_wp2
        go_meet
        case rel => exact ⟨rfl, hHeld.out⟩
      exact AllHB.nil
    obtain ⟨rfl, hbn⟩ := hcut
    obtain ⟨WU, rfl⟩ : ∃ W, W = wc := ⟨_, rfl⟩
    have HHWU := Lib.hid (below_then HHWT.out hbn)
    clear hbn
    go_upto_region 7 with (fail)
    go_cut [14] from 74 to 83 (fun v W => v = .int .i64 G ∧ Below WU.heap.size WU W)
    case first =>
      refine wp_region_hb (fun w' => Hid (Below WU.heap.size WU w')) [0, 1, 2, 3, 4, 5, 6, 7, 8, 9, 10, 11, 12] [13] (by kernel_rfl) (by kernel_rfl) (by repeat (first | with_reducible refine panOk_then ?_ | with_reducible refine panOk_block ?_ | exact panOk_body)) (Lib.hid (Below.drew (Below.refl _ _))) (fun hdir hsel hpan hHeld => ?_)
      refine wpHB_take (i := 0) (oi := ⟨some 75, _, _, _, _, _⟩) hdir hsel hpan rfl (by kernel_rfl) (by kernel_rfl) (by kernel_rfl) (yieldsIf_row (by rfl) 27 _ rfl bc rfl 27 _ (fun w hw => (GBS.out.then_ (below_then HHWU.out hw.out))) ⟨_, Try.underlying27⟩ (by kernel_rfl)) (by assumption) ?_
      try simp only [Act.put, List.setIfInBounds_toArray, List.set_cons_zero, List.set_cons_succ]
      refine wpHB_take (i := 1) (oi := ⟨some 76, _, _, _, _, _⟩) hdir hsel hpan rfl (by kernel_rfl) (by kernel_rfl) (by kernel_rfl) (Or.inl ⟨by rfl, fun _ _ => by rfl⟩) (by assumption) ?_
      try simp only [Act.put, List.setIfInBounds_toArray, List.set_cons_zero, List.set_cons_succ]
      refine wpHB_take (i := 2) (oi := ⟨some 77, _, _, _, _, _⟩) (v := .slice A1 1 k1) hdir hsel hpan rfl (by kernel_rfl) (by kernel_rfl) (by kernel_rfl) (Or.inl ⟨by rfl, fun w hw => by have h := hs1 w; go_simp⟩) (by assumption) ?_
      try simp only [Act.put, List.setIfInBounds_toArray, List.set_cons_zero, List.set_cons_succ]
      refine wpHB_take (i := 3) (oi := ⟨some 78, _, _, _, _, _⟩) hdir hsel hpan rfl (by kernel_rfl) (by kernel_rfl) (by kernel_rfl) (Or.inl ⟨by rfl, fun _ _ => by rfl⟩) (by assumption) ?_
      try simp only [Act.put, List.setIfInBounds_toArray, List.set_cons_zero, List.set_cons_succ]
      refine wpHB_take (i := 4) (oi := ⟨some 79, _, _, _, _, _⟩) (v := .slice A2 1 k2) hdir hsel hpan rfl (by kernel_rfl) (by kernel_rfl) (by kernel_rfl) (Or.inl ⟨by rfl, fun w hw => by have h := hs2 w; go_simp⟩) (by assumption) ?_
      try simp only [Act.put, List.setIfInBounds_toArray, List.set_cons_zero, List.set_cons_succ]
      refine wpHB_ready (rs := [5, 10]) (by kernel_rfl) (by simp) ?_
      refine AllHB.cons (by kernel_rfl) (o := ⟨some 80, _, _, _, _, _⟩) rfl (fun K hK => ?_) ?_
      · go_simp
        (go_at_call 13; (with_reducible refine (HX3.out _ (below_then HHWU.out hHeld.out)).mono ?_); rintro e wa ⟨⟨Ax, kx, Mx, rfl, hma⟩, hbwa⟩)
        refine hK.out _ _ (Lib.hid (below_then hHeld.out hbwa)) (fun hHeld2 => ?_)
        clear hK K hHeld
        have hHeld := hHeld2
        clear hHeld2
        try simp only [Act.put, List.setIfInBounds_toArray, List.set_cons_zero, List.set_cons_succ]
        refine wpHB_take (i := 6) (oi := ⟨some 74, _, _, _, _, _⟩) hdir hsel hpan rfl (by kernel_rfl) (by kernel_rfl) (by kernel_rfl) (Or.inl ⟨by rfl, fun _ _ => by rfl⟩) (by assumption) ?_
        try simp only [Act.put, List.setIfInBounds_toArray, List.set_cons_zero, List.set_cons_succ]
        refine wpHB_take (i := 7) (oi := ⟨some 81, _, _, _, _, _⟩) hdir hsel hpan rfl (by kernel_rfl) (by kernel_rfl) (by kernel_rfl) (Or.inl ⟨by rfl, fun _ _ => by rfl⟩) (by assumption) ?_
        try simp only [Act.put, List.setIfInBounds_toArray, List.set_cons_zero, List.set_cons_succ]
        refine wpHB_take (i := 8) (oi := ⟨some 82, _, _, _, _, _⟩) hdir hsel hpan rfl (by kernel_rfl) (by kernel_rfl) (by kernel_rfl) (Or.inl ⟨by rfl, fun _ _ => by rfl⟩) (by assumption) ?_
        try simp only [Act.put, List.setIfInBounds_toArray, List.set_cons_zero, List.set_cons_succ]
        refine wpHB_take (i := 9) (oi := ⟨some 83, _, _, _, _, _⟩) hdir hsel hpan rfl (by kernel_rfl) (by kernel_rfl) (by kernel_rfl) (Or.inl ⟨by rfl, fun _ _ => by rfl⟩) (by assumption) ?_
        try simp only [Act.put, List.setIfInBounds_toArray, List.set_cons_zero, List.set_cons_succ]
        refine wpHB_ready (rs := [10]) (by kernel_rfl) (by simp) ?_
        refine AllHB.cons (by kernel_rfl) (o := ⟨some 13, _, _, _, _, _⟩) rfl (fun K hK => ?_) AllHB.nil
        go_simp
        have lla := hHeld.out.size
        refine name_k ?_
        intro Vp hVp
        obtain ⟨gp, hbp⟩ : _ ∧ _ := (by first | exact pair_new hVp | exact pair_new (W := WU.drew) hVp)
        clear hVp
        refine hK.out _ _ (Lib.hid (below_then hHeld.out hbp)) (fun hHeld2 => ?_)
        clear hK K hHeld
        have hHeld := hHeld2
        clear hHeld2
        try simp only [Act.put, List.setIfInBounds_toArray, List.set_cons_zero, List.set_cons_succ]
        refine wpHB_take (i := 11) (oi := ⟨some 12, _, _, _, _, _⟩) hdir hsel hpan rfl (by kernel_rfl) (by kernel_rfl) (by kernel_rfl) (Or.inl ⟨by rfl, fun _ _ => by rfl⟩) (by assumption) ?_
        try simp only [Act.put, List.setIfInBounds_toArray, List.set_cons_zero, List.set_cons_succ]
        refine wpHB_ready (rs := [12]) (by kernel_rfl) (by simp) ?_
        refine AllHB.cons (by kernel_rfl) (o := ⟨none, _, _, _, _, _⟩) rfl (fun K hK => ?_) AllHB.nil
        rw [if_pos (by rfl)]
        refine wp_store_all 36 _ _ rfl _ 36 [] (pairA 0 0).toList [] (pairA g1 g2).toList rfl rfl (gp.then_ (by (repeat (first | with_reducible exact Below.refl _ _ | with_reducible assumption | with_reducible refine below_then ?_ (by with_reducible assumption))))) rfl (by kernel_rfl) (by simp [Value.oneCell']) ?_
        intro w8 g8 U8
        refine hK.out _ _ (Lib.hid (hHeld.out.trans (U8.b _ lla))) (fun hHeld2 => ?_)
        clear hK K hHeld
        have hHeld := hHeld2
        clear hHeld2
        try simp only [Act.put]
        refine wpHB_tail (by kernel_rfl) (by kernel_rfl) ?_
        clear hdir hsel hpan
        simp only [opsAt, List.getElem?_toArray, List.getElem?_cons_succ, List.getElem?_cons_zero, Option.toList_some, List.cons_append, List.nil_append]
        go_wp2
        go_meet
        case rel => exact ⟨rfl, hHeld.out⟩
      refine AllHB.cons (by kernel_rfl) (o := ⟨some 13, _, _, _, _, _⟩) rfl (fun K hK => ?_) ?_
      · go_simp
        have lla := hHeld.out.size
        refine name_k ?_
        intro Vp hVp
        obtain ⟨gp, hbp⟩ : _ ∧ _ := (by first | exact pair_new hVp | exact pair_new (W := WU.drew) hVp)
        clear hVp
        refine hK.out _ _ (Lib.hid (below_then hHeld.out hbp)) (fun hHeld2 => ?_)
        clear hK K hHeld
        have hHeld := hHeld2
        clear hHeld2
        try simp only [Act.put, List.setIfInBounds_toArray, List.set_cons_zero, List.set_cons_succ]
        refine wpHB_ready (rs := [5]) (by kernel_rfl) (by simp) ?_
        refine AllHB.cons (by kernel_rfl) (o := ⟨some 80, _, _, _, _, _⟩) rfl (fun K hK => ?_) AllHB.nil
        go_simp
        (go_at_call 13; (with_reducible refine (HX3.out _ (below_then HHWU.out hHeld.out)).mono ?_); rintro e wa ⟨⟨Ax, kx, Mx, rfl, hma⟩, hbwa⟩)
        refine hK.out _ _ (Lib.hid (below_then hHeld.out hbwa)) (fun hHeld2 => ?_)
        clear hK K hHeld
        have hHeld := hHeld2
        clear hHeld2
        try simp only [Act.put, List.setIfInBounds_toArray, List.set_cons_zero, List.set_cons_succ]
        refine wpHB_take (i := 6) (oi := ⟨some 74, _, _, _, _, _⟩) hdir hsel hpan rfl (by kernel_rfl) (by kernel_rfl) (by kernel_rfl) (Or.inl ⟨by rfl, fun _ _ => by rfl⟩) (by assumption) ?_
        try simp only [Act.put, List.setIfInBounds_toArray, List.set_cons_zero, List.set_cons_succ]
        refine wpHB_take (i := 7) (oi := ⟨some 81, _, _, _, _, _⟩) hdir hsel hpan rfl (by kernel_rfl) (by kernel_rfl) (by kernel_rfl) (Or.inl ⟨by rfl, fun _ _ => by rfl⟩) (by assumption) ?_
        try simp only [Act.put, List.setIfInBounds_toArray, List.set_cons_zero, List.set_cons_succ]
        refine wpHB_take (i := 8) (oi := ⟨some 82, _, _, _, _, _⟩) hdir hsel hpan rfl (by kernel_rfl) (by kernel_rfl) (by kernel_rfl) (Or.inl ⟨by rfl, fun _ _ => by rfl⟩) (by assumption) ?_
        try simp only [Act.put, List.setIfInBounds_toArray, List.set_cons_zero, List.set_cons_succ]
        refine wpHB_take (i := 9) (oi := ⟨some 83, _, _, _, _, _⟩) hdir hsel hpan rfl (by kernel_rfl) (by kernel_rfl) (by kernel_rfl) (Or.inl ⟨by rfl, fun _ _ => by rfl⟩) (by assumption) ?_
        try simp only [Act.put, List.setIfInBounds_toArray, List.set_cons_zero, List.set_cons_succ]
        refine wpHB_take (i := 11) (oi := ⟨some 12, _, _, _, _, _⟩) hdir hsel hpan rfl (by kernel_rfl) (by kernel_rfl) (by kernel_rfl) (Or.inl ⟨by rfl, fun _ _ => by rfl⟩) (by assumption) ?_
        try simp only [Act.put, List.setIfInBounds_toArray, List.set_cons_zero, List.set_cons_succ]
        refine wpHB_ready (rs := [12]) (by kernel_rfl) (by simp) ?_
        refine AllHB.cons (by kernel_rfl) (o := ⟨none, _, _, _, _, _⟩) rfl (fun K hK => ?_) AllHB.nil
        rw [if_pos (by rfl)]
        refine wp_store_all 36 _ _ rfl _ 36 [] (pairA 0 0).toList [] (pairA g1 g2).toList rfl rfl (gp.then_ (by (repeat (first | with_reducible exact Below.refl _ _ | with_reducible assumption | with_reducible refine below_then ?_ (by with_reducible assumption))))) rfl (by kernel_rfl) (by simp [Value.oneCell']) ?_
        intro w8 g8 U8
        refine hK.out _ _ (Lib.hid (hHeld.out.trans (U8.b _ lla))) (fun hHeld2 => ?_)
        clear hK K hHeld
        have hHeld := hHeld2
        clear hHeld2
        try simp only [Act.put]
        refine wpHB_tail (by kernel_rfl) (by kernel_rfl) ?_
        clear hdir hsel hpan
        simp only [opsAt, List.getElem?_toArray, List.getElem?_cons_succ, List.getElem?_cons_zero, Option.toList_some, List.cons_append, List.nil_append]
        go_wp2
        go_meet
        case rel => exact ⟨rfl, hHeld.out⟩
      exact AllHB.nil
    obtain ⟨rfl, hbn⟩ := hcut
    obtain ⟨WV, rfl⟩ : ∃ W, W = wc := ⟨_, rfl⟩
    have HHWV := Lib.hid (below_then HHWU.out hbn)
    clear hbn
    go_upto_region 8 with (fail)
    go_cut [15] from 84 to 91 (fun v W => v = .bool S ∧ Below WV.heap.size WV W)
    case first =>
      refine wp_region_hb (fun w' => Hid (Below WV.heap.size WV w')) [0, 1, 2, 3, 4, 5, 6, 7] [8] (by kernel_rfl) (by kernel_rfl) (by repeat (first | with_reducible refine panOk_then ?_ | with_reducible refine panOk_block ?_ | exact panOk_body)) (Lib.hid (Below.drew (Below.refl _ _))) (fun hdir hsel hpan hHeld => ?_)
      refine wpHB_take (i := 0) (oi := ⟨some 84, _, _, _, _, _⟩) hdir hsel hpan rfl (by kernel_rfl) (by kernel_rfl) (by kernel_rfl) (yieldsIf_row (by rfl) 27 _ rfl bc rfl 27 _ (fun w hw => (GBS.out.then_ (below_then HHWV.out hw.out))) ⟨_, Try.underlying27⟩ (by kernel_rfl)) (by assumption) ?_
      try simp only [Act.put, List.setIfInBounds_toArray, List.set_cons_zero, List.set_cons_succ]
      refine wpHB_take (i := 1) (oi := ⟨some 85, _, _, _, _, _⟩) hdir hsel hpan rfl (by kernel_rfl) (by kernel_rfl) (by kernel_rfl) (Or.inl ⟨by rfl, fun _ _ => by rfl⟩) (by assumption) ?_
      try simp only [Act.put, List.setIfInBounds_toArray, List.set_cons_zero, List.set_cons_succ]
      refine wpHB_take (i := 2) (oi := ⟨some 86, _, _, _, _, _⟩) (v := .pointer (some ⟨b1, o1, none⟩)) hdir hsel hpan rfl (by kernel_rfl) (by kernel_rfl) (by kernel_rfl) (Or.inl ⟨by rfl, fun w hw => by have h := hib1 w; go_simp⟩) (by assumption) ?_
      try simp only [Act.put, List.setIfInBounds_toArray, List.set_cons_zero, List.set_cons_succ]
      refine wpHB_take (i := 3) (oi := ⟨some 87, _, _, _, _, _⟩) hdir hsel hpan rfl (by kernel_rfl) (by kernel_rfl) (by kernel_rfl) (yieldsIf_load_mid (by rfl) 49 _ rfl b1 _ rfl (eP x) _ (fun w hw => (fun j v hv => ((below_then HHWV.out hw.out).cell (p := ⟨b1, _, none⟩) lb1).trans (rb1.out j v hv))) Try.underlying49 rfl (by kernel_rfl)) (by assumption) ?_
      try simp only [Act.put, List.setIfInBounds_toArray, List.set_cons_zero, List.set_cons_succ]
      refine wpHB_take (i := 4) (oi := ⟨some 88, _, _, _, _, _⟩) hdir hsel hpan rfl (by kernel_rfl) (by kernel_rfl) (by kernel_rfl) (Or.inl ⟨by rfl, fun _ _ => by rfl⟩) (by assumption) ?_
      try simp only [Act.put, List.setIfInBounds_toArray, List.set_cons_zero, List.set_cons_succ]
      refine wpHB_take (i := 5) (oi := ⟨some 89, _, _, _, _, _⟩) (v := .pointer (some ⟨b2, o2, none⟩)) hdir hsel hpan rfl (by kernel_rfl) (by kernel_rfl) (by kernel_rfl) (Or.inl ⟨by rfl, fun w hw => by have h := hib2 w; go_simp⟩) (by assumption) ?_
      try simp only [Act.put, List.setIfInBounds_toArray, List.set_cons_zero, List.set_cons_succ]
      refine wpHB_take (i := 6) (oi := ⟨some 90, _, _, _, _, _⟩) hdir hsel hpan rfl (by kernel_rfl) (by kernel_rfl) (by kernel_rfl) (yieldsIf_load_mid (by rfl) 49 _ rfl b2 _ rfl (eP y) _ (fun w hw => (fun j v hv => ((below_then HHWV.out hw.out).cell (p := ⟨b2, _, none⟩) lb2).trans (rb2.out j v hv))) Try.underlying49 rfl (by kernel_rfl)) (by assumption) ?_
      try simp only [Act.put, List.setIfInBounds_toArray, List.set_cons_zero, List.set_cons_succ]
      refine wpHB_ready (rs := [7]) (by kernel_rfl) (by simp) ?_
      refine AllHB.cons (by kernel_rfl) (o := ⟨some 91, _, _, _, _, _⟩) rfl (fun K hK => ?_) AllHB.nil
      go_simp
      (go_at_call 18; (with_reducible refine (HX4.out _ (below_then HHWV.out hHeld.out)).mono ?_); rintro e wa ⟨rfl, hbwa⟩)
      refine hK.out _ _ (Lib.hid (below_then hHeld.out hbwa)) (fun hHeld2 => ?_)
      clear hK K hHeld
      have hHeld := hHeld2
      clear hHeld2
      try simp only [Act.put, List.setIfInBounds_toArray, List.set_cons_zero, List.set_cons_succ]
      refine wpHB_tail (by kernel_rfl) (by kernel_rfl) ?_
      clear hdir hsel hpan
      simp only [opsAt, List.getElem?_toArray, List.getElem?_cons_succ, List.getElem?_cons_zero, Option.toList_some, List.cons_append, List.nil_append]
      go_wp2
      go_meet
      case rel => exact ⟨rfl, hHeld.out⟩
    obtain ⟨rfl, hbn⟩ := hcut
    obtain ⟨WW, rfl⟩ : ∃ W, W = wc := ⟨_, rfl⟩
    have HHWW := Lib.hid (below_then HHWV.out hbn)
    clear hbn
    clear HX1 HX2 HX3 HX4 hib1 hib2 hs1 hs2 rb1 rb2 GBS HP1 HP2 HCW
    rcases HONE.out with ⟨a1, a2, a3, a4⟩ | ⟨a1, a2, a3, a4⟩ | ⟨a1, a3, a4⟩ | ⟨a1, a2, a3, a4⟩
    · simp only at a3
      subst a1 a2 a3 a4
      clear HONE
      (go_wp2; go_meet; (case rel => exact HHWW.out))
    · simp only at a3
      have z1 : (G == 0) = false := by rw [beq_eq_false_iff_ne]; exact a3
      subst a1 a2 a4
      clear HONE a3
      (go_wp2; go_meet; (case rel => exact HHWW.out))
    · simp only at a3
      subst a3 a4
      have z1 : (G == 0) = false := by rw [beq_eq_false_iff_ne]; exact a1
      have z2 : (G != 0) = true := by rw [bne_iff_ne]; exact a1
      have z3 : (G != G) = false := by simp
      clear HONE a1
      (go_wp2; go_meet; (case rel => exact HHWW.out))
    · simp only at a3
      subst a1 a3 a4
      have z1 : (G == 0) = false := by rw [beq_eq_false_iff_ne]; exact a2
      have z2 : (G != 0) = true := by rw [bne_iff_ne]; exact a2
      have z3 : (G != G) = false := by simp
      clear HONE a2
      (go_wp2; go_meet; (case rel => exact HHWW.out))
  have hbW := hcut
  clear hcut
  obtain ⟨WT, rfl⟩ : ∃ W, W = wc := ⟨_, rfl⟩
  have HBT := Lib.hid (below_then HBS.out hbW)
  have GBT := Lib.hid (GBS.out.then_ hbW)
  clear hbW GBS HBS HBB
  by_cases h16 : E = 16
  · have HB30 := HBT.out
    have gbt := GBT.out
    obtain ⟨⟨E', i, j⟩, eM⟩ : ∃ M, c.mrE (pats L1) (pats L2) = M := ⟨_, rfl⟩
    have hE' : E' = 16 := by rw [← h16, ← HE.out, eM]
    subst hE'
    obtain ⟨li, lj, m1, m2, m3⟩ := HM12.out (by rw [eM])
    rw [eM] at li lj m1 m2 m3
    simp only [List.length_map] at li lj m1 m2 m3
    have HM := Lib.hid (fun W (hb : Below w.heap.size w W) => mrg_to c m L1 L2 A1 A2 L1.length L2.length k1 k2 W 16 i j [] (HCW.out.then_ hb) (HP1.out.then_ hb) (HP2.out.then_ hb) rfl rfl hk1 (by rw [eM]; rfl) (by omega) (if_neg (by decide)))
    have p1 := mr_pair (show (c.mrE ((pats L1).take i) (pats L2)).1 ≠ 16 by omega)
    have p2 := mr_pair (show (c.mrE ((pats L1).take (i + 1)) ((pats L2).take j)).1 ≠ 16 by omega)
    rw [m1] at p1
    rw [m2] at p2
    have ti : (L1.take i).length = i := by rw [List.length_take]; omega
    have ti1 : (L1.take (i + 1)).length = i + 1 := by rw [List.length_take]; omega
    have tj : (L2.take j).length = j := by rw [List.length_take]; omega
    have tj1 : (L2.take (j + 1)).length = j + 1 := by rw [List.length_take]; omega
    have tall : L2.take L2.length = L2 := List.take_length
    have tallp : (pats L2).take L2.length = pats L2 := by rw [show L2.length = (pats L2).length from by rw [List.length_map]]; exact List.take_length
    have HY1 := Lib.hid (fun W (hb : Below w.heap.size w W) => mrg_tk c m L1 L2 A1 A2 i L2.length i L2.length k1 k2 W 0 0 0 (HCW.out.then_ hb) (HP1.out.then_ hb) (HP2.out.then_ hb) ti (by rw [tall]) (by omega) (by rw [tallp]; exact p1))
    have HY2 := Lib.hid (fun W (hb : Below w.heap.size w W) => mrg_tk c m L1 L2 A1 A2 (i + 1) j (i + 1) j k1 k2 W 0 0 0 (HCW.out.then_ hb) (HP1.out.then_ hb) (HP2.out.then_ hb) ti1 tj (by omega) p2)
    have HY3 := Lib.hid (fun W (hb : Below w.heap.size w W) => mrg_tk c m L1 L2 A1 A2 (i + 1) (j + 1) (i + 1) (j + 1) k1 k2 W 16 i j (HCW.out.then_ hb) (HP1.out.then_ hb) (HP2.out.then_ hb) ti1 tj1 (by omega) m3)
    have hq1 := fun W => take_at (t := 28) (A := A1) (len := L1.length) (size := 19) (i := i) (cap := k1) (by omega) (by kernel_rfl) (fun W => by kernel_rfl) W
    have hq2 : ∀ W : World, (Instr.slice 28 (.slice A1 L1.length k1) none (some (.int .i64 ((i : Int) + 1))) none).run Try.prog W = .ok (.slice A1 (i + 1) k1) W := fun W => take_at (t := 28) (A := A1) (len := L1.length) (size := 19) (i := i + 1) (cap := k1) (by omega) (by kernel_rfl) (fun W => by kernel_rfl) W
    have hq3 := fun W => take_at (t := 28) (A := A2) (len := L2.length) (size := 19) (i := j) (cap := k2) (by omega) (by kernel_rfl) (fun W => by kernel_rfl) W
    have hq4 : ∀ W : World, (Instr.slice 28 (.slice A2 L2.length k2) none (some (.int .i64 ((j : Int) + 1))) none).run Try.prog W = .ok (.slice A2 (j + 1) k2) W := fun W => take_at (t := 28) (A := A2) (len := L2.length) (size := 19) (i := j + 1) (cap := k2) (by omega) (by kernel_rfl) (fun W => by kernel_rfl) W
    have hwi := wrap_small (n := i) (by omega)
    have hwj := wrap_small (n := j) (by omega)
    have HN := Lib.hid (show i < L1.length ∧ j < L2.length from ⟨li, lj⟩)
    clear m1 m2 m3 p1 p2 ti ti1 tj tj1 tall tallp eM HM12 HMP HE h16 hn
    go_upto_region 12 with (first | (refine wpList_row_w (by rfl) 27 _ rfl bc rfl 27 _ gbt ⟨_, Try.underlying27⟩ (by kernel_rfl) ?_; simp only [Act.put, List.setIfInBounds_toArray, List.set_cons_succ, List.set_cons_zero]) | (go_at_call 13; (with_reducible refine (HM.out _ HB30).mono ?_); rintro e w6 ⟨⟨Ax, kx, Mx, rfl, ex, hx0, lx⟩, hbw6⟩) | (refine wpList_store_all rfl 36 _ _ rfl w6.heap.size 36 [] (pairA 0 0).toList [] (pairA i j).toList rfl rfl (Blk.new _ _ _) rfl (by kernel_rfl) (by simp [Value.oneCell']) ?_; intro WX gbWX UWX))
    have hsWX : Below w6.heap.size w6 WX := (wa1 _ _).trans (UWX.b _ (Nat.le_refl _))
    have HH31 := below_then hbw6 hsWX
    have HB31 := below_then HB30 HH31
    have gbc_31 := gbt.then_ HH31
    clear gbt HB30 HH31
    have hx := hx0.then_ hsWX
    replace ex := Lib.hid ex
    obtain ⟨bWX, ebWX⟩ : ∃ b, w6.heap.size = b := ⟨_, rfl⟩
    rw [ebWX] at gbWX ⊢
    clear ebWX UWX hsWX hx0
    have HBX := Lib.hid HB31
    have GBX := Lib.hid gbc_31
    have gpx := gbWX
    clear HB31 gbc_31 hx
    have c0 : WX.cell? ⟨bWX, 0, none⟩ = some (.int .i64 i) := gpx.cell 0
    have c1 : WX.cell? ⟨bWX, 1, none⟩ = some (.int .i64 j) := gpx.cell 1
    have d1 : decide ((i : Int) < 0) = false := decide_eq_false (by omega)
    have d2 : decide ((L1.length : Int) ≤ (i : Int)) = false := decide_eq_false (by omega)
    have d2n : decide (L1.length ≤ i) = false := decide_eq_false (by omega)
    have d4n : decide (L2.length ≤ j) = false := decide_eq_false (by omega)
    have d3 : decide ((j : Int) < 0) = false := decide_eq_false (by omega)
    have d4 : decide ((L2.length : Int) ≤ (j : Int)) = false := decide_eq_false (by omega)
    have GPX := Lib.hid gpx
    clear gpx
    go_upto_region 18 with (fail)
    clear c0 c1 d1 d2 d3 d4 d2n d4n
    skip
    go_cut [22, 23] from 163 to 172 (fun x v W => ∃ q, x = .pointer (some ⟨q, 0, none⟩) ∧ v = .int .i64 0 ∧ Blk W q 36 (pairA 0 0) ∧ Below WX.heap.size WX W)
    case first =>
      refine wp_region_hb (fun w' => Hid (Below WX.heap.size WX w')) [0, 1, 2, 3, 4, 5, 6, 7, 8, 9, 10, 11, 12] [13] (by kernel_rfl) (by kernel_rfl) (by repeat (first | with_reducible refine panOk_then ?_ | with_reducible refine panOk_block ?_ | exact panOk_body)) (Lib.hid (Below.drew (Below.refl _ _))) (fun hdir hsel hpan hHeld => ?_)
      refine wpHB_take (i := 0) (oi := ⟨some 164, _, _, _, _, _⟩) hdir hsel hpan rfl (by kernel_rfl) (by kernel_rfl) (by kernel_rfl) (yieldsIf_row (by rfl) 27 _ rfl bc rfl 27 _ (fun w hw => (GBX.out.then_ hw.out)) ⟨_, Try.underlying27⟩ (by kernel_rfl)) (by assumption) ?_
      try simp only [Act.put, List.setIfInBounds_toArray, List.set_cons_zero, List.set_cons_succ]
      refine wpHB_take (i := 1) (oi := ⟨some 165, _, _, _, _, _⟩) hdir hsel hpan rfl (by kernel_rfl) (by kernel_rfl) (by kernel_rfl) (Or.inl ⟨by rfl, fun _ _ => by rfl⟩) (by assumption) ?_
      try simp only [Act.put, List.setIfInBounds_toArray, List.set_cons_zero, List.set_cons_succ]
      refine wpHB_take (i := 2) (oi := ⟨some 166, _, _, _, _, _⟩) hdir hsel hpan rfl (by kernel_rfl) (by kernel_rfl) (by kernel_rfl) (Or.inl ⟨by rfl, fun _ _ => by rfl⟩) (by assumption) ?_
      try simp only [Act.put, List.setIfInBounds_toArray, List.set_cons_zero, List.set_cons_succ]
      refine wpHB_take (i := 3) (oi := ⟨some 167, _, _, _, _, _⟩) (v := .slice A1 i k1) hdir hsel hpan rfl (by kernel_rfl) (by kernel_rfl) (by kernel_rfl) (Or.inl ⟨by rfl, fun w hw => by have h := hq1 w; go_simp⟩) (by assumption) ?_
      try simp only [Act.put, List.setIfInBounds_toArray, List.set_cons_zero, List.set_cons_succ]
      refine wpHB_take (i := 4) (oi := ⟨some 168, _, _, _, _, _⟩) hdir hsel hpan rfl (by kernel_rfl) (by kernel_rfl) (by kernel_rfl) (Or.inl ⟨by rfl, fun _ _ => by rfl⟩) (by assumption) ?_
      try simp only [Act.put, List.setIfInBounds_toArray, List.set_cons_zero, List.set_cons_succ]
      refine wpHB_ready (rs := [5, 10]) (by kernel_rfl) (by simp) ?_
      refine AllHB.cons (by kernel_rfl) (o := ⟨some 169, _, _, _, _, _⟩) rfl (fun K hK => ?_) ?_
      · go_simp
        (go_at_call 13; (with_reducible refine (HY1.out _ (below_then HBX.out hHeld.out)).mono ?_); rintro e wa ⟨⟨Ay, ky, My, rfl, hma⟩, hbwa⟩)
        refine hK.out _ _ (Lib.hid (below_then hHeld.out hbwa)) (fun hHeld2 => ?_)
        clear hK K hHeld
        have hHeld := hHeld2
        clear hHeld2
        try simp only [Act.put, List.setIfInBounds_toArray, List.set_cons_zero, List.set_cons_succ]
        refine wpHB_take (i := 6) (oi := ⟨some 163, _, _, _, _, _⟩) hdir hsel hpan rfl (by kernel_rfl) (by kernel_rfl) (by kernel_rfl) (Or.inl ⟨by rfl, fun _ _ => by rfl⟩) (by assumption) ?_
        try simp only [Act.put, List.setIfInBounds_toArray, List.set_cons_zero, List.set_cons_succ]
        refine wpHB_take (i := 7) (oi := ⟨some 170, _, _, _, _, _⟩) hdir hsel hpan rfl (by kernel_rfl) (by kernel_rfl) (by kernel_rfl) (Or.inl ⟨by rfl, fun _ _ => by rfl⟩) (by assumption) ?_
        try simp only [Act.put, List.setIfInBounds_toArray, List.set_cons_zero, List.set_cons_succ]
        refine wpHB_take (i := 8) (oi := ⟨some 171, _, _, _, _, _⟩) hdir hsel hpan rfl (by kernel_rfl) (by kernel_rfl) (by kernel_rfl) (Or.inl ⟨by rfl, fun _ _ => by rfl⟩) (by assumption) ?_
        try simp only [Act.put, List.setIfInBounds_toArray, List.set_cons_zero, List.set_cons_succ]
        refine wpHB_take (i := 9) (oi := ⟨some 172, _, _, _, _, _⟩) hdir hsel hpan rfl (by kernel_rfl) (by kernel_rfl) (by kernel_rfl) (Or.inl ⟨by rfl, fun _ _ => by rfl⟩) (by assumption) ?_
        try simp only [Act.put, List.setIfInBounds_toArray, List.set_cons_zero, List.set_cons_succ]
        refine wpHB_ready (rs := [10]) (by kernel_rfl) (by simp) ?_
        refine AllHB.cons (by kernel_rfl) (o := ⟨some 22, _, _, _, _, _⟩) rfl (fun K hK => ?_) AllHB.nil
        go_simp
        have lla := hHeld.out.size
        refine name_k ?_
        intro Vp hVp
        obtain ⟨gp, hbp⟩ : _ ∧ _ := (by first | exact pair_new hVp | exact pair_new (W := WX.drew) hVp)
        clear hVp
        refine hK.out _ _ (Lib.hid (below_then hHeld.out hbp)) (fun hHeld2 => ?_)
        clear hK K hHeld
        have hHeld := hHeld2
        clear hHeld2
        try simp only [Act.put, List.setIfInBounds_toArray, List.set_cons_zero, List.set_cons_succ]
        refine wpHB_take (i := 11) (oi := ⟨some 21, _, _, _, _, _⟩) hdir hsel hpan rfl (by kernel_rfl) (by kernel_rfl) (by kernel_rfl) (Or.inl ⟨by rfl, fun _ _ => by rfl⟩) (by assumption) ?_
        try simp only [Act.put, List.setIfInBounds_toArray, List.set_cons_zero, List.set_cons_succ]
        refine wpHB_ready (rs := [12]) (by kernel_rfl) (by simp) ?_
        refine AllHB.cons (by kernel_rfl) (o := ⟨none, _, _, _, _, _⟩) rfl (fun K hK => ?_) AllHB.nil
        rw [if_pos (by rfl)]
        refine wp_store_all 36 _ _ rfl _ 36 [] (pairA 0 0).toList [] (pairA 0 0).toList rfl rfl (gp.then_ (by (repeat (first | with_reducible exact Below.refl _ _ | with_reducible assumption | with_reducible refine below_then ?_ (by with_reducible assumption))))) rfl (by kernel_rfl) (by simp [Value.oneCell']) ?_
        intro w8 g8 U8
        refine hK.out _ _ (Lib.hid (hHeld.out.trans (U8.b _ lla))) (fun hHeld2 => ?_)
        clear hK K hHeld
        have hHeld := hHeld2
        clear hHeld2
        try simp only [Act.put]
        refine wpHB_tail (by kernel_rfl) (by kernel_rfl) ?_
        clear hdir hsel hpan
        simp only [opsAt, List.getElem?_toArray, List.getElem?_cons_succ, List.getElem?_cons_zero, Option.toList_some, List.cons_append, List.nil_append]
        go_wp2
        go_meet
        case rel => exact ⟨_, rfl, rfl, g8, hHeld.out⟩
      refine AllHB.cons (by kernel_rfl) (o := ⟨some 22, _, _, _, _, _⟩) rfl (fun K hK => ?_) ?_
      · go_simp
        have lla := hHeld.out.size
        refine name_k ?_
        intro Vp hVp
        obtain ⟨gp, hbp⟩ : _ ∧ _ := (by first | exact pair_new hVp | exact pair_new (W := WX.drew) hVp)
        clear hVp
        refine hK.out _ _ (Lib.hid (below_then hHeld.out hbp)) (fun hHeld2 => ?_)
        clear hK K hHeld
        have hHeld := hHeld2
        clear hHeld2
        try simp only [Act.put, List.setIfInBounds_toArray, List.set_cons_zero, List.set_cons_succ]
        refine wpHB_ready (rs := [5]) (by kernel_rfl) (by simp) ?_
        refine AllHB.cons (by kernel_rfl) (o := ⟨some 169, _, _, _, _, _⟩) rfl (fun K hK => ?_) AllHB.nil
        go_simp
        (go_at_call 13; (with_reducible refine (HY1.out _ (below_then HBX.out hHeld.out)).mono ?_); rintro e wa ⟨⟨Ay, ky, My, rfl, hma⟩, hbwa⟩)
        refine hK.out _ _ (Lib.hid (below_then hHeld.out hbwa)) (fun hHeld2 => ?_)
        clear hK K hHeld
        have hHeld := hHeld2
        clear hHeld2
        try simp only [Act.put, List.setIfInBounds_toArray, List.set_cons_zero, List.set_cons_succ]
        refine wpHB_take (i := 6) (oi := ⟨some 163, _, _, _, _, _⟩) hdir hsel hpan rfl (by kernel_rfl) (by kernel_rfl) (by kernel_rfl) (Or.inl ⟨by rfl, fun _ _ => by rfl⟩) (by assumption) ?_
        try simp only [Act.put, List.setIfInBounds_toArray, List.set_cons_zero, List.set_cons_succ]
        refine wpHB_take (i := 7) (oi := ⟨some 170, _, _, _, _, _⟩) hdir hsel hpan rfl (by kernel_rfl) (by kernel_rfl) (by kernel_rfl) (Or.inl ⟨by rfl, fun _ _ => by rfl⟩) (by assumption) ?_
        try simp only [Act.put, List.setIfInBounds_toArray, List.set_cons_zero, List.set_cons_succ]
        refine wpHB_take (i := 8) (oi := ⟨some 171, _, _, _, _, _⟩) hdir hsel hpan rfl (by kernel_rfl) (by kernel_rfl) (by kernel_rfl) (Or.inl ⟨by rfl, fun _ _ => by rfl⟩) (by assumption) ?_
        try simp only [Act.put, List.setIfInBounds_toArray, List.set_cons_zero, List.set_cons_succ]
        refine wpHB_take (i := 9) (oi := ⟨some 172, _, _, _, _, _⟩) hdir hsel hpan rfl (by kernel_rfl) (by kernel_rfl) (by kernel_rfl) (Or.inl ⟨by rfl, fun _ _ => by rfl⟩) (by assumption) ?_
        try simp only [Act.put, List.setIfInBounds_toArray, List.set_cons_zero, List.set_cons_succ]
        refine wpHB_take (i := 11) (oi := ⟨some 21, _, _, _, _, _⟩) hdir hsel hpan rfl (by kernel_rfl) (by kernel_rfl) (by kernel_rfl) (Or.inl ⟨by rfl, fun _ _ => by rfl⟩) (by assumption) ?_
        try simp only [Act.put, List.setIfInBounds_toArray, List.set_cons_zero, List.set_cons_succ]
        refine wpHB_ready (rs := [12]) (by kernel_rfl) (by simp) ?_
        refine AllHB.cons (by kernel_rfl) (o := ⟨none, _, _, _, _, _⟩) rfl (fun K hK => ?_) AllHB.nil
        rw [if_pos (by rfl)]
        refine wp_store_all 36 _ _ rfl _ 36 [] (pairA 0 0).toList [] (pairA 0 0).toList rfl rfl (gp.then_ (by (repeat (first | with_reducible exact Below.refl _ _ | with_reducible assumption | with_reducible refine below_then ?_ (by with_reducible assumption))))) rfl (by kernel_rfl) (by simp [Value.oneCell']) ?_
        intro w8 g8 U8
        refine hK.out _ _ (Lib.hid (hHeld.out.trans (U8.b _ lla))) (fun hHeld2 => ?_)
        clear hK K hHeld
        have hHeld := hHeld2
        clear hHeld2
        try simp only [Act.put]
        refine wpHB_tail (by kernel_rfl) (by kernel_rfl) ?_
        clear hdir hsel hpan
        simp only [opsAt, List.getElem?_toArray, List.getElem?_cons_succ, List.getElem?_cons_zero, Option.toList_some, List.cons_append, List.nil_append]
        go_wp2
        go_meet
        case rel => exact ⟨_, rfl, rfl, g8, hHeld.out⟩
      exact AllHB.nil
    obtain ⟨bqWT2, rfl, rfl, gqWT2, hbn⟩ := hcut
    obtain ⟨WT2, rfl⟩ : ∃ W, W = wc := ⟨_, rfl⟩
    have HHWT2 := Lib.hid hbn
    clear hbn gqWT2
    go_upto_region 19 with (fail)
    go_cut [25, 26] from 173 to 185 (fun x v W => ∃ q, x = .pointer (some ⟨q, 0, none⟩) ∧ v = .int .i64 0 ∧ Blk W q 36 (pairA 0 0) ∧ Below WT2.heap.size WT2 W)
    case first =>
      refine wp_region_hb (fun w' => Hid (Below WT2.heap.size WT2 w')) [0, 1, 2, 3, 4, 5, 6, 7, 8, 9, 10, 11, 12, 13, 14, 15] [16] (by kernel_rfl) (by kernel_rfl) (by repeat (first | with_reducible refine panOk_then ?_ | with_reducible refine panOk_block ?_ | exact panOk_body)) (Lib.hid (Below.drew (Below.refl _ _))) (fun hdir hsel hpan hHeld => ?_)
      refine wpHB_take (i := 0) (oi := ⟨some 174, _, _, _, _, _⟩) hdir hsel hpan rfl (by kernel_rfl) (by kernel_rfl) (by kernel_rfl) (yieldsIf_row (by rfl) 27 _ rfl bc rfl 27 _ (fun w hw => (GBX.out.then_ (below_then HHWT2.out hw.out))) ⟨_, Try.underlying27⟩ (by kernel_rfl)) (by assumption) ?_
      try simp only [Act.put, List.setIfInBounds_toArray, List.set_cons_zero, List.set_cons_succ]
      refine wpHB_take (i := 1) (oi := ⟨some 175, _, _, _, _, _⟩) hdir hsel hpan rfl (by kernel_rfl) (by kernel_rfl) (by kernel_rfl) (Or.inl ⟨by rfl, fun _ _ => by rfl⟩) (by assumption) ?_
      try simp only [Act.put, List.setIfInBounds_toArray, List.set_cons_zero, List.set_cons_succ]
      refine wpHB_take (i := 2) (oi := ⟨some 176, _, _, _, _, _⟩) hdir hsel hpan rfl (by kernel_rfl) (by kernel_rfl) (by kernel_rfl) (Or.inl ⟨by rfl, fun _ _ => by rfl⟩) (by assumption) ?_
      try simp only [Act.put, List.setIfInBounds_toArray, List.set_cons_zero, List.set_cons_succ]
      refine wpHB_take (i := 3) (oi := ⟨some 177, _, _, _, _, _⟩) (v := .int .i64 (i + 1)) hdir hsel hpan rfl (by kernel_rfl) (by kernel_rfl) (by kernel_rfl) (Or.inl ⟨by rfl, fun w hw => by go_simp⟩) (by assumption) ?_
      try simp only [Act.put, List.setIfInBounds_toArray, List.set_cons_zero, List.set_cons_succ]
      refine wpHB_take (i := 4) (oi := ⟨some 178, _, _, _, _, _⟩) (v := .slice A1 (i + 1) k1) hdir hsel hpan rfl (by kernel_rfl) (by kernel_rfl) (by kernel_rfl) (Or.inl ⟨by rfl, fun w hw => by have h := hq2 w; go_simp⟩) (by assumption) ?_
      try simp only [Act.put, List.setIfInBounds_toArray, List.set_cons_zero, List.set_cons_succ]
      refine wpHB_take (i := 5) (oi := ⟨some 179, _, _, _, _, _⟩) hdir hsel hpan rfl (by kernel_rfl) (by kernel_rfl) (by kernel_rfl) (Or.inl ⟨by rfl, fun _ _ => by rfl⟩) (by assumption) ?_
      try simp only [Act.put, List.setIfInBounds_toArray, List.set_cons_zero, List.set_cons_succ]
      refine wpHB_take (i := 6) (oi := ⟨some 180, _, _, _, _, _⟩) hdir hsel hpan rfl (by kernel_rfl) (by kernel_rfl) (by kernel_rfl) (Or.inl ⟨by rfl, fun _ _ => by rfl⟩) (by assumption) ?_
      try simp only [Act.put, List.setIfInBounds_toArray, List.set_cons_zero, List.set_cons_succ]
      refine wpHB_take (i := 7) (oi := ⟨some 181, _, _, _, _, _⟩) (v := .slice A2 j k2) hdir hsel hpan rfl (by kernel_rfl) (by kernel_rfl) (by kernel_rfl) (Or.inl ⟨by rfl, fun w hw => by have h := hq3 w; go_simp⟩) (by assumption) ?_
      try simp only [Act.put, List.setIfInBounds_toArray, List.set_cons_zero, List.set_cons_succ]
      refine wpHB_ready (rs := [8, 13]) (by kernel_rfl) (by simp) ?_
      refine AllHB.cons (by kernel_rfl) (o := ⟨some 182, _, _, _, _, _⟩) rfl (fun K hK => ?_) ?_
      · go_simp
        (go_at_call 13; (with_reducible refine (HY2.out _ (below_then HBX.out (below_then HHWT2.out hHeld.out))).mono ?_); rintro e wa ⟨⟨Ay, ky, My, rfl, hma⟩, hbwa⟩)
        refine hK.out _ _ (Lib.hid (below_then hHeld.out hbwa)) (fun hHeld2 => ?_)
        clear hK K hHeld
        have hHeld := hHeld2
        clear hHeld2
        try simp only [Act.put, List.setIfInBounds_toArray, List.set_cons_zero, List.set_cons_succ]
        refine wpHB_take (i := 9) (oi := ⟨some 173, _, _, _, _, _⟩) hdir hsel hpan rfl (by kernel_rfl) (by kernel_rfl) (by kernel_rfl) (Or.inl ⟨by rfl, fun _ _ => by rfl⟩) (by assumption) ?_
        try simp only [Act.put, List.setIfInBounds_toArray, List.set_cons_zero, List.set_cons_succ]
        refine wpHB_take (i := 10) (oi := ⟨some 183, _, _, _, _, _⟩) hdir hsel hpan rfl (by kernel_rfl) (by kernel_rfl) (by kernel_rfl) (Or.inl ⟨by rfl, fun _ _ => by rfl⟩) (by assumption) ?_
        try simp only [Act.put, List.setIfInBounds_toArray, List.set_cons_zero, List.set_cons_succ]
        refine wpHB_take (i := 11) (oi := ⟨some 184, _, _, _, _, _⟩) hdir hsel hpan rfl (by kernel_rfl) (by kernel_rfl) (by kernel_rfl) (Or.inl ⟨by rfl, fun _ _ => by rfl⟩) (by assumption) ?_
        try simp only [Act.put, List.setIfInBounds_toArray, List.set_cons_zero, List.set_cons_succ]
        refine wpHB_take (i := 12) (oi := ⟨some 185, _, _, _, _, _⟩) hdir hsel hpan rfl (by kernel_rfl) (by kernel_rfl) (by kernel_rfl) (Or.inl ⟨by rfl, fun _ _ => by rfl⟩) (by assumption) ?_
        try simp only [Act.put, List.setIfInBounds_toArray, List.set_cons_zero, List.set_cons_succ]
        refine wpHB_ready (rs := [13]) (by kernel_rfl) (by simp) ?_
        refine AllHB.cons (by kernel_rfl) (o := ⟨some 25, _, _, _, _, _⟩) rfl (fun K hK => ?_) AllHB.nil
        go_simp
        have lla := hHeld.out.size
        refine name_k ?_
        intro Vp hVp
        obtain ⟨gp, hbp⟩ : _ ∧ _ := (by first | exact pair_new hVp | exact pair_new (W := WT2.drew) hVp)
        clear hVp
        refine hK.out _ _ (Lib.hid (below_then hHeld.out hbp)) (fun hHeld2 => ?_)
        clear hK K hHeld
        have hHeld := hHeld2
        clear hHeld2
        try simp only [Act.put, List.setIfInBounds_toArray, List.set_cons_zero, List.set_cons_succ]
        refine wpHB_take (i := 14) (oi := ⟨some 24, _, _, _, _, _⟩) hdir hsel hpan rfl (by kernel_rfl) (by kernel_rfl) (by kernel_rfl) (Or.inl ⟨by rfl, fun _ _ => by rfl⟩) (by assumption) ?_
        try simp only [Act.put, List.setIfInBounds_toArray, List.set_cons_zero, List.set_cons_succ]
        refine wpHB_ready (rs := [15]) (by kernel_rfl) (by simp) ?_
        refine AllHB.cons (by kernel_rfl) (o := ⟨none, _, _, _, _, _⟩) rfl (fun K hK => ?_) AllHB.nil
        rw [if_pos (by rfl)]
        refine wp_store_all 36 _ _ rfl _ 36 [] (pairA 0 0).toList [] (pairA 0 0).toList rfl rfl (gp.then_ (by (repeat (first | with_reducible exact Below.refl _ _ | with_reducible assumption | with_reducible refine below_then ?_ (by with_reducible assumption))))) rfl (by kernel_rfl) (by simp [Value.oneCell']) ?_
        intro w8 g8 U8
        refine hK.out _ _ (Lib.hid (hHeld.out.trans (U8.b _ lla))) (fun hHeld2 => ?_)
        clear hK K hHeld
        have hHeld := hHeld2
        clear hHeld2
        try simp only [Act.put]
        refine wpHB_tail (by kernel_rfl) (by kernel_rfl) ?_
        clear hdir hsel hpan
        simp only [opsAt, List.getElem?_toArray, List.getElem?_cons_succ, List.getElem?_cons_zero, Option.toList_some, List.cons_append, List.nil_append]
        go_wp2
        go_meet
        case rel => exact ⟨_, rfl, rfl, g8, hHeld.out⟩
      refine AllHB.cons (by kernel_rfl) (o := ⟨some 25, _, _, _, _, _⟩) rfl (fun K hK => ?_) ?_
      · go_simp
        have lla := hHeld.out.size
        refine name_k ?_
        intro Vp hVp
        obtain ⟨gp, hbp⟩ : _ ∧ _ := (by first | exact pair_new hVp | exact pair_new (W := WT2.drew) hVp)
        clear hVp
        refine hK.out _ _ (Lib.hid (below_then hHeld.out hbp)) (fun hHeld2 => ?_)
        clear hK K hHeld
        have hHeld := hHeld2
        clear hHeld2
        try simp only [Act.put, List.setIfInBounds_toArray, List.set_cons_zero, List.set_cons_succ]
        refine wpHB_ready (rs := [8]) (by kernel_rfl) (by simp) ?_
        refine AllHB.cons (by kernel_rfl) (o := ⟨some 182, _, _, _, _, _⟩) rfl (fun K hK => ?_) AllHB.nil
        go_simp
        (go_at_call 13; (with_reducible refine (HY2.out _ (below_then HBX.out (below_then HHWT2.out hHeld.out))).mono ?_); rintro e wa ⟨⟨Ay, ky, My, rfl, hma⟩, hbwa⟩)
        refine hK.out _ _ (Lib.hid (below_then hHeld.out hbwa)) (fun hHeld2 => ?_)
        clear hK K hHeld
        have hHeld := hHeld2
        clear hHeld2
        try simp only [Act.put, List.setIfInBounds_toArray, List.set_cons_zero, List.set_cons_succ]
        refine wpHB_take (i := 9) (oi := ⟨some 173, _, _, _, _, _⟩) hdir hsel hpan rfl (by kernel_rfl) (by kernel_rfl) (by kernel_rfl) (Or.inl ⟨by rfl, fun _ _ => by rfl⟩) (by assumption) ?_
        try simp only [Act.put, List.setIfInBounds_toArray, List.set_cons_zero, List.set_cons_succ]
        refine wpHB_take (i := 10) (oi := ⟨some 183, _, _, _, _, _⟩) hdir hsel hpan rfl (by kernel_rfl) (by kernel_rfl) (by kernel_rfl) (Or.inl ⟨by rfl, fun _ _ => by rfl⟩) (by assumption) ?_
        try simp only [Act.put, List.setIfInBounds_toArray, List.set_cons_zero, List.set_cons_succ]
        refine wpHB_take (i := 11) (oi := ⟨some 184, _, _, _, _, _⟩) hdir hsel hpan rfl (by kernel_rfl) (by kernel_rfl) (by kernel_rfl) (Or.inl ⟨by rfl, fun _ _ => by rfl⟩) (by assumption) ?_
        try simp only [Act.put, List.setIfInBounds_toArray, List.set_cons_zero, List.set_cons_succ]
        refine wpHB_take (i := 12) (oi := ⟨some 185, _, _, _, _, _⟩) hdir hsel hpan rfl (by kernel_rfl) (by kernel_rfl) (by kernel_rfl) (Or.inl ⟨by rfl, fun _ _ => by rfl⟩) (by assumption) ?_
        try simp only [Act.put, List.setIfInBounds_toArray, List.set_cons_zero, List.set_cons_succ]
        refine wpHB_take (i := 14) (oi := ⟨some 24, _, _, _, _, _⟩) hdir hsel hpan rfl (by kernel_rfl) (by kernel_rfl) (by kernel_rfl) (Or.inl ⟨by rfl, fun _ _ => by rfl⟩) (by assumption) ?_
        try simp only [Act.put, List.setIfInBounds_toArray, List.set_cons_zero, List.set_cons_succ]
        refine wpHB_ready (rs := [15]) (by kernel_rfl) (by simp) ?_
        refine AllHB.cons (by kernel_rfl) (o := ⟨none, _, _, _, _, _⟩) rfl (fun K hK => ?_) AllHB.nil
        rw [if_pos (by rfl)]
        refine wp_store_all 36 _ _ rfl _ 36 [] (pairA 0 0).toList [] (pairA 0 0).toList rfl rfl (gp.then_ (by (repeat (first | with_reducible exact Below.refl _ _ | with_reducible assumption | with_reducible refine below_then ?_ (by with_reducible assumption))))) rfl (by kernel_rfl) (by simp [Value.oneCell']) ?_
        intro w8 g8 U8
        refine hK.out _ _ (Lib.hid (hHeld.out.trans (U8.b _ lla))) (fun hHeld2 => ?_)
        clear hK K hHeld
        have hHeld := hHeld2
        clear hHeld2
        try simp only [Act.put]
        refine wpHB_tail (by kernel_rfl) (by kernel_rfl) ?_
        clear hdir hsel hpan
        simp only [opsAt, List.getElem?_toArray, List.getElem?_cons_succ, List.getElem?_cons_zero, Option.toList_some, List.cons_append, List.nil_append]
        go_wp2
        go_meet
        case rel => exact ⟨_, rfl, rfl, g8, hHeld.out⟩
      exact AllHB.nil
    obtain ⟨bqWU2, rfl, rfl, gqWU2, hbn⟩ := hcut
    obtain ⟨WU2, rfl⟩ : ∃ W, W = wc := ⟨_, rfl⟩
    have HHWU2 := Lib.hid (below_then HHWT2.out hbn)
    clear hbn gqWU2
    go_upto_region 20 with (fail)
    go_cut [28, 29] from 186 to 199 (fun x v W => ∃ q, x = .pointer (some ⟨q, 0, none⟩) ∧ v = .int .i64 16 ∧ Blk W q 36 (pairA i j) ∧ Below WU2.heap.size WU2 W)
    case first =>
      refine wp_region_hb (fun w' => Hid (Below WU2.heap.size WU2 w')) [0, 1, 2, 3, 4, 5, 6, 7, 8, 9, 10, 11, 12, 13, 14, 15, 16] [17] (by kernel_rfl) (by kernel_rfl) (by repeat (first | with_reducible refine panOk_then ?_ | with_reducible refine panOk_block ?_ | exact panOk_body)) (Lib.hid (Below.drew (Below.refl _ _))) (fun hdir hsel hpan hHeld => ?_)
      refine wpHB_take (i := 0) (oi := ⟨some 187, _, _, _, _, _⟩) hdir hsel hpan rfl (by kernel_rfl) (by kernel_rfl) (by kernel_rfl) (yieldsIf_row (by rfl) 27 _ rfl bc rfl 27 _ (fun w hw => (GBX.out.then_ (below_then HHWU2.out hw.out))) ⟨_, Try.underlying27⟩ (by kernel_rfl)) (by assumption) ?_
      try simp only [Act.put, List.setIfInBounds_toArray, List.set_cons_zero, List.set_cons_succ]
      refine wpHB_take (i := 1) (oi := ⟨some 188, _, _, _, _, _⟩) hdir hsel hpan rfl (by kernel_rfl) (by kernel_rfl) (by kernel_rfl) (Or.inl ⟨by rfl, fun _ _ => by rfl⟩) (by assumption) ?_
      try simp only [Act.put, List.setIfInBounds_toArray, List.set_cons_zero, List.set_cons_succ]
      refine wpHB_take (i := 2) (oi := ⟨some 189, _, _, _, _, _⟩) hdir hsel hpan rfl (by kernel_rfl) (by kernel_rfl) (by kernel_rfl) (Or.inl ⟨by rfl, fun _ _ => by rfl⟩) (by assumption) ?_
      try simp only [Act.put, List.setIfInBounds_toArray, List.set_cons_zero, List.set_cons_succ]
      refine wpHB_take (i := 3) (oi := ⟨some 190, _, _, _, _, _⟩) (v := .int .i64 (i + 1)) hdir hsel hpan rfl (by kernel_rfl) (by kernel_rfl) (by kernel_rfl) (Or.inl ⟨by rfl, fun w hw => by go_simp⟩) (by assumption) ?_
      try simp only [Act.put, List.setIfInBounds_toArray, List.set_cons_zero, List.set_cons_succ]
      refine wpHB_take (i := 4) (oi := ⟨some 191, _, _, _, _, _⟩) (v := .slice A1 (i + 1) k1) hdir hsel hpan rfl (by kernel_rfl) (by kernel_rfl) (by kernel_rfl) (Or.inl ⟨by rfl, fun w hw => by have h := hq2 w; go_simp⟩) (by assumption) ?_
      try simp only [Act.put, List.setIfInBounds_toArray, List.set_cons_zero, List.set_cons_succ]
      refine wpHB_take (i := 5) (oi := ⟨some 192, _, _, _, _, _⟩) hdir hsel hpan rfl (by kernel_rfl) (by kernel_rfl) (by kernel_rfl) (Or.inl ⟨by rfl, fun _ _ => by rfl⟩) (by assumption) ?_
      try simp only [Act.put, List.setIfInBounds_toArray, List.set_cons_zero, List.set_cons_succ]
      refine wpHB_take (i := 6) (oi := ⟨some 193, _, _, _, _, _⟩) hdir hsel hpan rfl (by kernel_rfl) (by kernel_rfl) (by kernel_rfl) (Or.inl ⟨by rfl, fun _ _ => by rfl⟩) (by assumption) ?_
      try simp only [Act.put, List.setIfInBounds_toArray, List.set_cons_zero, List.set_cons_succ]
      refine wpHB_take (i := 7) (oi := ⟨some 194, _, _, _, _, _⟩) (v := .int .i64 (j + 1)) hdir hsel hpan rfl (by kernel_rfl) (by kernel_rfl) (by kernel_rfl) (Or.inl ⟨by rfl, fun w hw => by go_simp⟩) (by assumption) ?_
      try simp only [Act.put, List.setIfInBounds_toArray, List.set_cons_zero, List.set_cons_succ]
      refine wpHB_take (i := 8) (oi := ⟨some 195, _, _, _, _, _⟩) (v := .slice A2 (j + 1) k2) hdir hsel hpan rfl (by kernel_rfl) (by kernel_rfl) (by kernel_rfl) (Or.inl ⟨by rfl, fun w hw => by have h := hq4 w; go_simp⟩) (by assumption) ?_
      try simp only [Act.put, List.setIfInBounds_toArray, List.set_cons_zero, List.set_cons_succ]
      refine wpHB_ready (rs := [9, 14]) (by kernel_rfl) (by simp) ?_
      refine AllHB.cons (by kernel_rfl) (o := ⟨some 196, _, _, _, _, _⟩) rfl (fun K hK => ?_) ?_
      · go_simp
        (go_at_call 13; (with_reducible refine (HY3.out _ (below_then HBX.out (below_then HHWU2.out hHeld.out))).mono ?_); rintro e wa ⟨⟨Ay, ky, My, rfl, hma⟩, hbwa⟩)
        refine hK.out _ _ (Lib.hid (below_then hHeld.out hbwa)) (fun hHeld2 => ?_)
        clear hK K hHeld
        have hHeld := hHeld2
        clear hHeld2
        try simp only [Act.put, List.setIfInBounds_toArray, List.set_cons_zero, List.set_cons_succ]
        refine wpHB_take (i := 10) (oi := ⟨some 186, _, _, _, _, _⟩) hdir hsel hpan rfl (by kernel_rfl) (by kernel_rfl) (by kernel_rfl) (Or.inl ⟨by rfl, fun _ _ => by rfl⟩) (by assumption) ?_
        try simp only [Act.put, List.setIfInBounds_toArray, List.set_cons_zero, List.set_cons_succ]
        refine wpHB_take (i := 11) (oi := ⟨some 197, _, _, _, _, _⟩) hdir hsel hpan rfl (by kernel_rfl) (by kernel_rfl) (by kernel_rfl) (Or.inl ⟨by rfl, fun _ _ => by rfl⟩) (by assumption) ?_
        try simp only [Act.put, List.setIfInBounds_toArray, List.set_cons_zero, List.set_cons_succ]
        refine wpHB_take (i := 12) (oi := ⟨some 198, _, _, _, _, _⟩) hdir hsel hpan rfl (by kernel_rfl) (by kernel_rfl) (by kernel_rfl) (Or.inl ⟨by rfl, fun _ _ => by rfl⟩) (by assumption) ?_
        try simp only [Act.put, List.setIfInBounds_toArray, List.set_cons_zero, List.set_cons_succ]
        refine wpHB_take (i := 13) (oi := ⟨some 199, _, _, _, _, _⟩) hdir hsel hpan rfl (by kernel_rfl) (by kernel_rfl) (by kernel_rfl) (Or.inl ⟨by rfl, fun _ _ => by rfl⟩) (by assumption) ?_
        try simp only [Act.put, List.setIfInBounds_toArray, List.set_cons_zero, List.set_cons_succ]
        refine wpHB_ready (rs := [14]) (by kernel_rfl) (by simp) ?_
        refine AllHB.cons (by kernel_rfl) (o := ⟨some 28, _, _, _, _, _⟩) rfl (fun K hK => ?_) AllHB.nil
        go_simp
        have lla := hHeld.out.size
        refine name_k ?_
        intro Vp hVp
        obtain ⟨gp, hbp⟩ : _ ∧ _ := (by first | exact pair_new hVp | exact pair_new (W := WU2.drew) hVp)
        clear hVp
        refine hK.out _ _ (Lib.hid (below_then hHeld.out hbp)) (fun hHeld2 => ?_)
        clear hK K hHeld
        have hHeld := hHeld2
        clear hHeld2
        try simp only [Act.put, List.setIfInBounds_toArray, List.set_cons_zero, List.set_cons_succ]
        refine wpHB_take (i := 15) (oi := ⟨some 27, _, _, _, _, _⟩) hdir hsel hpan rfl (by kernel_rfl) (by kernel_rfl) (by kernel_rfl) (Or.inl ⟨by rfl, fun _ _ => by rfl⟩) (by assumption) ?_
        try simp only [Act.put, List.setIfInBounds_toArray, List.set_cons_zero, List.set_cons_succ]
        refine wpHB_ready (rs := [16]) (by kernel_rfl) (by simp) ?_
        refine AllHB.cons (by kernel_rfl) (o := ⟨none, _, _, _, _, _⟩) rfl (fun K hK => ?_) AllHB.nil
        rw [if_pos (by rfl)]
        refine wp_store_all 36 _ _ rfl _ 36 [] (pairA 0 0).toList [] (pairA i j).toList rfl rfl (gp.then_ (by (repeat (first | with_reducible exact Below.refl _ _ | with_reducible assumption | with_reducible refine below_then ?_ (by with_reducible assumption))))) rfl (by kernel_rfl) (by simp [Value.oneCell']) ?_
        intro w8 g8 U8
        refine hK.out _ _ (Lib.hid (hHeld.out.trans (U8.b _ lla))) (fun hHeld2 => ?_)
        clear hK K hHeld
        have hHeld := hHeld2
        clear hHeld2
        try simp only [Act.put]
        refine wpHB_tail (by kernel_rfl) (by kernel_rfl) ?_
        clear hdir hsel hpan
        simp only [opsAt, List.getElem?_toArray, List.getElem?_cons_succ, List.getElem?_cons_zero, Option.toList_some, List.cons_append, List.nil_append]
        go_wp2
        go_meet
        case rel => exact ⟨_, rfl, rfl, g8, hHeld.out⟩
      refine AllHB.cons (by kernel_rfl) (o := ⟨some 28, _, _, _, _, _⟩) rfl (fun K hK => ?_) ?_
      · go_simp
        have lla := hHeld.out.size
        refine name_k ?_
        intro Vp hVp
        obtain ⟨gp, hbp⟩ : _ ∧ _ := (by first | exact pair_new hVp | exact pair_new (W := WU2.drew) hVp)
        clear hVp
        refine hK.out _ _ (Lib.hid (below_then hHeld.out hbp)) (fun hHeld2 => ?_)
        clear hK K hHeld
        have hHeld := hHeld2
        clear hHeld2
        try simp only [Act.put, List.setIfInBounds_toArray, List.set_cons_zero, List.set_cons_succ]
        refine wpHB_ready (rs := [9]) (by kernel_rfl) (by simp) ?_
        refine AllHB.cons (by kernel_rfl) (o := ⟨some 196, _, _, _, _, _⟩) rfl (fun K hK => ?_) AllHB.nil
        go_simp
        (go_at_call 13; (with_reducible refine (HY3.out _ (below_then HBX.out (below_then HHWU2.out hHeld.out))).mono ?_); rintro e wa ⟨⟨Ay, ky, My, rfl, hma⟩, hbwa⟩)
        refine hK.out _ _ (Lib.hid (below_then hHeld.out hbwa)) (fun hHeld2 => ?_)
        clear hK K hHeld
        have hHeld := hHeld2
        clear hHeld2
        try simp only [Act.put, List.setIfInBounds_toArray, List.set_cons_zero, List.set_cons_succ]
        refine wpHB_take (i := 10) (oi := ⟨some 186, _, _, _, _, _⟩) hdir hsel hpan rfl (by kernel_rfl) (by kernel_rfl) (by kernel_rfl) (Or.inl ⟨by rfl, fun _ _ => by rfl⟩) (by assumption) ?_
        try simp only [Act.put, List.setIfInBounds_toArray, List.set_cons_zero, List.set_cons_succ]
        refine wpHB_take (i := 11) (oi := ⟨some 197, _, _, _, _, _⟩) hdir hsel hpan rfl (by kernel_rfl) (by kernel_rfl) (by kernel_rfl) (Or.inl ⟨by rfl, fun _ _ => by rfl⟩) (by assumption) ?_
        try simp only [Act.put, List.setIfInBounds_toArray, List.set_cons_zero, List.set_cons_succ]
        refine wpHB_take (i := 12) (oi := ⟨some 198, _, _, _, _, _⟩) hdir hsel hpan rfl (by kernel_rfl) (by kernel_rfl) (by kernel_rfl) (Or.inl ⟨by rfl, fun _ _ => by rfl⟩) (by assumption) ?_
        try simp only [Act.put, List.setIfInBounds_toArray, List.set_cons_zero, List.set_cons_succ]
        refine wpHB_take (i := 13) (oi := ⟨some 199, _, _, _, _, _⟩) hdir hsel hpan rfl (by kernel_rfl) (by kernel_rfl) (by kernel_rfl) (Or.inl ⟨by rfl, fun _ _ => by rfl⟩) (by assumption) ?_
        try simp only [Act.put, List.setIfInBounds_toArray, List.set_cons_zero, List.set_cons_succ]
        refine wpHB_take (i := 15) (oi := ⟨some 27, _, _, _, _, _⟩) hdir hsel hpan rfl (by kernel_rfl) (by kernel_rfl) (by kernel_rfl) (Or.inl ⟨by rfl, fun _ _ => by rfl⟩) (by assumption) ?_
        try simp only [Act.put, List.setIfInBounds_toArray, List.set_cons_zero, List.set_cons_succ]
        refine wpHB_ready (rs := [16]) (by kernel_rfl) (by simp) ?_
        refine AllHB.cons (by kernel_rfl) (o := ⟨none, _, _, _, _, _⟩) rfl (fun K hK => ?_) AllHB.nil
        rw [if_pos (by rfl)]
        refine wp_store_all 36 _ _ rfl _ 36 [] (pairA 0 0).toList [] (pairA i j).toList rfl rfl (gp.then_ (by (repeat (first | with_reducible exact Below.refl _ _ | with_reducible assumption | with_reducible refine below_then ?_ (by with_reducible assumption))))) rfl (by kernel_rfl) (by simp [Value.oneCell']) ?_
        intro w8 g8 U8
        refine hK.out _ _ (Lib.hid (hHeld.out.trans (U8.b _ lla))) (fun hHeld2 => ?_)
        clear hK K hHeld
        have hHeld := hHeld2
        clear hHeld2
        try simp only [Act.put]
        refine wpHB_tail (by kernel_rfl) (by kernel_rfl) ?_
        clear hdir hsel hpan
        simp only [opsAt, List.getElem?_toArray, List.getElem?_cons_succ, List.getElem?_cons_zero, Option.toList_some, List.cons_append, List.nil_append]
        go_wp2
        go_meet
        case rel => exact ⟨_, rfl, rfl, g8, hHeld.out⟩
      exact AllHB.nil
    obtain ⟨bqWV2, rfl, rfl, gqWV2, hbn⟩ := hcut
    obtain ⟨WV2, rfl⟩ : ∃ W, W = wc := ⟨_, rfl⟩
    have HHWV2 := Lib.hid (below_then HHWU2.out hbn)
    clear hbn
    have gpx := GPX.out.then_ HHWV2.out
    have heq := fun W => eqP2 i j i j W
    simp only [and_self, decide_true] at heq
    clear hq1 hq2 hq3 hq4 hwi hwj hwr he2
    go_wp2_with (first | (refine wpList_arr (by rfl) 36 _ rfl bqWV2 rfl 36 (pairA i j) gqWV2 Try.underlying36 (by kernel_rfl) ?_; simp only [Act.put, List.setIfInBounds_toArray, List.set_cons_succ, List.set_cons_zero]) | (refine wpList_arr (by rfl) 36 _ rfl bWX rfl 36 (pairA i j) gpx Try.underlying36 (by kernel_rfl) ?_; simp only [Act.put, List.setIfInBounds_toArray, List.set_cons_succ, List.set_cons_zero]))
    go_ret
    exact ⟨rfl, below_then HBX.out HHWV2.out⟩
  · have HB30 := HBT.out
    have gbt := GBT.out
    have hp := HMP.out (by rw [HE.out]; exact h16)
    rw [HE.out] at hp
    have HM := Lib.hid (fun W (hb : Below w.heap.size w W) => mrg_to c m L1 L2 A1 A2 L1.length L2.length k1 k2 W E 0 0 (if E = 0 then c.mrL (pats L1) (pats L2) else []) (HCW.out.then_ hb) (HP1.out.then_ hb) (HP2.out.then_ hb) rfl rfl hk1 (by rw [hp]; rfl) (by decide) rfl)
    have tE : (E != 16) = true := by rw [bne_iff_ne]; exact h16
    clear hp h16 HMP HM12 HE hn HP1 HP2 HCW
    go_upto_region 12 with (first | (refine wpList_row_w (by rfl) 27 _ rfl bc rfl 27 _ gbt ⟨_, Try.underlying27⟩ (by kernel_rfl) ?_; simp only [Act.put, List.setIfInBounds_toArray, List.set_cons_succ, List.set_cons_zero]) | (go_at_call 13; (with_reducible refine (HM.out _ HB30).mono ?_); rintro e w6 ⟨⟨Ax, kx, Mx, rfl, ex, hx0, lx⟩, hbw6⟩) | (refine wpList_store_all rfl 36 _ _ rfl w6.heap.size 36 [] (pairA 0 0).toList [] (pairA 0 0).toList rfl rfl (Blk.new _ _ _) rfl (by kernel_rfl) (by simp [Value.oneCell']) ?_; intro w7 gbw7 Uw7))
    have hsw7 : Below w6.heap.size w6 w7 := (wa1 _ _).trans (Uw7.b _ (Nat.le_refl _))
    have HH31 := below_then hbw6 hsw7
    have HB31 := below_then HB30 HH31
    have gbc_31 := gbt.then_ HH31
    clear gbt HB30 HH31
    have hx := hx0.then_ hsw7
    replace ex := Lib.hid ex
    obtain ⟨bw7, ebw7⟩ : ∃ b, w6.heap.size = b := ⟨_, rfl⟩
    rw [ebw7] at gbw7 ⊢
    clear ebw7 Uw7 hsw7 hx0
    go_wp2_with ((refine wpList_arr (by rfl) 36 _ rfl bw7 rfl 36 (pairA 0 0) gbw7 Try.underlying36 (by kernel_rfl) ?_; simp only [Act.put, List.setIfInBounds_toArray, List.set_cons_succ, List.set_cons_zero]))
    go_ret
    exact ⟨rfl, HB31⟩
end Go.Proofs.Ytcplneglfbdooaa
