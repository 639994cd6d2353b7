/- The walk of FileTexts. -/
import Derived.Test.YtemkghgcdpmlbaaDoorMb22
namespace Go.Proofs.YtemkghgcdpmlbaaDoor
open Go.RowKit Go.Sort

theorem run_J64 : ∀ (k : Nat) (s s' : Rf) (t : List UInt8), Rf.run k s t = some s' → (∀ n ∈ s.ns, J64 n) → ∀ n ∈ s'.ns, J64 n
  | 0, s, s', t, h, _ => by cases h
  | k + 1, s, s', t, h, hJ => by
    unfold Rf.run at h
    cases hs : s.step (Lib.cut t [32]).1 with
    | none => rw [hs] at h; cases h
    | some s2 =>
      have h2 : ∀ n ∈ s2.ns, J64 n := by
        unfold Rf.step at hs
        split at hs
        · simp only [Option.some.injEq] at hs; subst hs; exact hJ
        · split at hs
          case _ n hn =>
            split at hs
            · cases hs
            · simp only [Option.some.injEq] at hs
              subst hs
              intro z hz
              rcases List.mem_append.1 hz with h3 | h3
              · exact hJ z h3
              · rw [List.mem_singleton.1 h3]; exact Lib.atoiAll_bounds hn
          case _ => cases hs
      rw [hs] at h
      simp only at h
      split at h
      · exact run_J64 k s2 s' _ h h2
      · simp only [Option.some.injEq] at h; subst h; exact h2
theorem prsF_I64 {t : List UInt8} {x : Fac} (h : prsF t = some x) : x.I64 := by
  unfold prsF at h
  split at h
  case _ st hst =>
    have hJ := run_J64 _ _ _ _ hst (fun _ h => by cases h)
    split at h
    case _ z hz =>
      split at h
      · simp only [Option.some.injEq] at h
        subst h
        unfold facOf at hz
        split at hz
        case _ a b c d e f hn =>
          rw [hn] at hJ
          simp only [Option.some.injEq] at hz
          subst hz
          exact ⟨hJ a (by simp), hJ b (by simp), hJ c (by simp), hJ d (by simp), hJ e (by simp)⟩
        case _ => cases hz
      · cases h
    case _ => cases h
  case _ => cases h
theorem fac_dec (x y : Fac) : decide (x = y) = (decide (x.ref = y.ref) && decide (x.act = y.act) && decide (x.low = y.low) && decide (x.high = y.high) && decide (x.filed = y.filed) && decide (x.sec = y.sec)) := by
  rw [Bool.eq_iff_iff]
  simp only [Bool.and_eq_true, decide_eq_true_eq]
  cases x
  cases y
  simp [and_assoc]
theorem text_len {x : Fac} (h : x.I64) : x.text.length ≤ 1000000 := by
  have := bodyT_len h 6 (Nat.le_refl _)
  rw [bodyT_all] at this
  omega
set_option maxRecDepth 100000 in
set_option maxHeartbeats 6400000 in
theorem texts_long (x y : Fac) (t : List UInt8) (w : World) (hL : Lw w) (_hx : x.I64) (_hy : y.I64) (hl : 300 < t.length) :
    Calls Tryd.prog 7 #[.agg (fA x), .agg (fA y), .string (tB t)] w fun e w' => e = .returned (.bool true) ∧ Below w.heap.size w w' := by
  have HH := Lib.hid (fun W (hb : Below w.heap.size w W) => head_any W (hL.below hb))
  have tl : decide ((300 : Int) < (((tB t).size : Nat) : Int)) = true := decide_eq_true (by rw [tB_size]; omega)
  clear hL _hx _hy hl
  go_enter Tryd.func7, Tryd.ntmps7
  go_upto_region 1 with (fail)
  refine name_wp ?_
  intro X0 hX
  have gbx : Blk X0 w.heap.size 33 (fA x) := by rw [hX]; exact (blk_at (by simp)).alloc _
  have gbz : Blk X0 (w.heap.size + 1) 33 (fA y) := by rw [hX]; exact blk_at (by simp)
  have HB0 : Below w.heap.size w X0 := by rw [hX]; (repeat (first | with_reducible assumption | with_reducible exact Below.refl _ _ | with_reducible refine below_drewN ?_ _ | with_reducible refine Below.drew ?_ | with_reducible refine below_alloc ?_ _ | with_reducible refine Below.setCell ?_ (by first | omega | (simp; done) | (simp; omega)) _ | with_reducible refine below_then ?_ (by with_reducible assumption) | (refine below_then (a := World.drew _) ?_ (by with_reducible assumption))))
  clear hX
  obtain ⟨bz, ebz⟩ : ∃ b, w.heap.size + 1 = b := ⟨_, rfl⟩
  obtain ⟨bx, ebx⟩ : ∃ b, w.heap.size = b := ⟨_, rfl⟩
  have lbx : w.heap.size ≤ bx := by omega
  have lbz : w.heap.size ≤ bz := by omega
  have nbxbz : bx ≠ bz := by omega
  rw [ebz] at gbz ⊢
  rw [ebx] at gbx ⊢
  clear ebx ebz
  go_upto_region 2 with ((go_at_call 8; (with_reducible refine (HH.out _ HB0).mono ?_); rintro e w1 ⟨rfl, hbw1⟩))
  have HH1 := hbw1
  have HB1 := below_then HB0 HH1
  have gbx_1 := gbx.then_ HH1
  have gbz_1 := gbz.then_ HH1
  clear gbx gbz HB0 HH1
  go_wp2_with (fail)
  go_ret
  exact ⟨rfl, HB1⟩
set_option maxRecDepth 100000 in
set_option maxHeartbeats 6400000 in
theorem texts_some (x y : Fac) (t : List UInt8) (w : World) (hL : Lw w) (hx : x.I64) (hy : y.I64) (hl : ¬ 300 < t.length) (z : Fac) (hz : prsF t = some z) :
    Calls Tryd.prog 7 #[.agg (fA x), .agg (fA y), .string (tB t)] w fun e w' => e = .returned (.bool true) ∧ Below w.heap.size w w' := by
  have HH := Lib.hid (fun W (hb : Below w.heap.size w W) => head_any W (hL.below hb))
  have HBX := Lib.hid (fun W (hb : Below w.heap.size w W) => body_any x W (hL.below hb) hx)
  have HBY := Lib.hid (fun W (hb : Below w.heap.size w W) => body_any y W (hL.below hb) hy)
  have HPX := Lib.hid (fun W (hb : Below w.heap.size w W) => parse_any x.text W (text_len hx) (hL.below hb))
  rw [show parF x.text = x by unfold parF; rw [prsF_text hx]; rfl, show parE x.text = 0 by unfold parE; rw [prsF_text hx]; rfl] at HPX
  have HPT := Lib.hid (fun W (hb : Below w.heap.size w W) => parse_any t W (by omega) (hL.below hb))
  have tl : decide ((300 : Int) < (((tB t).size : Nat) : Int)) = false := decide_eq_false (by rw [tB_size]; omega)
  obtain ⟨S, hS⟩ : ∃ S, decide (x = y) = S := ⟨_, rfl⟩
  have HS := Lib.hid hS
  have hst : ((tB x.text).toList == (tB y.text).toList) = S := tB_same _ _ _ (by rw [← hS]; exact decide_eq_decide.2 ⟨fun h => text_inj hx hy h, fun h => by rw [h]⟩)
  clear hS
  have HBZ := Lib.hid (fun W (hb : Below w.heap.size w W) => body_any z W (hL.below hb) (prsF_I64 hz))
  rw [show parF t = z by unfold parF; rw [hz]; rfl, show parE t = 0 by unfold parE; rw [hz]; rfl] at HPT
  rw [prsF_back hz] at HBZ
  have htt : ((tB t).toList == (tB t).toList) = true := beq_self_eq_true _
  clear hL hx hy hl hz
  go_enter Tryd.func7, Tryd.ntmps7
  go_upto_region 1 with (fail)
  refine name_wp ?_
  intro X0 hX
  have gbx : Blk X0 w.heap.size 33 (fA x) := by rw [hX]; exact (blk_at (by simp)).alloc _
  have gbz : Blk X0 (w.heap.size + 1) 33 (fA y) := by rw [hX]; exact blk_at (by simp)
  have HB0 : Below w.heap.size w X0 := by rw [hX]; (repeat (first | with_reducible assumption | with_reducible exact Below.refl _ _ | with_reducible refine below_drewN ?_ _ | with_reducible refine Below.drew ?_ | with_reducible refine below_alloc ?_ _ | with_reducible refine Below.setCell ?_ (by first | omega | (simp; done) | (simp; omega)) _ | with_reducible refine below_then ?_ (by with_reducible assumption) | (refine below_then (a := World.drew _) ?_ (by with_reducible assumption))))
  clear hX
  obtain ⟨bz, ebz⟩ : ∃ b, w.heap.size + 1 = b := ⟨_, rfl⟩
  obtain ⟨bx, ebx⟩ : ∃ b, w.heap.size = b := ⟨_, rfl⟩
  have lbx : w.heap.size ≤ bx := by omega
  have lbz : w.heap.size ≤ bz := by omega
  have nbxbz : bx ≠ bz := by omega
  rw [ebz] at gbz ⊢
  rw [ebx] at gbx ⊢
  clear ebx ebz
  go_upto_region 2 with ((go_at_call 8; (with_reducible refine (HH.out _ HB0).mono ?_); rintro e w1 ⟨rfl, hbw1⟩))
  have HH1 := hbw1
  have HB1 := below_then HB0 HH1
  have gbx_1 := gbx.then_ HH1
  have gbz_1 := gbz.then_ HH1
  clear gbx gbz HB0 HH1
  go_upto_region 4 with (fail)
  go_upto_region 5 with (first | (refine wpList_row_w (by rfl) 33 _ rfl bx rfl 33 _ gbx_1 ⟨_, Tryd.underlying33⟩ (by kernel_rfl) ?_; simp only [Act.put, List.setIfInBounds_toArray, List.set_cons_succ, List.set_cons_zero]) | (go_at_call 21; (with_reducible refine (HBX.out _ HB1).mono ?_); rintro e w3 ⟨rfl, hbw3⟩) | (go_at_call 20; (with_reducible refine (HPX.out _ (below_then HB1 hbw3)).mono ?_); rintro e w4 ⟨rfl, hbw4⟩) | (refine wpList_store_all rfl 33 _ _ rfl w4.heap.size 33 [] z6.toList [] (fA x).toList rfl rfl (Blk.new _ _ _) rfl (by kernel_rfl) (by simp [Value.oneCell']) ?_; intro u4 gbu4 Uu4))
  have hsu4 : Below w4.heap.size w4 u4 := (wa1 _ _).trans (Uu4.b _ (Nat.le_refl _))
  have HH2 := below_then hbw3 (below_then hbw4 hsu4)
  have HB2 := below_then HB1 HH2
  have gbx_2 := gbx_1.then_ HH2
  have gbz_2 := gbz_1.then_ HH2
  clear gbx_1 gbz_1 HB1 HH2
  obtain ⟨bu4, ebu4⟩ : ∃ b, w4.heap.size = b := ⟨_, rfl⟩
  rw [ebu4] at gbu4 ⊢
  clear ebu4 Uu4 hsu4 hbw4 
  go_cut [40] from 23 to 39 (fun v40 W => v40 = .bool false ∧ Below u4.heap.size u4 W)
  case first =>
    refine wp_region_hb (fun w' => Hid (Below u4.heap.size u4 w')) [0, 1, 2, 3, 4, 5, 6, 7, 8, 9, 10, 11, 12, 13, 14, 15] [16, 17] (by kernel_rfl) (by kernel_rfl) (by repeat (first | with_reducible refine panOk_then ?_ | with_reducible refine panOk_block ?_ | exact panOk_body)) (Lib.hid (Below.drew (Below.refl _ _))) (fun hdir hsel hpan hHeld => ?_)
    refine wpHB_take (i := 0) (oi := ⟨some 23, _, _, _, _, _⟩) hdir hsel hpan rfl (by kernel_rfl) (by kernel_rfl) (by kernel_rfl) (Or.inl ⟨by rfl, fun _ _ => by rfl⟩) (by assumption) ?_
    try simp only [Act.put, List.setIfInBounds_toArray, List.set_cons_zero, List.set_cons_succ]
    refine wpHB_take (i := 1) (oi := ⟨some 24, _, _, _, _, _⟩) (v := .bool false) hdir hsel hpan rfl (by kernel_rfl) (by kernel_rfl) (by kernel_rfl) (Or.inl ⟨by rfl, fun w hw => by go_simp⟩) (by assumption) ?_
    try simp only [Act.put, List.setIfInBounds_toArray, List.set_cons_zero, List.set_cons_succ]
    refine wpHB_take (i := 2) (oi := ⟨some 25, _, _, _, _, _⟩) hdir hsel hpan rfl (by kernel_rfl) (by kernel_rfl) (by kernel_rfl) (Or.inl ⟨by rfl, fun _ _ => by rfl⟩) (by assumption) ?_
    try simp only [Act.put, List.setIfInBounds_toArray, List.set_cons_zero, List.set_cons_succ]
    refine wpHB_take (i := 3) (oi := ⟨some 26, _, _, _, _, _⟩) hdir hsel hpan rfl (by kernel_rfl) (by kernel_rfl) (by kernel_rfl) (yieldsIf_row (by rfl) 33 _ rfl bu4 rfl 33 _ (fun w hw => (gbu4.then_ hw.out)) ⟨_, Tryd.underlying33⟩ (by kernel_rfl)) (by assumption) ?_
    try simp only [Act.put, List.setIfInBounds_toArray, List.set_cons_zero, List.set_cons_succ]
    refine wpHB_take (i := 4) (oi := ⟨some 27, _, _, _, _, _⟩) hdir hsel hpan rfl (by kernel_rfl) (by kernel_rfl) (by kernel_rfl) (yieldsIf_row (by rfl) 33 _ rfl bx rfl 33 _ (fun w hw => (gbx_2.then_ hw.out)) ⟨_, Tryd.underlying33⟩ (by kernel_rfl)) (by assumption) ?_
    try simp only [Act.put, List.setIfInBounds_toArray, List.set_cons_zero, List.set_cons_succ]
    refine wpHB_take (i := 5) (oi := ⟨some 28, _, _, _, _, _⟩) (v := .bool false) hdir hsel hpan rfl (by kernel_rfl) (by kernel_rfl) (by kernel_rfl) (Or.inl ⟨by rfl, fun w hw => by have heq := eqvF x x w; go_simp⟩) (by assumption) ?_
    try simp only [Act.put, List.setIfInBounds_toArray, List.set_cons_zero, List.set_cons_succ]
    refine wpHB_take (i := 6) (oi := ⟨some 29, _, _, _, _, _⟩) hdir hsel hpan rfl (by kernel_rfl) (by kernel_rfl) (by kernel_rfl) (Or.inl ⟨by rfl, fun _ _ => by rfl⟩) (by assumption) ?_
    try simp only [Act.put, List.setIfInBounds_toArray, List.set_cons_zero, List.set_cons_succ]
    refine wpHB_take (i := 7) (oi := ⟨some 30, _, _, _, _, _⟩) hdir hsel hpan rfl (by kernel_rfl) (by kernel_rfl) (by kernel_rfl) (Or.inl ⟨by rfl, fun _ _ => by rfl⟩) (by assumption) ?_
    try simp only [Act.put, List.setIfInBounds_toArray, List.set_cons_zero, List.set_cons_succ]
    refine wpHB_take (i := 8) (oi := ⟨some 31, _, _, _, _, _⟩) hdir hsel hpan rfl (by kernel_rfl) (by kernel_rfl) (by kernel_rfl) (yieldsIf_row (by rfl) 33 _ rfl bx rfl 33 _ (fun w hw => (gbx_2.then_ hw.out)) ⟨_, Tryd.underlying33⟩ (by kernel_rfl)) (by assumption) ?_
    try simp only [Act.put, List.setIfInBounds_toArray, List.set_cons_zero, List.set_cons_succ]
    refine wpHB_take (i := 10) (oi := ⟨some 33, _, _, _, _, _⟩) hdir hsel hpan rfl (by kernel_rfl) (by kernel_rfl) (by kernel_rfl) (yieldsIf_row (by rfl) 33 _ rfl bz rfl 33 _ (fun w hw => (gbz_2.then_ hw.out)) ⟨_, Tryd.underlying33⟩ (by kernel_rfl)) (by assumption) ?_
    try simp only [Act.put, List.setIfInBounds_toArray, List.set_cons_zero, List.set_cons_succ]
    refine wpHB_take (i := 13) (oi := ⟨some 36, _, _, _, _, _⟩) hdir hsel hpan rfl (by kernel_rfl) (by kernel_rfl) (by kernel_rfl) (yieldsIf_row (by rfl) 33 _ rfl bx rfl 33 _ (fun w hw => (gbx_2.then_ hw.out)) ⟨_, Tryd.underlying33⟩ (by kernel_rfl)) (by assumption) ?_
    try simp only [Act.put, List.setIfInBounds_toArray, List.set_cons_zero, List.set_cons_succ]
    refine wpHB_take (i := 14) (oi := ⟨some 37, _, _, _, _, _⟩) hdir hsel hpan rfl (by kernel_rfl) (by kernel_rfl) (by kernel_rfl) (yieldsIf_row (by rfl) 33 _ rfl bz rfl 33 _ (fun w hw => (gbz_2.then_ hw.out)) ⟨_, Tryd.underlying33⟩ (by kernel_rfl)) (by assumption) ?_
    try simp only [Act.put, List.setIfInBounds_toArray, List.set_cons_zero, List.set_cons_succ]
    refine wpHB_take (i := 15) (oi := ⟨some 38, _, _, _, _, _⟩) (v := .bool S) hdir hsel hpan rfl (by kernel_rfl) (by kernel_rfl) (by kernel_rfl) (Or.inl ⟨by rfl, fun w hw => by have hS2 := HS.out; rw [fac_dec] at hS2; go_simp; rw [← hS2]; clear hS2; repeat' split; all_goals simp_all⟩) (by assumption) ?_
    try simp only [Act.put, List.setIfInBounds_toArray, List.set_cons_zero, List.set_cons_succ]
    refine wpHB_ready (rs := [9]) (by kernel_rfl) (by simp) ?_
    refine AllHB.cons (by kernel_rfl) (o := ⟨some 32, _, _, _, _, _⟩) rfl (fun K hK => ?_) AllHB.nil
    go_simp
    (go_at_call 21; (with_reducible refine (HBX.out _ (below_then HB2 hHeld.out)).mono ?_); rintro e wa ⟨rfl, hba⟩)
    refine hK.out _ _ (Lib.hid (below_then hHeld.out hba)) (fun hHeld2 => ?_)
    clear hK K hHeld
    have hHeld := hHeld2
    clear hHeld2
    try simp only [Act.put, List.setIfInBounds_toArray, List.set_cons_zero, List.set_cons_succ]
    refine wpHB_ready (rs := [11]) (by kernel_rfl) (by simp) ?_
    refine AllHB.cons (by kernel_rfl) (o := ⟨some 34, _, _, _, _, _⟩) rfl (fun K hK => ?_) AllHB.nil
    go_simp
    (go_at_call 21; (with_reducible refine (HBY.out _ (below_then HB2 hHeld.out)).mono ?_); rintro e wa ⟨rfl, hba⟩)
    refine hK.out _ _ (Lib.hid (below_then hHeld.out hba)) (fun hHeld2 => ?_)
    clear hK K hHeld
    have hHeld := hHeld2
    clear hHeld2
    try simp only [Act.put, List.setIfInBounds_toArray, List.set_cons_zero, List.set_cons_succ]
    refine wpHB_take (i := 12) (oi := ⟨some 35, _, _, _, _, _⟩) (v := .bool S) hdir hsel hpan rfl (by kernel_rfl) (by kernel_rfl) (by kernel_rfl) (Or.inl ⟨by rfl, fun w hw => by go_simp⟩) (by assumption) ?_
    try simp only [Act.put, List.setIfInBounds_toArray, List.set_cons_zero, List.set_cons_succ]
    refine wpHB_tail (by kernel_rfl) (by kernel_rfl) ?_
    clear hdir hsel hpan
    simp only [opsAt, List.getElem?_toArray, List.getElem?_cons_succ, List.getElem?_cons_zero, Option.toList_some, List.cons_append, List.nil_append]
    go_wp2
    go_meet
    case rel => exact ⟨rfl, hHeld.out⟩
  obtain ⟨rfl, hb6⟩ := hcut
  obtain ⟨W6, rfl⟩ : ∃ W, W = wc := ⟨_, rfl⟩
  have HH3 := hb6
  have HB3 := below_then HB2 HH3
  have gbx_3 := gbx_2.then_ HH3
  have gbz_3 := gbz_2.then_ HH3
  have gbu4_3 := gbu4.then_ HH3
  clear gbx_2 gbz_2 gbu4 HB2 HH3
  clear tl hst
  go_upto_region 8 with (first | (go_at_call 20; (with_reducible refine (HPT.out _ HB3).mono ?_); rintro e w7 ⟨rfl, hbw7⟩) | (refine wpList_store_all rfl 33 _ _ rfl w7.heap.size 33 [] z6.toList [] (fA z).toList rfl rfl (Blk.new _ _ _) rfl (by kernel_rfl) (by simp [Value.oneCell']) ?_; intro u7 gbu7 Uu7))
  have hsu7 : Below w7.heap.size w7 u7 := (wa1 _ _).trans (Uu7.b _ (Nat.le_refl _))
  have HH4 := below_then hbw7 hsu7
  have HB4 := below_then HB3 HH4
  have gbx_4 := gbx_3.then_ HH4
  have gbz_4 := gbz_3.then_ HH4
  have gbu4_4 := gbu4_3.then_ HH4
  clear gbx_3 gbz_3 gbu4_3 HB3 HH4
  obtain ⟨bu7, ebu7⟩ : ∃ b, w7.heap.size = b := ⟨_, rfl⟩
  rw [ebu7] at gbu7 ⊢
  clear ebu7 Uu7 hsu7 hbw7 
  go_wp2_with (first | (refine wpList_row_w (by rfl) 33 _ rfl bu7 rfl 33 _ gbu7 ⟨_, Tryd.underlying33⟩ (by kernel_rfl) ?_; simp only [Act.put, List.setIfInBounds_toArray, List.set_cons_succ, List.set_cons_zero]) | (go_at_call 21; (with_reducible refine (HBZ.out _ HB4).mono ?_); rintro e w8 ⟨rfl, hbw8⟩))
  go_ret
  exact ⟨rfl, below_then HB4 hbw8⟩
set_option maxRecDepth 100000 in
set_option maxHeartbeats 6400000 in
theorem texts_none (x y : Fac) (t : List UInt8) (w : World) (hL : Lw w) (hx : x.I64) (hy : y.I64) (hl : ¬ 300 < t.length) (hz : prsF t = none) :
    Calls Tryd.prog 7 #[.agg (fA x), .agg (fA y), .string (tB t)] w fun e w' => e = .returned (.bool true) ∧ Below w.heap.size w w' := by
  have HH := Lib.hid (fun W (hb : Below w.heap.size w W) => head_any W (hL.below hb))
  have HBX := Lib.hid (fun W (hb : Below w.heap.size w W) => body_any x W (hL.below hb) hx)
  have HBY := Lib.hid (fun W (hb : Below w.heap.size w W) => body_any y W (hL.below hb) hy)
  have HPX := Lib.hid (fun W (hb : Below w.heap.size w W) => parse_any x.text W (text_len hx) (hL.below hb))
  rw [show parF x.text = x by unfold parF; rw [prsF_text hx]; rfl, show parE x.text = 0 by unfold parE; rw [prsF_text hx]; rfl] at HPX
  have HPT := Lib.hid (fun W (hb : Below w.heap.size w W) => parse_any t W (by omega) (hL.below hb))
  have tl : decide ((300 : Int) < (((tB t).size : Nat) : Int)) = false := decide_eq_false (by rw [tB_size]; omega)
  obtain ⟨S, hS⟩ : ∃ S, decide (x = y) = S := ⟨_, rfl⟩
  have HS := Lib.hid hS
  have hst : ((tB x.text).toList == (tB y.text).toList) = S := tB_same _ _ _ (by rw [← hS]; exact decide_eq_decide.2 ⟨fun h => text_inj hx hy h, fun h => by rw [h]⟩)
  clear hS
  rw [show parF t = Fac.zero by unfold parF; rw [hz]; rfl, show parE t = 6 by unfold parE; rw [hz]; rfl] at HPT
  clear hL hx hy hl hz
  go_enter Tryd.func7, Tryd.ntmps7
  go_upto_region 1 with (fail)
  refine name_wp ?_
  intro X0 hX
  have gbx : Blk X0 w.heap.size 33 (fA x) := by rw [hX]; exact (blk_at (by simp)).alloc _
  have gbz : Blk X0 (w.heap.size + 1) 33 (fA y) := by rw [hX]; exact blk_at (by simp)
  have HB0 : Below w.heap.size w X0 := by rw [hX]; (repeat (first | with_reducible assumption | with_reducible exact Below.refl _ _ | with_reducible refine below_drewN ?_ _ | with_reducible refine Below.drew ?_ | with_reducible refine below_alloc ?_ _ | with_reducible refine Below.setCell ?_ (by first | omega | (simp; done) | (simp; omega)) _ | with_reducible refine below_then ?_ (by with_reducible assumption) | (refine below_then (a := World.drew _) ?_ (by with_reducible assumption))))
  clear hX
  obtain ⟨bz, ebz⟩ : ∃ b, w.heap.size + 1 = b := ⟨_, rfl⟩
  obtain ⟨bx, ebx⟩ : ∃ b, w.heap.size = b := ⟨_, rfl⟩
  have lbx : w.heap.size ≤ bx := by omega
  have lbz : w.heap.size ≤ bz := by omega
  have nbxbz : bx ≠ bz := by omega
  rw [ebz] at gbz ⊢
  rw [ebx] at gbx ⊢
  clear ebx ebz
  go_upto_region 2 with ((go_at_call 8; (with_reducible refine (HH.out _ HB0).mono ?_); rintro e w1 ⟨rfl, hbw1⟩))
  have HH1 := hbw1
  have HB1 := below_then HB0 HH1
  have gbx_1 := gbx.then_ HH1
  have gbz_1 := gbz.then_ HH1
  clear gbx gbz HB0 HH1
  go_upto_region 4 with (fail)
  go_upto_region 5 with (first | (refine wpList_row_w (by rfl) 33 _ rfl bx rfl 33 _ gbx_1 ⟨_, Tryd.underlying33⟩ (by kernel_rfl) ?_; simp only [Act.put, List.setIfInBounds_toArray, List.set_cons_succ, List.set_cons_zero]) | (go_at_call 21; (with_reducible refine (HBX.out _ HB1).mono ?_); rintro e w3 ⟨rfl, hbw3⟩) | (go_at_call 20; (with_reducible refine (HPX.out _ (below_then HB1 hbw3)).mono ?_); rintro e w4 ⟨rfl, hbw4⟩) | (refine wpList_store_all rfl 33 _ _ rfl w4.heap.size 33 [] z6.toList [] (fA x).toList rfl rfl (Blk.new _ _ _) rfl (by kernel_rfl) (by simp [Value.oneCell']) ?_; intro u4 gbu4 Uu4))
  have hsu4 : Below w4.heap.size w4 u4 := (wa1 _ _).trans (Uu4.b _ (Nat.le_refl _))
  have HH2 := below_then hbw3 (below_then hbw4 hsu4)
  have HB2 := below_then HB1 HH2
  have gbx_2 := gbx_1.then_ HH2
  have gbz_2 := gbz_1.then_ HH2
  clear gbx_1 gbz_1 HB1 HH2
  obtain ⟨bu4, ebu4⟩ : ∃ b, w4.heap.size = b := ⟨_, rfl⟩
  rw [ebu4] at gbu4 ⊢
  clear ebu4 Uu4 hsu4 hbw4 
  go_cut [40] from 23 to 39 (fun v40 W => v40 = .bool false ∧ Below u4.heap.size u4 W)
  case first =>
    refine wp_region_hb (fun w' => Hid (Below u4.heap.size u4 w')) [0, 1, 2, 3, 4, 5, 6, 7, 8, 9, 10, 11, 12, 13, 14, 15] [16, 17] (by kernel_rfl) (by kernel_rfl) (by repeat (first | with_reducible refine panOk_then ?_ | with_reducible refine panOk_block ?_ | exact panOk_body)) (Lib.hid (Below.drew (Below.refl _ _))) (fun hdir hsel hpan hHeld => ?_)
    refine wpHB_take (i := 0) (oi := ⟨some 23, _, _, _, _, _⟩) hdir hsel hpan rfl (by kernel_rfl) (by kernel_rfl) (by kernel_rfl) (Or.inl ⟨by rfl, fun _ _ => by rfl⟩) (by assumption) ?_
    try simp only [Act.put, List.setIfInBounds_toArray, List.set_cons_zero, List.set_cons_succ]
    refine wpHB_take (i := 1) (oi := ⟨some 24, _, _, _, _, _⟩) (v := .bool false) hdir hsel hpan rfl (by kernel_rfl) (by kernel_rfl) (by kernel_rfl) (Or.inl ⟨by rfl, fun w hw => by go_simp⟩) (by assumption) ?_
    try simp only [Act.put, List.setIfInBounds_toArray, List.set_cons_zero, List.set_cons_succ]
    refine wpHB_take (i := 2) (oi := ⟨some 25, _, _, _, _, _⟩) hdir hsel hpan rfl (by kernel_rfl) (by kernel_rfl) (by kernel_rfl) (Or.inl ⟨by rfl, fun _ _ => by rfl⟩) (by assumption) ?_
    try simp only [Act.put, List.setIfInBounds_toArray, List.set_cons_zero, List.set_cons_succ]
    refine wpHB_take (i := 3) (oi := ⟨some 26, _, _, _, _, _⟩) hdir hsel hpan rfl (by kernel_rfl) (by kernel_rfl) (by kernel_rfl) (yieldsIf_row (by rfl) 33 _ rfl bu4 rfl 33 _ (fun w hw => (gbu4.then_ hw.out)) ⟨_, Tryd.underlying33⟩ (by kernel_rfl)) (by assumption) ?_
    try simp only [Act.put, List.setIfInBounds_toArray, List.set_cons_zero, List.set_cons_succ]
    refine wpHB_take (i := 4) (oi := ⟨some 27, _, _, _, _, _⟩) hdir hsel hpan rfl (by kernel_rfl) (by kernel_rfl) (by kernel_rfl) (yieldsIf_row (by rfl) 33 _ rfl bx rfl 33 _ (fun w hw => (gbx_2.then_ hw.out)) ⟨_, Tryd.underlying33⟩ (by kernel_rfl)) (by assumption) ?_
    try simp only [Act.put, List.setIfInBounds_toArray, List.set_cons_zero, List.set_cons_succ]
    refine wpHB_take (i := 5) (oi := ⟨some 28, _, _, _, _, _⟩) (v := .bool false) hdir hsel hpan rfl (by kernel_rfl) (by kernel_rfl) (by kernel_rfl) (Or.inl ⟨by rfl, fun w hw => by have heq := eqvF x x w; go_simp⟩) (by assumption) ?_
    try simp only [Act.put, List.setIfInBounds_toArray, List.set_cons_zero, List.set_cons_succ]
    refine wpHB_take (i := 6) (oi := ⟨some 29, _, _, _, _, _⟩) hdir hsel hpan rfl (by kernel_rfl) (by kernel_rfl) (by kernel_rfl) (Or.inl ⟨by rfl, fun _ _ => by rfl⟩) (by assumption) ?_
    try simp only [Act.put, List.setIfInBounds_toArray, List.set_cons_zero, List.set_cons_succ]
    refine wpHB_take (i := 7) (oi := ⟨some 30, _, _, _, _, _⟩) hdir hsel hpan rfl (by kernel_rfl) (by kernel_rfl) (by kernel_rfl) (Or.inl ⟨by rfl, fun _ _ => by rfl⟩) (by assumption) ?_
    try simp only [Act.put, List.setIfInBounds_toArray, List.set_cons_zero, List.set_cons_succ]
    refine wpHB_take (i := 8) (oi := ⟨some 31, _, _, _, _, _⟩) hdir hsel hpan rfl (by kernel_rfl) (by kernel_rfl) (by kernel_rfl) (yieldsIf_row (by rfl) 33 _ rfl bx rfl 33 _ (fun w hw => (gbx_2.then_ hw.out)) ⟨_, Tryd.underlying33⟩ (by kernel_rfl)) (by assumption) ?_
    try simp only [Act.put, List.setIfInBounds_toArray, List.set_cons_zero, List.set_cons_succ]
    refine wpHB_take (i := 10) (oi := ⟨some 33, _, _, _, _, _⟩) hdir hsel hpan rfl (by kernel_rfl) (by kernel_rfl) (by kernel_rfl) (yieldsIf_row (by rfl) 33 _ rfl bz rfl 33 _ (fun w hw => (gbz_2.then_ hw.out)) ⟨_, Tryd.underlying33⟩ (by kernel_rfl)) (by assumption) ?_
    try simp only [Act.put, List.setIfInBounds_toArray, List.set_cons_zero, List.set_cons_succ]
    refine wpHB_take (i := 13) (oi := ⟨some 36, _, _, _, _, _⟩) hdir hsel hpan rfl (by kernel_rfl) (by kernel_rfl) (by kernel_rfl) (yieldsIf_row (by rfl) 33 _ rfl bx rfl 33 _ (fun w hw => (gbx_2.then_ hw.out)) ⟨_, Tryd.underlying33⟩ (by kernel_rfl)) (by assumption) ?_
    try simp only [Act.put, List.setIfInBounds_toArray, List.set_cons_zero, List.set_cons_succ]
    refine wpHB_take (i := 14) (oi := ⟨some 37, _, _, _, _, _⟩) hdir hsel hpan rfl (by kernel_rfl) (by kernel_rfl) (by kernel_rfl) (yieldsIf_row (by rfl) 33 _ rfl bz rfl 33 _ (fun w hw => (gbz_2.then_ hw.out)) ⟨_, Tryd.underlying33⟩ (by kernel_rfl)) (by assumption) ?_
    try simp only [Act.put, List.setIfInBounds_toArray, List.set_cons_zero, List.set_cons_succ]
    refine wpHB_take (i := 15) (oi := ⟨some 38, _, _, _, _, _⟩) (v := .bool S) hdir hsel hpan rfl (by kernel_rfl) (by kernel_rfl) (by kernel_rfl) (Or.inl ⟨by rfl, fun w hw => by have hS2 := HS.out; rw [fac_dec] at hS2; go_simp; rw [← hS2]; clear hS2; repeat' split; all_goals simp_all⟩) (by assumption) ?_
    try simp only [Act.put, List.setIfInBounds_toArray, List.set_cons_zero, List.set_cons_succ]
    refine wpHB_ready (rs := [9]) (by kernel_rfl) (by simp) ?_
    refine AllHB.cons (by kernel_rfl) (o := ⟨some 32, _, _, _, _, _⟩) rfl (fun K hK => ?_) AllHB.nil
    go_simp
    (go_at_call 21; (with_reducible refine (HBX.out _ (below_then HB2 hHeld.out)).mono ?_); rintro e wa ⟨rfl, hba⟩)
    refine hK.out _ _ (Lib.hid (below_then hHeld.out hba)) (fun hHeld2 => ?_)
    clear hK K hHeld
    have hHeld := hHeld2
    clear hHeld2
    try simp only [Act.put, List.setIfInBounds_toArray, List.set_cons_zero, List.set_cons_succ]
    refine wpHB_ready (rs := [11]) (by kernel_rfl) (by simp) ?_
    refine AllHB.cons (by kernel_rfl) (o := ⟨some 34, _, _, _, _, _⟩) rfl (fun K hK => ?_) AllHB.nil
    go_simp
    (go_at_call 21; (with_reducible refine (HBY.out _ (below_then HB2 hHeld.out)).mono ?_); rintro e wa ⟨rfl, hba⟩)
    refine hK.out _ _ (Lib.hid (below_then hHeld.out hba)) (fun hHeld2 => ?_)
    clear hK K hHeld
    have hHeld := hHeld2
    clear hHeld2
    try simp only [Act.put, List.setIfInBounds_toArray, List.set_cons_zero, List.set_cons_succ]
    refine wpHB_take (i := 12) (oi := ⟨some 35, _, _, _, _, _⟩) (v := .bool S) hdir hsel hpan rfl (by kernel_rfl) (by kernel_rfl) (by kernel_rfl) (Or.inl ⟨by rfl, fun w hw => by go_simp⟩) (by assumption) ?_
    try simp only [Act.put, List.setIfInBounds_toArray, List.set_cons_zero, List.set_cons_succ]
    refine wpHB_tail (by kernel_rfl) (by kernel_rfl) ?_
    clear hdir hsel hpan
    simp only [opsAt, List.getElem?_toArray, List.getElem?_cons_succ, List.getElem?_cons_zero, Option.toList_some, List.cons_append, List.nil_append]
    go_wp2
    go_meet
    case rel => exact ⟨rfl, hHeld.out⟩
  obtain ⟨rfl, hb6⟩ := hcut
  obtain ⟨W6, rfl⟩ : ∃ W, W = wc := ⟨_, rfl⟩
  have HH3 := hb6
  have HB3 := below_then HB2 HH3
  have gbx_3 := gbx_2.then_ HH3
  have gbz_3 := gbz_2.then_ HH3
  have gbu4_3 := gbu4.then_ HH3
  clear gbx_2 gbz_2 gbu4 HB2 HH3
  clear tl hst
  go_upto_region 8 with (first | (go_at_call 20; (with_reducible refine (HPT.out _ HB3).mono ?_); rintro e w7 ⟨rfl, hbw7⟩) | (refine wpList_store_all rfl 33 _ _ rfl w7.heap.size 33 [] z6.toList [] (fA Fac.zero).toList rfl rfl (Blk.new _ _ _) rfl (by kernel_rfl) (by simp [Value.oneCell']) ?_; intro u7 gbu7 Uu7))
  have hsu7 : Below w7.heap.size w7 u7 := (wa1 _ _).trans (Uu7.b _ (Nat.le_refl _))
  have HH4 := below_then hbw7 hsu7
  have HB4 := below_then HB3 HH4
  have gbx_4 := gbx_3.then_ HH4
  have gbz_4 := gbz_3.then_ HH4
  have gbu4_4 := gbu4_3.then_ HH4
  clear gbx_3 gbz_3 gbu4_3 HB3 HH4
  obtain ⟨bu7, ebu7⟩ : ∃ b, w7.heap.size = b := ⟨_, rfl⟩
  rw [ebu7] at gbu7 ⊢
  clear ebu7 Uu7 hsu7 hbw7 
  go_wp2_with ((refine wpList_row_w (by rfl) 33 _ rfl bu7 rfl 33 _ gbu7 ⟨_, Tryd.underlying33⟩ (by kernel_rfl) ?_; simp only [Act.put, List.setIfInBounds_toArray, List.set_cons_succ, List.set_cons_zero]))
  go_ret
  exact ⟨rfl, HB4⟩
theorem texts_law (x y : Fac) (s : ByteArray) (w : World) (hL : Lw w) (hx : x.I64) (hy : y.I64) :
    Calls Tryd.prog 7 #[.agg (fA x), .agg (fA y), .string s] w fun e w' => e = .returned (.bool true) ∧ Below w.heap.size w w' := by
  obtain ⟨t, rfl⟩ : ∃ t, s = tB t := ⟨s.data.toList, by simp [tB]⟩
  by_cases hl : 300 < t.length
  · exact texts_long x y t w hL hx hy hl
  · cases hz : prsF t with
    | some z => exact texts_some x y t w hL hx hy hl z hz
    | none => exact texts_none x y t w hL hx hy hl hz
end Go.Proofs.YtemkghgcdpmlbaaDoor
