/- The walk of MergeCommutes. -/
import Derived.Test.YtcplneglfbdooaaZLc6a
namespace Go.Proofs.Ytcplneglfbdooaa
open Go.RowKit

set_option maxRecDepth 100000 in
set_option maxHeartbeats 6400000 in
theorem commutes_any (c : Con) (m : Cm) (x y : Pk) (w : World) (hc : ContW w c m) (hx : fitP w x) (hy : fitP w y) :
    Calls Try.prog 8 #[.agg (coA c m), .agg (pL x.p x.m), .agg (pL y.p y.m)] w fun e w' => e = .returned (.bool true) ∧ Below w.heap.size w w' := by
  have HH := Lib.hid (fun W => head_any W)
  cases hs : smallA c (pats [x, y]) with
  | false =>
    have HS := Lib.hid (fun W A (hb : Below w.heap.size w W) => small_two c m x y false hc hs W A hb)
    clear hc hx hy hs
    go_enter Try.func8, Try.ntmps8
    go_upto_region 1 with (fail)
    refine name_wp ?_
    intro X0 hX
    have gbc : Blk X0 w.heap.size 27 (coA c m) := by rw [hX]; exact ((blk_at (by simp)).alloc _).alloc _
    have gbp : Blk X0 (w.heap.size + 1) 49 (pL x.p x.m) := by rw [hX]; exact (blk_at (by simp)).alloc _
    have gbq : Blk X0 (w.heap.size + 2) 49 (pL y.p y.m) := by rw [hX]; exact blk_at (by simp)
    have HB0 : Below w.heap.size w X0 := by rw [hX]; (repeat (first | with_reducible assumption | with_reducible exact Below.refl _ _ | with_reducible refine below_drewN ?_ _ | with_reducible refine Below.drew ?_ | with_reducible refine below_alloc ?_ _ | with_reducible refine Below.setCell ?_ (by first | omega | (simp; done) | (simp; omega)) _ | with_reducible refine below_then ?_ (by with_reducible assumption) | (refine below_then (a := World.drew _) ?_ (by with_reducible assumption))))
    clear hX
    obtain ⟨bq, ebq⟩ : ∃ b, w.heap.size + 2 = b := ⟨_, rfl⟩
    obtain ⟨bp, ebp⟩ : ∃ b, w.heap.size + 1 = b := ⟨_, rfl⟩
    obtain ⟨bc, ebc⟩ : ∃ b, w.heap.size = b := ⟨_, rfl⟩
    have lbc : w.heap.size ≤ bc := by omega
    have lbp : w.heap.size ≤ bp := by omega
    have lbq : w.heap.size ≤ bq := by omega
    have nbcbp : bc ≠ bp := by omega
    have nbcbq : bc ≠ bq := by omega
    have nbpbq : bp ≠ bq := by omega
    rw [ebq] at gbq ⊢
    rw [ebp] at gbp ⊢
    rw [ebc] at gbc ⊢
    clear ebc ebp ebq
    go_upto_region 2 with ((go_at_call 9; (with_reducible refine (HH.out _).mono ?_); rintro e w1 ⟨rfl, hbw1⟩))
    have HH1 := hbw1
    have HB1 := below_then HB0 HH1
    have gbc_1 := gbc.then_ HH1
    have gbp_1 := gbp.then_ HH1
    have gbq_1 := gbq.then_ HH1
    clear gbc gbp gbq HB0 HH1
    go_wp2_with (first | (refine wpList_row_w (by rfl) 27 _ rfl bc rfl 27 _ gbc_1 ⟨_, Try.underlying27⟩ (by kernel_rfl) ?_; simp only [Act.put, List.setIfInBounds_toArray, List.set_cons_succ, List.set_cons_zero]) | (refine wpList_row_w (by rfl) 49 _ rfl bp rfl 49 _ gbp_1 ⟨_, Try.underlying49⟩ (by kernel_rfl) ?_; simp only [Act.put, List.setIfInBounds_toArray, List.set_cons_succ, List.set_cons_zero]) | (refine wpList_row_w (by rfl) 49 _ rfl bq rfl 49 _ gbq_1 ⟨_, Try.underlying49⟩ (by kernel_rfl) ?_; simp only [Act.put, List.setIfInBounds_toArray, List.set_cons_succ, List.set_cons_zero]) | (go_at_call 10; refine (HS.out _ _ ?hb ?hs).mono ?_; (case hb => exact HB1.trans ((wa1 _ _).mono HB1.size)); (case hs => exact seg_new2 x y rfl); rintro e w2 ⟨rfl, hbw2⟩))
    go_ret
    exact ⟨rfl, below_then (HB1.trans ((wa1 _ _).mono HB1.size)) hbw2⟩
  | true =>
  have HS := Lib.hid (fun W A (hb : Below w.heap.size w W) => small_two c m x y true hc hs W A hb)
  obtain ⟨hC, hn⟩ := smallA_con hc hs
  obtain ⟨n1, n2, n3, n4⟩ := small2 hs
  have hX := hx.patM (by omega) (by omega)
  have hY := hy.patM (by omega) (by omega)
  obtain ⟨S, eS⟩ : ∃ S, c.com x.p y.p = S := ⟨_, rfl⟩
  obtain ⟨E1, eE1⟩ : ∃ E, c.apE x.p = E := ⟨_, rfl⟩
  obtain ⟨E2, eE2⟩ : ∃ E, c.apE y.p = E := ⟨_, rfl⟩
  obtain ⟨K, eK⟩ : ∃ K, comI (c.tch x.p) (c.tch y.p) = K := ⟨_, rfl⟩
  have HC1 := Lib.hid (fun W (hb : Below w.heap.size w W) => com_at c m x.p y.p x.m y.m W S (hC.then_ hb) (hX.then_ hb) (hY.then_ hb) eS)
  have HC2 := Lib.hid (fun W (hb : Below w.heap.size w W) => com_at c m y.p x.p y.m x.m W S (hC.then_ hb) (hY.then_ hb) (hX.then_ hb) (by rw [com_symm]; exact eS))
  have HT1 := Lib.hid (fun W (hb : Below w.heap.size w W) => tch_to c m x.p x.m E1 W (hC.then_ hb) (hX.then_ hb) n1 n2 eE1)
  have HT2 := Lib.hid (fun W (hb : Below w.heap.size w W) => tch_to c m y.p y.m E2 W (hC.then_ hb) (hY.then_ hb) n3 n4 eE2)
  have HK := Lib.hid (fun l1 l2 A1 A2 k1 k2 W => com_to eK l1 l2 A1 A2 k1 k2 W)
  have hno : ¬ (E1 = 0 ∧ E2 = 0) → S = false := fun h => by
    cases hS : S with
    | false => rfl
    | true => rw [hS] at eS; have := com_apE eS; rw [eE1, eE2] at this; exact absurd this h
  have hdis : E1 = 0 → E2 = 0 → K = false → S = true := fun h1 h2 h3 => by rw [← eS]; exact disjoint_law (by rw [eE1, h1]) (by rw [eE2, h2]) hn (comI_no' (by rw [eK, h3]))
  have hmild : E1 = 0 → E2 = 0 → K = true → 3 ≤ x.p.kind → 3 ≤ y.p.kind → (S = true ↔ ¬ (x.p.kind = 5 ∧ y.p.kind = 5 ∧ x.p.days ≠ y.p.days)) := fun h1 h2 h3 h4 h5 => by rw [← eS]; exact mild_law (by rw [eE1, h1]) (by rw [eE2, h2]) h4 h5 (comI_yes' (by rw [eK, h3]))
  clear hc hx hy hs hC hn n1 n2 n3 n4 hX hY eS eE1 eE2 eK
  by_cases h1 : E1 = 0
  · by_cases h2 : E2 = 0
    · cases K with
      | false =>
        obtain rfl := hdis h1 h2 rfl
        subst h1 h2
        clear hno hdis hmild
        go_enter Try.func8, Try.ntmps8
        go_upto_region 1 with (fail)
        refine name_wp ?_
        intro X0 hX
        have gbc : Blk X0 w.heap.size 27 (coA c m) := by rw [hX]; exact ((blk_at (by simp)).alloc _).alloc _
        have gbp : Blk X0 (w.heap.size + 1) 49 (pL x.p x.m) := by rw [hX]; exact (blk_at (by simp)).alloc _
        have gbq : Blk X0 (w.heap.size + 2) 49 (pL y.p y.m) := by rw [hX]; exact blk_at (by simp)
        have HB0 : Below w.heap.size w X0 := by rw [hX]; (repeat (first | with_reducible assumption | with_reducible exact Below.refl _ _ | with_reducible refine below_drewN ?_ _ | with_reducible refine Below.drew ?_ | with_reducible refine below_alloc ?_ _ | with_reducible refine Below.setCell ?_ (by first | omega | (simp; done) | (simp; omega)) _ | with_reducible refine below_then ?_ (by with_reducible assumption) | (refine below_then (a := World.drew _) ?_ (by with_reducible assumption))))
        clear hX
        obtain ⟨bq, ebq⟩ : ∃ b, w.heap.size + 2 = b := ⟨_, rfl⟩
        obtain ⟨bp, ebp⟩ : ∃ b, w.heap.size + 1 = b := ⟨_, rfl⟩
        obtain ⟨bc, ebc⟩ : ∃ b, w.heap.size = b := ⟨_, rfl⟩
        have lbc : w.heap.size ≤ bc := by omega
        have lbp : w.heap.size ≤ bp := by omega
        have lbq : w.heap.size ≤ bq := by omega
        have nbcbp : bc ≠ bp := by omega
        have nbcbq : bc ≠ bq := by omega
        have nbpbq : bp ≠ bq := by omega
        rw [ebq] at gbq ⊢
        rw [ebp] at gbp ⊢
        rw [ebc] at gbc ⊢
        clear ebc ebp ebq
        go_upto_region 2 with ((go_at_call 9; (with_reducible refine (HH.out _).mono ?_); rintro e w1 ⟨rfl, hbw1⟩))
        have HH1 := hbw1
        have HB1 := below_then HB0 HH1
        have gbc_1 := gbc.then_ HH1
        have gbp_1 := gbp.then_ HH1
        have gbq_1 := gbq.then_ HH1
        clear gbc gbp gbq HB0 HH1
        go_upto_region 4 with (first | (refine wpList_row_w (by rfl) 27 _ rfl bc rfl 27 _ gbc_1 ⟨_, Try.underlying27⟩ (by kernel_rfl) ?_; simp only [Act.put, List.setIfInBounds_toArray, List.set_cons_succ, List.set_cons_zero]) | (refine wpList_row_w (by rfl) 49 _ rfl bp rfl 49 _ gbp_1 ⟨_, Try.underlying49⟩ (by kernel_rfl) ?_; simp only [Act.put, List.setIfInBounds_toArray, List.set_cons_succ, List.set_cons_zero]) | (refine wpList_row_w (by rfl) 49 _ rfl bq rfl 49 _ gbq_1 ⟨_, Try.underlying49⟩ (by kernel_rfl) ?_; simp only [Act.put, List.setIfInBounds_toArray, List.set_cons_succ, List.set_cons_zero]) | (go_at_call 10; refine (HS.out _ _ ?hb ?hs).mono ?_; (case hb => exact HB1.trans ((wa1 _ _).mono HB1.size)); (case hs => exact seg_new2 x y rfl); rintro e w2 ⟨rfl, hbw2⟩))
        have HH2 := below_then (wa1 _ _) hbw2
        have HB2 := below_then HB1 HH2
        have gbc_2 := gbc_1.then_ HH2
        have gbp_2 := gbp_1.then_ HH2
        have gbq_2 := gbq_1.then_ HH2
        clear gbc_1 gbp_1 gbq_1 HB1 HH2
        go_upto_region 5 with (first | (refine wpList_row_w (by rfl) 27 _ rfl bc rfl 27 _ gbc_2 ⟨_, Try.underlying27⟩ (by kernel_rfl) ?_; simp only [Act.put, List.setIfInBounds_toArray, List.set_cons_succ, List.set_cons_zero]) | (refine wpList_row_w (by rfl) 49 _ rfl bp rfl 49 _ gbp_2 ⟨_, Try.underlying49⟩ (by kernel_rfl) ?_; simp only [Act.put, List.setIfInBounds_toArray, List.set_cons_succ, List.set_cons_zero]) | (refine wpList_row_w (by rfl) 49 _ rfl bq rfl 49 _ gbq_2 ⟨_, Try.underlying49⟩ (by kernel_rfl) ?_; simp only [Act.put, List.setIfInBounds_toArray, List.set_cons_succ, List.set_cons_zero]) | (go_at_call 18; (with_reducible refine (HC1.out _ HB2).mono ?_); rintro e w3 ⟨rfl, hbw3⟩))
        have HH3 := hbw3
        have HB3 := below_then HB2 HH3
        have gbc_3 := gbc_2.then_ HH3
        have gbp_3 := gbp_2.then_ HH3
        have gbq_3 := gbq_2.then_ HH3
        clear gbc_2 gbp_2 gbq_2 HB2 HH3
        go_upto_region 7 with (first | (refine wpList_row_w (by rfl) 27 _ rfl bc rfl 27 _ gbc_3 ⟨_, Try.underlying27⟩ (by kernel_rfl) ?_; simp only [Act.put, List.setIfInBounds_toArray, List.set_cons_succ, List.set_cons_zero]) | (refine wpList_row_w (by rfl) 49 _ rfl bp rfl 49 _ gbp_3 ⟨_, Try.underlying49⟩ (by kernel_rfl) ?_; simp only [Act.put, List.setIfInBounds_toArray, List.set_cons_succ, List.set_cons_zero]) | (refine wpList_row_w (by rfl) 49 _ rfl bq rfl 49 _ gbq_3 ⟨_, Try.underlying49⟩ (by kernel_rfl) ?_; simp only [Act.put, List.setIfInBounds_toArray, List.set_cons_succ, List.set_cons_zero]) | (go_at_call 18; (with_reducible refine (HC2.out _ HB3).mono ?_); rintro e w4 ⟨rfl, hbw4⟩))
        have HH4 := hbw4
        have HB4 := below_then HB3 HH4
        have gbc_4 := gbc_3.then_ HH4
        have gbp_4 := gbp_3.then_ HH4
        have gbq_4 := gbq_3.then_ HH4
        clear gbc_3 gbp_3 gbq_3 HB3 HH4
        go_upto_region 8 with (first | (refine wpList_row_w (by rfl) 27 _ rfl bc rfl 27 _ gbc_4 ⟨_, Try.underlying27⟩ (by kernel_rfl) ?_; simp only [Act.put, List.setIfInBounds_toArray, List.set_cons_succ, List.set_cons_zero]) | (refine wpList_row_w (by rfl) 49 _ rfl bp rfl 49 _ gbp_4 ⟨_, Try.underlying49⟩ (by kernel_rfl) ?_; simp only [Act.put, List.setIfInBounds_toArray, List.set_cons_succ, List.set_cons_zero]) | (go_at_call 19; (with_reducible refine (HT1.out _ HB4).mono ?_); rintro e w5 ⟨⟨Ax, kx, lx, rfl, sx, nx, mx⟩, hbw5⟩))
        have HH5 := hbw5
        have HB5 := below_then HB4 HH5
        have gbc_5 := gbc_4.then_ HH5
        have gbp_5 := gbp_4.then_ HH5
        have gbq_5 := gbq_4.then_ HH5
        clear gbc_4 gbp_4 gbq_4 HB4 HH5
        have MX := Lib.hid mx
        clear mx
        go_upto_region 9 with (first | (refine wpList_row_w (by rfl) 27 _ rfl bc rfl 27 _ gbc_5 ⟨_, Try.underlying27⟩ (by kernel_rfl) ?_; simp only [Act.put, List.setIfInBounds_toArray, List.set_cons_succ, List.set_cons_zero]) | (refine wpList_row_w (by rfl) 49 _ rfl bq rfl 49 _ gbq_5 ⟨_, Try.underlying49⟩ (by kernel_rfl) ?_; simp only [Act.put, List.setIfInBounds_toArray, List.set_cons_succ, List.set_cons_zero]) | (go_at_call 19; (with_reducible refine (HT2.out _ HB5).mono ?_); rintro e w6 ⟨⟨Ay, ky, ly, rfl, sy, ny, my⟩, hbw6⟩))
        have HH6 := hbw6
        have HB6 := below_then HB5 HH6
        have gbc_6 := gbc_5.then_ HH6
        have gbp_6 := gbp_5.then_ HH6
        have gbq_6 := gbq_5.then_ HH6
        clear gbc_5 gbp_5 gbq_5 HB5 HH6
        have MY := Lib.hid my
        clear my
        have sx6 := Lib.hid ((sx.below hbw6).more hbw6.size)
        clear sx
        go_wp2_with ((go_at_call 20; (with_reducible refine (HK.out _ _ _ _ _ _ _ sx6.out sy nx ny (MX.out (by trivial)) (MY.out (by trivial))).mono ?_); rintro e w7 ⟨rfl, hbw7⟩))
        go_ret
        exact ⟨rfl, below_then HB6 hbw7⟩
      | true =>
      have hm := hmild h1 h2 rfl
      subst h1 h2
      clear hno hdis hmild
      by_cases hk1 : x.p.kind < 3
      · have u1 : decide (x.p.kind < 3) = true := decide_eq_true hk1
        clear hm hk1
        cases S
        all_goals
          go_enter Try.func8, Try.ntmps8
          go_upto_region 1 with (fail)
          refine name_wp ?_
          intro X0 hX
          have gbc : Blk X0 w.heap.size 27 (coA c m) := by rw [hX]; exact ((blk_at (by simp)).alloc _).alloc _
          have gbp : Blk X0 (w.heap.size + 1) 49 (pL x.p x.m) := by rw [hX]; exact (blk_at (by simp)).alloc _
          have gbq : Blk X0 (w.heap.size + 2) 49 (pL y.p y.m) := by rw [hX]; exact blk_at (by simp)
          have HB0 : Below w.heap.size w X0 := by rw [hX]; (repeat (first | with_reducible assumption | with_reducible exact Below.refl _ _ | with_reducible refine below_drewN ?_ _ | with_reducible refine Below.drew ?_ | with_reducible refine below_alloc ?_ _ | with_reducible refine Below.setCell ?_ (by first | omega | (simp; done) | (simp; omega)) _ | with_reducible refine below_then ?_ (by with_reducible assumption) | (refine below_then (a := World.drew _) ?_ (by with_reducible assumption))))
          clear hX
          obtain ⟨bq, ebq⟩ : ∃ b, w.heap.size + 2 = b := ⟨_, rfl⟩
          obtain ⟨bp, ebp⟩ : ∃ b, w.heap.size + 1 = b := ⟨_, rfl⟩
          obtain ⟨bc, ebc⟩ : ∃ b, w.heap.size = b := ⟨_, rfl⟩
          have lbc : w.heap.size ≤ bc := by omega
          have lbp : w.heap.size ≤ bp := by omega
          have lbq : w.heap.size ≤ bq := by omega
          have nbcbp : bc ≠ bp := by omega
          have nbcbq : bc ≠ bq := by omega
          have nbpbq : bp ≠ bq := by omega
          rw [ebq] at gbq ⊢
          rw [ebp] at gbp ⊢
          rw [ebc] at gbc ⊢
          clear ebc ebp ebq
          go_upto_region 2 with ((go_at_call 9; (with_reducible refine (HH.out _).mono ?_); rintro e w1 ⟨rfl, hbw1⟩))
          have HH1 := hbw1
          have HB1 := below_then HB0 HH1
          have gbc_1 := gbc.then_ HH1
          have gbp_1 := gbp.then_ HH1
          have gbq_1 := gbq.then_ HH1
          clear gbc gbp gbq HB0 HH1
          go_upto_region 4 with (first | (refine wpList_row_w (by rfl) 27 _ rfl bc rfl 27 _ gbc_1 ⟨_, Try.underlying27⟩ (by kernel_rfl) ?_; simp only [Act.put, List.setIfInBounds_toArray, List.set_cons_succ, List.set_cons_zero]) | (refine wpList_row_w (by rfl) 49 _ rfl bp rfl 49 _ gbp_1 ⟨_, Try.underlying49⟩ (by kernel_rfl) ?_; simp only [Act.put, List.setIfInBounds_toArray, List.set_cons_succ, List.set_cons_zero]) | (refine wpList_row_w (by rfl) 49 _ rfl bq rfl 49 _ gbq_1 ⟨_, Try.underlying49⟩ (by kernel_rfl) ?_; simp only [Act.put, List.setIfInBounds_toArray, List.set_cons_succ, List.set_cons_zero]) | (go_at_call 10; refine (HS.out _ _ ?hb ?hs).mono ?_; (case hb => exact HB1.trans ((wa1 _ _).mono HB1.size)); (case hs => exact seg_new2 x y rfl); rintro e w2 ⟨rfl, hbw2⟩))
          have HH2 := below_then (wa1 _ _) hbw2
          have HB2 := below_then HB1 HH2
          have gbc_2 := gbc_1.then_ HH2
          have gbp_2 := gbp_1.then_ HH2
          have gbq_2 := gbq_1.then_ HH2
          clear gbc_1 gbp_1 gbq_1 HB1 HH2
          go_upto_region 5 with (first | (refine wpList_row_w (by rfl) 27 _ rfl bc rfl 27 _ gbc_2 ⟨_, Try.underlying27⟩ (by kernel_rfl) ?_; simp only [Act.put, List.setIfInBounds_toArray, List.set_cons_succ, List.set_cons_zero]) | (refine wpList_row_w (by rfl) 49 _ rfl bp rfl 49 _ gbp_2 ⟨_, Try.underlying49⟩ (by kernel_rfl) ?_; simp only [Act.put, List.setIfInBounds_toArray, List.set_cons_succ, List.set_cons_zero]) | (refine wpList_row_w (by rfl) 49 _ rfl bq rfl 49 _ gbq_2 ⟨_, Try.underlying49⟩ (by kernel_rfl) ?_; simp only [Act.put, List.setIfInBounds_toArray, List.set_cons_succ, List.set_cons_zero]) | (go_at_call 18; (with_reducible refine (HC1.out _ HB2).mono ?_); rintro e w3 ⟨rfl, hbw3⟩))
          have HH3 := hbw3
          have HB3 := below_then HB2 HH3
          have gbc_3 := gbc_2.then_ HH3
          have gbp_3 := gbp_2.then_ HH3
          have gbq_3 := gbq_2.then_ HH3
          clear gbc_2 gbp_2 gbq_2 HB2 HH3
          go_upto_region 7 with (first | (refine wpList_row_w (by rfl) 27 _ rfl bc rfl 27 _ gbc_3 ⟨_, Try.underlying27⟩ (by kernel_rfl) ?_; simp only [Act.put, List.setIfInBounds_toArray, List.set_cons_succ, List.set_cons_zero]) | (refine wpList_row_w (by rfl) 49 _ rfl bp rfl 49 _ gbp_3 ⟨_, Try.underlying49⟩ (by kernel_rfl) ?_; simp only [Act.put, List.setIfInBounds_toArray, List.set_cons_succ, List.set_cons_zero]) | (refine wpList_row_w (by rfl) 49 _ rfl bq rfl 49 _ gbq_3 ⟨_, Try.underlying49⟩ (by kernel_rfl) ?_; simp only [Act.put, List.setIfInBounds_toArray, List.set_cons_succ, List.set_cons_zero]) | (go_at_call 18; (with_reducible refine (HC2.out _ HB3).mono ?_); rintro e w4 ⟨rfl, hbw4⟩))
          have HH4 := hbw4
          have HB4 := below_then HB3 HH4
          have gbc_4 := gbc_3.then_ HH4
          have gbp_4 := gbp_3.then_ HH4
          have gbq_4 := gbq_3.then_ HH4
          clear gbc_3 gbp_3 gbq_3 HB3 HH4
          go_upto_region 8 with (first | (refine wpList_row_w (by rfl) 27 _ rfl bc rfl 27 _ gbc_4 ⟨_, Try.underlying27⟩ (by kernel_rfl) ?_; simp only [Act.put, List.setIfInBounds_toArray, List.set_cons_succ, List.set_cons_zero]) | (refine wpList_row_w (by rfl) 49 _ rfl bp rfl 49 _ gbp_4 ⟨_, Try.underlying49⟩ (by kernel_rfl) ?_; simp only [Act.put, List.setIfInBounds_toArray, List.set_cons_succ, List.set_cons_zero]) | (go_at_call 19; (with_reducible refine (HT1.out _ HB4).mono ?_); rintro e w5 ⟨⟨Ax, kx, lx, rfl, sx, nx, mx⟩, hbw5⟩))
          have HH5 := hbw5
          have HB5 := below_then HB4 HH5
          have gbc_5 := gbc_4.then_ HH5
          have gbp_5 := gbp_4.then_ HH5
          have gbq_5 := gbq_4.then_ HH5
          clear gbc_4 gbp_4 gbq_4 HB4 HH5
          have MX := Lib.hid mx
          clear mx
          go_upto_region 9 with (first | (refine wpList_row_w (by rfl) 27 _ rfl bc rfl 27 _ gbc_5 ⟨_, Try.underlying27⟩ (by kernel_rfl) ?_; simp only [Act.put, List.setIfInBounds_toArray, List.set_cons_succ, List.set_cons_zero]) | (refine wpList_row_w (by rfl) 49 _ rfl bq rfl 49 _ gbq_5 ⟨_, Try.underlying49⟩ (by kernel_rfl) ?_; simp only [Act.put, List.setIfInBounds_toArray, List.set_cons_succ, List.set_cons_zero]) | (go_at_call 19; (with_reducible refine (HT2.out _ HB5).mono ?_); rintro e w6 ⟨⟨Ay, ky, ly, rfl, sy, ny, my⟩, hbw6⟩))
          have HH6 := hbw6
          have HB6 := below_then HB5 HH6
          have gbc_6 := gbc_5.then_ HH6
          have gbp_6 := gbp_5.then_ HH6
          have gbq_6 := gbq_5.then_ HH6
          clear gbc_5 gbp_5 gbq_5 HB5 HH6
          have MY := Lib.hid my
          clear my
          have sx6 := Lib.hid ((sx.below hbw6).more hbw6.size)
          clear sx
          go_upto_region 13 with ((go_at_call 20; (with_reducible refine (HK.out _ _ _ _ _ _ _ sx6.out sy nx ny (MX.out (by trivial)) (MY.out (by trivial))).mono ?_); rintro e w7 ⟨rfl, hbw7⟩))
          have HH7 := hbw7
          have HB7 := below_then HB6 HH7
          have gbc_7 := gbc_6.then_ HH7
          have gbp_7 := gbp_6.then_ HH7
          have gbq_7 := gbq_6.then_ HH7
          clear gbc_6 gbp_6 gbq_6 HB6 HH7
          have f0 : w7.cell? ⟨bp, 0, none⟩ = some (.int .i64 x.p.kind) := gbp_7.cell 0
          have f1 : w7.cell? ⟨bq, 0, none⟩ = some (.int .i64 y.p.kind) := gbq_7.cell 0
          have f2 : w7.cell? ⟨bp, 18, none⟩ = some (.int .i64 x.p.days) := gbp_7.cell 18
          have f3 : w7.cell? ⟨bq, 18, none⟩ = some (.int .i64 y.p.days) := gbq_7.cell 18
          go_wp2_with (fail)
          go_ret
          exact ⟨rfl, HB7⟩
      have u1 : decide (x.p.kind < 3) = false := decide_eq_false hk1
      by_cases hk2 : y.p.kind < 3
      · have u2 : decide (y.p.kind < 3) = true := decide_eq_true hk2
        clear hm hk1 hk2
        cases S
        all_goals
          go_enter Try.func8, Try.ntmps8
          go_upto_region 1 with (fail)
          refine name_wp ?_
          intro X0 hX
          have gbc : Blk X0 w.heap.size 27 (coA c m) := by rw [hX]; exact ((blk_at (by simp)).alloc _).alloc _
          have gbp : Blk X0 (w.heap.size + 1) 49 (pL x.p x.m) := by rw [hX]; exact (blk_at (by simp)).alloc _
          have gbq : Blk X0 (w.heap.size + 2) 49 (pL y.p y.m) := by rw [hX]; exact blk_at (by simp)
          have HB0 : Below w.heap.size w X0 := by rw [hX]; (repeat (first | with_reducible assumption | with_reducible exact Below.refl _ _ | with_reducible refine below_drewN ?_ _ | with_reducible refine Below.drew ?_ | with_reducible refine below_alloc ?_ _ | with_reducible refine Below.setCell ?_ (by first | omega | (simp; done) | (simp; omega)) _ | with_reducible refine below_then ?_ (by with_reducible assumption) | (refine below_then (a := World.drew _) ?_ (by with_reducible assumption))))
          clear hX
          obtain ⟨bq, ebq⟩ : ∃ b, w.heap.size + 2 = b := ⟨_, rfl⟩
          obtain ⟨bp, ebp⟩ : ∃ b, w.heap.size + 1 = b := ⟨_, rfl⟩
          obtain ⟨bc, ebc⟩ : ∃ b, w.heap.size = b := ⟨_, rfl⟩
          have lbc : w.heap.size ≤ bc := by omega
          have lbp : w.heap.size ≤ bp := by omega
          have lbq : w.heap.size ≤ bq := by omega
          have nbcbp : bc ≠ bp := by omega
          have nbcbq : bc ≠ bq := by omega
          have nbpbq : bp ≠ bq := by omega
          rw [ebq] at gbq ⊢
          rw [ebp] at gbp ⊢
          rw [ebc] at gbc ⊢
          clear ebc ebp ebq
          go_upto_region 2 with ((go_at_call 9; (with_reducible refine (HH.out _).mono ?_); rintro e w1 ⟨rfl, hbw1⟩))
          have HH1 := hbw1
          have HB1 := below_then HB0 HH1
          have gbc_1 := gbc.then_ HH1
          have gbp_1 := gbp.then_ HH1
          have gbq_1 := gbq.then_ HH1
          clear gbc gbp gbq HB0 HH1
          go_upto_region 4 with (first | (refine wpList_row_w (by rfl) 27 _ rfl bc rfl 27 _ gbc_1 ⟨_, Try.underlying27⟩ (by kernel_rfl) ?_; simp only [Act.put, List.setIfInBounds_toArray, List.set_cons_succ, List.set_cons_zero]) | (refine wpList_row_w (by rfl) 49 _ rfl bp rfl 49 _ gbp_1 ⟨_, Try.underlying49⟩ (by kernel_rfl) ?_; simp only [Act.put, List.setIfInBounds_toArray, List.set_cons_succ, List.set_cons_zero]) | (refine wpList_row_w (by rfl) 49 _ rfl bq rfl 49 _ gbq_1 ⟨_, Try.underlying49⟩ (by kernel_rfl) ?_; simp only [Act.put, List.setIfInBounds_toArray, List.set_cons_succ, List.set_cons_zero]) | (go_at_call 10; refine (HS.out _ _ ?hb ?hs).mono ?_; (case hb => exact HB1.trans ((wa1 _ _).mono HB1.size)); (case hs => exact seg_new2 x y rfl); rintro e w2 ⟨rfl, hbw2⟩))
          have HH2 := below_then (wa1 _ _) hbw2
          have HB2 := below_then HB1 HH2
          have gbc_2 := gbc_1.then_ HH2
          have gbp_2 := gbp_1.then_ HH2
          have gbq_2 := gbq_1.then_ HH2
          clear gbc_1 gbp_1 gbq_1 HB1 HH2
          go_upto_region 5 with (first | (refine wpList_row_w (by rfl) 27 _ rfl bc rfl 27 _ gbc_2 ⟨_, Try.underlying27⟩ (by kernel_rfl) ?_; simp only [Act.put, List.setIfInBounds_toArray, List.set_cons_succ, List.set_cons_zero]) | (refine wpList_row_w (by rfl) 49 _ rfl bp rfl 49 _ gbp_2 ⟨_, Try.underlying49⟩ (by kernel_rfl) ?_; simp only [Act.put, List.setIfInBounds_toArray, List.set_cons_succ, List.set_cons_zero]) | (refine wpList_row_w (by rfl) 49 _ rfl bq rfl 49 _ gbq_2 ⟨_, Try.underlying49⟩ (by kernel_rfl) ?_; simp only [Act.put, List.setIfInBounds_toArray, List.set_cons_succ, List.set_cons_zero]) | (go_at_call 18; (with_reducible refine (HC1.out _ HB2).mono ?_); rintro e w3 ⟨rfl, hbw3⟩))
          have HH3 := hbw3
          have HB3 := below_then HB2 HH3
          have gbc_3 := gbc_2.then_ HH3
          have gbp_3 := gbp_2.then_ HH3
          have gbq_3 := gbq_2.then_ HH3
          clear gbc_2 gbp_2 gbq_2 HB2 HH3
          go_upto_region 7 with (first | (refine wpList_row_w (by rfl) 27 _ rfl bc rfl 27 _ gbc_3 ⟨_, Try.underlying27⟩ (by kernel_rfl) ?_; simp only [Act.put, List.setIfInBounds_toArray, List.set_cons_succ, List.set_cons_zero]) | (refine wpList_row_w (by rfl) 49 _ rfl bp rfl 49 _ gbp_3 ⟨_, Try.underlying49⟩ (by kernel_rfl) ?_; simp only [Act.put, List.setIfInBounds_toArray, List.set_cons_succ, List.set_cons_zero]) | (refine wpList_row_w (by rfl) 49 _ rfl bq rfl 49 _ gbq_3 ⟨_, Try.underlying49⟩ (by kernel_rfl) ?_; simp only [Act.put, List.setIfInBounds_toArray, List.set_cons_succ, List.set_cons_zero]) | (go_at_call 18; (with_reducible refine (HC2.out _ HB3).mono ?_); rintro e w4 ⟨rfl, hbw4⟩))
          have HH4 := hbw4
          have HB4 := below_then HB3 HH4
          have gbc_4 := gbc_3.then_ HH4
          have gbp_4 := gbp_3.then_ HH4
          have gbq_4 := gbq_3.then_ HH4
          clear gbc_3 gbp_3 gbq_3 HB3 HH4
          go_upto_region 8 with (first | (refine wpList_row_w (by rfl) 27 _ rfl bc rfl 27 _ gbc_4 ⟨_, Try.underlying27⟩ (by kernel_rfl) ?_; simp only [Act.put, List.setIfInBounds_toArray, List.set_cons_succ, List.set_cons_zero]) | (refine wpList_row_w (by rfl) 49 _ rfl bp rfl 49 _ gbp_4 ⟨_, Try.underlying49⟩ (by kernel_rfl) ?_; simp only [Act.put, List.setIfInBounds_toArray, List.set_cons_succ, List.set_cons_zero]) | (go_at_call 19; (with_reducible refine (HT1.out _ HB4).mono ?_); rintro e w5 ⟨⟨Ax, kx, lx, rfl, sx, nx, mx⟩, hbw5⟩))
          have HH5 := hbw5
          have HB5 := below_then HB4 HH5
          have gbc_5 := gbc_4.then_ HH5
          have gbp_5 := gbp_4.then_ HH5
          have gbq_5 := gbq_4.then_ HH5
          clear gbc_4 gbp_4 gbq_4 HB4 HH5
          have MX := Lib.hid mx
          clear mx
          go_upto_region 9 with (first | (refine wpList_row_w (by rfl) 27 _ rfl bc rfl 27 _ gbc_5 ⟨_, Try.underlying27⟩ (by kernel_rfl) ?_; simp only [Act.put, List.setIfInBounds_toArray, List.set_cons_succ, List.set_cons_zero]) | (refine wpList_row_w (by rfl) 49 _ rfl bq rfl 49 _ gbq_5 ⟨_, Try.underlying49⟩ (by kernel_rfl) ?_; simp only [Act.put, List.setIfInBounds_toArray, List.set_cons_succ, List.set_cons_zero]) | (go_at_call 19; (with_reducible refine (HT2.out _ HB5).mono ?_); rintro e w6 ⟨⟨Ay, ky, ly, rfl, sy, ny, my⟩, hbw6⟩))
          have HH6 := hbw6
          have HB6 := below_then HB5 HH6
          have gbc_6 := gbc_5.then_ HH6
          have gbp_6 := gbp_5.then_ HH6
          have gbq_6 := gbq_5.then_ HH6
          clear gbc_5 gbp_5 gbq_5 HB5 HH6
          have MY := Lib.hid my
          clear my
          have sx6 := Lib.hid ((sx.below hbw6).more hbw6.size)
          clear sx
          go_upto_region 13 with ((go_at_call 20; (with_reducible refine (HK.out _ _ _ _ _ _ _ sx6.out sy nx ny (MX.out (by trivial)) (MY.out (by trivial))).mono ?_); rintro e w7 ⟨rfl, hbw7⟩))
          have HH7 := hbw7
          have HB7 := below_then HB6 HH7
          have gbc_7 := gbc_6.then_ HH7
          have gbp_7 := gbp_6.then_ HH7
          have gbq_7 := gbq_6.then_ HH7
          clear gbc_6 gbp_6 gbq_6 HB6 HH7
          have f0 : w7.cell? ⟨bp, 0, none⟩ = some (.int .i64 x.p.kind) := gbp_7.cell 0
          have f1 : w7.cell? ⟨bq, 0, none⟩ = some (.int .i64 y.p.kind) := gbq_7.cell 0
          have f2 : w7.cell? ⟨bp, 18, none⟩ = some (.int .i64 x.p.days) := gbp_7.cell 18
          have f3 : w7.cell? ⟨bq, 18, none⟩ = some (.int .i64 y.p.days) := gbq_7.cell 18
          go_wp2_with (fail)
          go_ret
          exact ⟨rfl, HB7⟩
      have u2 : decide (y.p.kind < 3) = false := decide_eq_false hk2
      have hm2 := hm (by omega) (by omega)
      clear hm hk1 hk2
      by_cases k5 : x.p.kind = 5
      · have u3 : (x.p.kind != 5) = false := by rw [bne_eq_false_iff_eq]; exact k5
        by_cases l5 : y.p.kind = 5
        · have u4 : (y.p.kind != 5) = false := by rw [bne_eq_false_iff_eq]; exact l5
          by_cases hd : x.p.days = y.p.days
          · have u5 : (x.p.days == y.p.days) = true := by rw [beq_iff_eq]; exact hd
            obtain rfl : S = true := hm2.2 (fun h => h.2.2 hd)
            clear hm2 k5 l5 hd
            go_enter Try.func8, Try.ntmps8
            go_upto_region 1 with (fail)
            refine name_wp ?_
            intro X0 hX
            have gbc : Blk X0 w.heap.size 27 (coA c m) := by rw [hX]; exact ((blk_at (by simp)).alloc _).alloc _
            have gbp : Blk X0 (w.heap.size + 1) 49 (pL x.p x.m) := by rw [hX]; exact (blk_at (by simp)).alloc _
            have gbq : Blk X0 (w.heap.size + 2) 49 (pL y.p y.m) := by rw [hX]; exact blk_at (by simp)
            have HB0 : Below w.heap.size w X0 := by rw [hX]; (repeat (first | with_reducible assumption | with_reducible exact Below.refl _ _ | with_reducible refine below_drewN ?_ _ | with_reducible refine Below.drew ?_ | with_reducible refine below_alloc ?_ _ | with_reducible refine Below.setCell ?_ (by first | omega | (simp; done) | (simp; omega)) _ | with_reducible refine below_then ?_ (by with_reducible assumption) | (refine below_then (a := World.drew _) ?_ (by with_reducible assumption))))
            clear hX
            obtain ⟨bq, ebq⟩ : ∃ b, w.heap.size + 2 = b := ⟨_, rfl⟩
            obtain ⟨bp, ebp⟩ : ∃ b, w.heap.size + 1 = b := ⟨_, rfl⟩
            obtain ⟨bc, ebc⟩ : ∃ b, w.heap.size = b := ⟨_, rfl⟩
            have lbc : w.heap.size ≤ bc := by omega
            have lbp : w.heap.size ≤ bp := by omega
            have lbq : w.heap.size ≤ bq := by omega
            have nbcbp : bc ≠ bp := by omega
            have nbcbq : bc ≠ bq := by omega
            have nbpbq : bp ≠ bq := by omega
            rw [ebq] at gbq ⊢
            rw [ebp] at gbp ⊢
            rw [ebc] at gbc ⊢
            clear ebc ebp ebq
            go_upto_region 2 with ((go_at_call 9; (with_reducible refine (HH.out _).mono ?_); rintro e w1 ⟨rfl, hbw1⟩))
            have HH1 := hbw1
            have HB1 := below_then HB0 HH1
            have gbc_1 := gbc.then_ HH1
            have gbp_1 := gbp.then_ HH1
            have gbq_1 := gbq.then_ HH1
            clear gbc gbp gbq HB0 HH1
            go_upto_region 4 with (first | (refine wpList_row_w (by rfl) 27 _ rfl bc rfl 27 _ gbc_1 ⟨_, Try.underlying27⟩ (by kernel_rfl) ?_; simp only [Act.put, List.setIfInBounds_toArray, List.set_cons_succ, List.set_cons_zero]) | (refine wpList_row_w (by rfl) 49 _ rfl bp rfl 49 _ gbp_1 ⟨_, Try.underlying49⟩ (by kernel_rfl) ?_; simp only [Act.put, List.setIfInBounds_toArray, List.set_cons_succ, List.set_cons_zero]) | (refine wpList_row_w (by rfl) 49 _ rfl bq rfl 49 _ gbq_1 ⟨_, Try.underlying49⟩ (by kernel_rfl) ?_; simp only [Act.put, List.setIfInBounds_toArray, List.set_cons_succ, List.set_cons_zero]) | (go_at_call 10; refine (HS.out _ _ ?hb ?hs).mono ?_; (case hb => exact HB1.trans ((wa1 _ _).mono HB1.size)); (case hs => exact seg_new2 x y rfl); rintro e w2 ⟨rfl, hbw2⟩))
            have HH2 := below_then (wa1 _ _) hbw2
            have HB2 := below_then HB1 HH2
            have gbc_2 := gbc_1.then_ HH2
            have gbp_2 := gbp_1.then_ HH2
            have gbq_2 := gbq_1.then_ HH2
            clear gbc_1 gbp_1 gbq_1 HB1 HH2
            go_upto_region 5 with (first | (refine wpList_row_w (by rfl) 27 _ rfl bc rfl 27 _ gbc_2 ⟨_, Try.underlying27⟩ (by kernel_rfl) ?_; simp only [Act.put, List.setIfInBounds_toArray, List.set_cons_succ, List.set_cons_zero]) | (refine wpList_row_w (by rfl) 49 _ rfl bp rfl 49 _ gbp_2 ⟨_, Try.underlying49⟩ (by kernel_rfl) ?_; simp only [Act.put, List.setIfInBounds_toArray, List.set_cons_succ, List.set_cons_zero]) | (refine wpList_row_w (by rfl) 49 _ rfl bq rfl 49 _ gbq_2 ⟨_, Try.underlying49⟩ (by kernel_rfl) ?_; simp only [Act.put, List.setIfInBounds_toArray, List.set_cons_succ, List.set_cons_zero]) | (go_at_call 18; (with_reducible refine (HC1.out _ HB2).mono ?_); rintro e w3 ⟨rfl, hbw3⟩))
            have HH3 := hbw3
            have HB3 := below_then HB2 HH3
            have gbc_3 := gbc_2.then_ HH3
            have gbp_3 := gbp_2.then_ HH3
            have gbq_3 := gbq_2.then_ HH3
            clear gbc_2 gbp_2 gbq_2 HB2 HH3
            go_upto_region 7 with (first | (refine wpList_row_w (by rfl) 27 _ rfl bc rfl 27 _ gbc_3 ⟨_, Try.underlying27⟩ (by kernel_rfl) ?_; simp only [Act.put, List.setIfInBounds_toArray, List.set_cons_succ, List.set_cons_zero]) | (refine wpList_row_w (by rfl) 49 _ rfl bp rfl 49 _ gbp_3 ⟨_, Try.underlying49⟩ (by kernel_rfl) ?_; simp only [Act.put, List.setIfInBounds_toArray, List.set_cons_succ, List.set_cons_zero]) | (refine wpList_row_w (by rfl) 49 _ rfl bq rfl 49 _ gbq_3 ⟨_, Try.underlying49⟩ (by kernel_rfl) ?_; simp only [Act.put, List.setIfInBounds_toArray, List.set_cons_succ, List.set_cons_zero]) | (go_at_call 18; (with_reducible refine (HC2.out _ HB3).mono ?_); rintro e w4 ⟨rfl, hbw4⟩))
            have HH4 := hbw4
            have HB4 := below_then HB3 HH4
            have gbc_4 := gbc_3.then_ HH4
            have gbp_4 := gbp_3.then_ HH4
            have gbq_4 := gbq_3.then_ HH4
            clear gbc_3 gbp_3 gbq_3 HB3 HH4
            go_upto_region 8 with (first | (refine wpList_row_w (by rfl) 27 _ rfl bc rfl 27 _ gbc_4 ⟨_, Try.underlying27⟩ (by kernel_rfl) ?_; simp only [Act.put, List.setIfInBounds_toArray, List.set_cons_succ, List.set_cons_zero]) | (refine wpList_row_w (by rfl) 49 _ rfl bp rfl 49 _ gbp_4 ⟨_, Try.underlying49⟩ (by kernel_rfl) ?_; simp only [Act.put, List.setIfInBounds_toArray, List.set_cons_succ, List.set_cons_zero]) | (go_at_call 19; (with_reducible refine (HT1.out _ HB4).mono ?_); rintro e w5 ⟨⟨Ax, kx, lx, rfl, sx, nx, mx⟩, hbw5⟩))
            have HH5 := hbw5
            have HB5 := below_then HB4 HH5
            have gbc_5 := gbc_4.then_ HH5
            have gbp_5 := gbp_4.then_ HH5
            have gbq_5 := gbq_4.then_ HH5
            clear gbc_4 gbp_4 gbq_4 HB4 HH5
            have MX := Lib.hid mx
            clear mx
            go_upto_region 9 with (first | (refine wpList_row_w (by rfl) 27 _ rfl bc rfl 27 _ gbc_5 ⟨_, Try.underlying27⟩ (by kernel_rfl) ?_; simp only [Act.put, List.setIfInBounds_toArray, List.set_cons_succ, List.set_cons_zero]) | (refine wpList_row_w (by rfl) 49 _ rfl bq rfl 49 _ gbq_5 ⟨_, Try.underlying49⟩ (by kernel_rfl) ?_; simp only [Act.put, List.setIfInBounds_toArray, List.set_cons_succ, List.set_cons_zero]) | (go_at_call 19; (with_reducible refine (HT2.out _ HB5).mono ?_); rintro e w6 ⟨⟨Ay, ky, ly, rfl, sy, ny, my⟩, hbw6⟩))
            have HH6 := hbw6
            have HB6 := below_then HB5 HH6
            have gbc_6 := gbc_5.then_ HH6
            have gbp_6 := gbp_5.then_ HH6
            have gbq_6 := gbq_5.then_ HH6
            clear gbc_5 gbp_5 gbq_5 HB5 HH6
            have MY := Lib.hid my
            clear my
            have sx6 := Lib.hid ((sx.below hbw6).more hbw6.size)
            clear sx
            go_upto_region 13 with ((go_at_call 20; (with_reducible refine (HK.out _ _ _ _ _ _ _ sx6.out sy nx ny (MX.out (by trivial)) (MY.out (by trivial))).mono ?_); rintro e w7 ⟨rfl, hbw7⟩))
            have HH7 := hbw7
            have HB7 := below_then HB6 HH7
            have gbc_7 := gbc_6.then_ HH7
            have gbp_7 := gbp_6.then_ HH7
            have gbq_7 := gbq_6.then_ HH7
            clear gbc_6 gbp_6 gbq_6 HB6 HH7
            have f0 : w7.cell? ⟨bp, 0, none⟩ = some (.int .i64 x.p.kind) := gbp_7.cell 0
            have f1 : w7.cell? ⟨bq, 0, none⟩ = some (.int .i64 y.p.kind) := gbq_7.cell 0
            have f2 : w7.cell? ⟨bp, 18, none⟩ = some (.int .i64 x.p.days) := gbp_7.cell 18
            have f3 : w7.cell? ⟨bq, 18, none⟩ = some (.int .i64 y.p.days) := gbq_7.cell 18
            go_wp2_with (fail)
            go_ret
            exact ⟨rfl, HB7⟩
          · have u5 : (x.p.days == y.p.days) = false := by rw [beq_eq_false_iff_ne]; exact hd
            obtain rfl : S = false := Bool.eq_false_iff.2 fun h => hm2.1 h ⟨k5, l5, hd⟩
            clear hm2 k5 l5 hd
            go_enter Try.func8, Try.ntmps8
            go_upto_region 1 with (fail)
            refine name_wp ?_
            intro X0 hX
            have gbc : Blk X0 w.heap.size 27 (coA c m) := by rw [hX]; exact ((blk_at (by simp)).alloc _).alloc _
            have gbp : Blk X0 (w.heap.size + 1) 49 (pL x.p x.m) := by rw [hX]; exact (blk_at (by simp)).alloc _
            have gbq : Blk X0 (w.heap.size + 2) 49 (pL y.p y.m) := by rw [hX]; exact blk_at (by simp)
            have HB0 : Below w.heap.size w X0 := by rw [hX]; (repeat (first | with_reducible assumption | with_reducible exact Below.refl _ _ | with_reducible refine below_drewN ?_ _ | with_reducible refine Below.drew ?_ | with_reducible refine below_alloc ?_ _ | with_reducible refine Below.setCell ?_ (by first | omega | (simp; done) | (simp; omega)) _ | with_reducible refine below_then ?_ (by with_reducible assumption) | (refine below_then (a := World.drew _) ?_ (by with_reducible assumption))))
            clear hX
            obtain ⟨bq, ebq⟩ : ∃ b, w.heap.size + 2 = b := ⟨_, rfl⟩
            obtain ⟨bp, ebp⟩ : ∃ b, w.heap.size + 1 = b := ⟨_, rfl⟩
            obtain ⟨bc, ebc⟩ : ∃ b, w.heap.size = b := ⟨_, rfl⟩
            have lbc : w.heap.size ≤ bc := by omega
            have lbp : w.heap.size ≤ bp := by omega
            have lbq : w.heap.size ≤ bq := by omega
            have nbcbp : bc ≠ bp := by omega
            have nbcbq : bc ≠ bq := by omega
            have nbpbq : bp ≠ bq := by omega
            rw [ebq] at gbq ⊢
            rw [ebp] at gbp ⊢
            rw [ebc] at gbc ⊢
            clear ebc ebp ebq
            go_upto_region 2 with ((go_at_call 9; (with_reducible refine (HH.out _).mono ?_); rintro e w1 ⟨rfl, hbw1⟩))
            have HH1 := hbw1
            have HB1 := below_then HB0 HH1
            have gbc_1 := gbc.then_ HH1
            have gbp_1 := gbp.then_ HH1
            have gbq_1 := gbq.then_ HH1
            clear gbc gbp gbq HB0 HH1
            go_upto_region 4 with (first | (refine wpList_row_w (by rfl) 27 _ rfl bc rfl 27 _ gbc_1 ⟨_, Try.underlying27⟩ (by kernel_rfl) ?_; simp only [Act.put, List.setIfInBounds_toArray, List.set_cons_succ, List.set_cons_zero]) | (refine wpList_row_w (by rfl) 49 _ rfl bp rfl 49 _ gbp_1 ⟨_, Try.underlying49⟩ (by kernel_rfl) ?_; simp only [Act.put, List.setIfInBounds_toArray, List.set_cons_succ, List.set_cons_zero]) | (refine wpList_row_w (by rfl) 49 _ rfl bq rfl 49 _ gbq_1 ⟨_, Try.underlying49⟩ (by kernel_rfl) ?_; simp only [Act.put, List.setIfInBounds_toArray, List.set_cons_succ, List.set_cons_zero]) | (go_at_call 10; refine (HS.out _ _ ?hb ?hs).mono ?_; (case hb => exact HB1.trans ((wa1 _ _).mono HB1.size)); (case hs => exact seg_new2 x y rfl); rintro e w2 ⟨rfl, hbw2⟩))
            have HH2 := below_then (wa1 _ _) hbw2
            have HB2 := below_then HB1 HH2
            have gbc_2 := gbc_1.then_ HH2
            have gbp_2 := gbp_1.then_ HH2
            have gbq_2 := gbq_1.then_ HH2
            clear gbc_1 gbp_1 gbq_1 HB1 HH2
            go_upto_region 5 with (first | (refine wpList_row_w (by rfl) 27 _ rfl bc rfl 27 _ gbc_2 ⟨_, Try.underlying27⟩ (by kernel_rfl) ?_; simp only [Act.put, List.setIfInBounds_toArray, List.set_cons_succ, List.set_cons_zero]) | (refine wpList_row_w (by rfl) 49 _ rfl bp rfl 49 _ gbp_2 ⟨_, Try.underlying49⟩ (by kernel_rfl) ?_; simp only [Act.put, List.setIfInBounds_toArray, List.set_cons_succ, List.set_cons_zero]) | (refine wpList_row_w (by rfl) 49 _ rfl bq rfl 49 _ gbq_2 ⟨_, Try.underlying49⟩ (by kernel_rfl) ?_; simp only [Act.put, List.setIfInBounds_toArray, List.set_cons_succ, List.set_cons_zero]) | (go_at_call 18; (with_reducible refine (HC1.out _ HB2).mono ?_); rintro e w3 ⟨rfl, hbw3⟩))
            have HH3 := hbw3
            have HB3 := below_then HB2 HH3
            have gbc_3 := gbc_2.then_ HH3
            have gbp_3 := gbp_2.then_ HH3
            have gbq_3 := gbq_2.then_ HH3
            clear gbc_2 gbp_2 gbq_2 HB2 HH3
            go_upto_region 7 with (first | (refine wpList_row_w (by rfl) 27 _ rfl bc rfl 27 _ gbc_3 ⟨_, Try.underlying27⟩ (by kernel_rfl) ?_; simp only [Act.put, List.setIfInBounds_toArray, List.set_cons_succ, List.set_cons_zero]) | (refine wpList_row_w (by rfl) 49 _ rfl bp rfl 49 _ gbp_3 ⟨_, Try.underlying49⟩ (by kernel_rfl) ?_; simp only [Act.put, List.setIfInBounds_toArray, List.set_cons_succ, List.set_cons_zero]) | (refine wpList_row_w (by rfl) 49 _ rfl bq rfl 49 _ gbq_3 ⟨_, Try.underlying49⟩ (by kernel_rfl) ?_; simp only [Act.put, List.setIfInBounds_toArray, List.set_cons_succ, List.set_cons_zero]) | (go_at_call 18; (with_reducible refine (HC2.out _ HB3).mono ?_); rintro e w4 ⟨rfl, hbw4⟩))
            have HH4 := hbw4
            have HB4 := below_then HB3 HH4
            have gbc_4 := gbc_3.then_ HH4
            have gbp_4 := gbp_3.then_ HH4
            have gbq_4 := gbq_3.then_ HH4
            clear gbc_3 gbp_3 gbq_3 HB3 HH4
            go_upto_region 8 with (first | (refine wpList_row_w (by rfl) 27 _ rfl bc rfl 27 _ gbc_4 ⟨_, Try.underlying27⟩ (by kernel_rfl) ?_; simp only [Act.put, List.setIfInBounds_toArray, List.set_cons_succ, List.set_cons_zero]) | (refine wpList_row_w (by rfl) 49 _ rfl bp rfl 49 _ gbp_4 ⟨_, Try.underlying49⟩ (by kernel_rfl) ?_; simp only [Act.put, List.setIfInBounds_toArray, List.set_cons_succ, List.set_cons_zero]) | (go_at_call 19; (with_reducible refine (HT1.out _ HB4).mono ?_); rintro e w5 ⟨⟨Ax, kx, lx, rfl, sx, nx, mx⟩, hbw5⟩))
            have HH5 := hbw5
            have HB5 := below_then HB4 HH5
            have gbc_5 := gbc_4.then_ HH5
            have gbp_5 := gbp_4.then_ HH5
            have gbq_5 := gbq_4.then_ HH5
            clear gbc_4 gbp_4 gbq_4 HB4 HH5
            have MX := Lib.hid mx
            clear mx
            go_upto_region 9 with (first | (refine wpList_row_w (by rfl) 27 _ rfl bc rfl 27 _ gbc_5 ⟨_, Try.underlying27⟩ (by kernel_rfl) ?_; simp only [Act.put, List.setIfInBounds_toArray, List.set_cons_succ, List.set_cons_zero]) | (refine wpList_row_w (by rfl) 49 _ rfl bq rfl 49 _ gbq_5 ⟨_, Try.underlying49⟩ (by kernel_rfl) ?_; simp only [Act.put, List.setIfInBounds_toArray, List.set_cons_succ, List.set_cons_zero]) | (go_at_call 19; (with_reducible refine (HT2.out _ HB5).mono ?_); rintro e w6 ⟨⟨Ay, ky, ly, rfl, sy, ny, my⟩, hbw6⟩))
            have HH6 := hbw6
            have HB6 := below_then HB5 HH6
            have gbc_6 := gbc_5.then_ HH6
            have gbp_6 := gbp_5.then_ HH6
            have gbq_6 := gbq_5.then_ HH6
            clear gbc_5 gbp_5 gbq_5 HB5 HH6
            have MY := Lib.hid my
            clear my
            have sx6 := Lib.hid ((sx.below hbw6).more hbw6.size)
            clear sx
            go_upto_region 13 with ((go_at_call 20; (with_reducible refine (HK.out _ _ _ _ _ _ _ sx6.out sy nx ny (MX.out (by trivial)) (MY.out (by trivial))).mono ?_); rintro e w7 ⟨rfl, hbw7⟩))
            have HH7 := hbw7
            have HB7 := below_then HB6 HH7
            have gbc_7 := gbc_6.then_ HH7
            have gbp_7 := gbp_6.then_ HH7
            have gbq_7 := gbq_6.then_ HH7
            clear gbc_6 gbp_6 gbq_6 HB6 HH7
            have f0 : w7.cell? ⟨bp, 0, none⟩ = some (.int .i64 x.p.kind) := gbp_7.cell 0
            have f1 : w7.cell? ⟨bq, 0, none⟩ = some (.int .i64 y.p.kind) := gbq_7.cell 0
            have f2 : w7.cell? ⟨bp, 18, none⟩ = some (.int .i64 x.p.days) := gbp_7.cell 18
            have f3 : w7.cell? ⟨bq, 18, none⟩ = some (.int .i64 y.p.days) := gbq_7.cell 18
            go_wp2_with (fail)
            go_ret
            exact ⟨rfl, HB7⟩
        · have u4 : (y.p.kind != 5) = true := by rw [bne_iff_ne]; exact l5
          obtain rfl : S = true := hm2.2 (fun h => l5 h.2.1)
          clear hm2 k5 l5
          go_enter Try.func8, Try.ntmps8
          go_upto_region 1 with (fail)
          refine name_wp ?_
          intro X0 hX
          have gbc : Blk X0 w.heap.size 27 (coA c m) := by rw [hX]; exact ((blk_at (by simp)).alloc _).alloc _
          have gbp : Blk X0 (w.heap.size + 1) 49 (pL x.p x.m) := by rw [hX]; exact (blk_at (by simp)).alloc _
          have gbq : Blk X0 (w.heap.size + 2) 49 (pL y.p y.m) := by rw [hX]; exact blk_at (by simp)
          have HB0 : Below w.heap.size w X0 := by rw [hX]; (repeat (first | with_reducible assumption | with_reducible exact Below.refl _ _ | with_reducible refine below_drewN ?_ _ | with_reducible refine Below.drew ?_ | with_reducible refine below_alloc ?_ _ | with_reducible refine Below.setCell ?_ (by first | omega | (simp; done) | (simp; omega)) _ | with_reducible refine below_then ?_ (by with_reducible assumption) | (refine below_then (a := World.drew _) ?_ (by with_reducible assumption))))
          clear hX
          obtain ⟨bq, ebq⟩ : ∃ b, w.heap.size + 2 = b := ⟨_, rfl⟩
          obtain ⟨bp, ebp⟩ : ∃ b, w.heap.size + 1 = b := ⟨_, rfl⟩
          obtain ⟨bc, ebc⟩ : ∃ b, w.heap.size = b := ⟨_, rfl⟩
          have lbc : w.heap.size ≤ bc := by omega
          have lbp : w.heap.size ≤ bp := by omega
          have lbq : w.heap.size ≤ bq := by omega
          have nbcbp : bc ≠ bp := by omega
          have nbcbq : bc ≠ bq := by omega
          have nbpbq : bp ≠ bq := by omega
          rw [ebq] at gbq ⊢
          rw [ebp] at gbp ⊢
          rw [ebc] at gbc ⊢
          clear ebc ebp ebq
          go_upto_region 2 with ((go_at_call 9; (with_reducible refine (HH.out _).mono ?_); rintro e w1 ⟨rfl, hbw1⟩))
          have HH1 := hbw1
          have HB1 := below_then HB0 HH1
          have gbc_1 := gbc.then_ HH1
          have gbp_1 := gbp.then_ HH1
          have gbq_1 := gbq.then_ HH1
          clear gbc gbp gbq HB0 HH1
          go_upto_region 4 with (first | (refine wpList_row_w (by rfl) 27 _ rfl bc rfl 27 _ gbc_1 ⟨_, Try.underlying27⟩ (by kernel_rfl) ?_; simp only [Act.put, List.setIfInBounds_toArray, List.set_cons_succ, List.set_cons_zero]) | (refine wpList_row_w (by rfl) 49 _ rfl bp rfl 49 _ gbp_1 ⟨_, Try.underlying49⟩ (by kernel_rfl) ?_; simp only [Act.put, List.setIfInBounds_toArray, List.set_cons_succ, List.set_cons_zero]) | (refine wpList_row_w (by rfl) 49 _ rfl bq rfl 49 _ gbq_1 ⟨_, Try.underlying49⟩ (by kernel_rfl) ?_; simp only [Act.put, List.setIfInBounds_toArray, List.set_cons_succ, List.set_cons_zero]) | (go_at_call 10; refine (HS.out _ _ ?hb ?hs).mono ?_; (case hb => exact HB1.trans ((wa1 _ _).mono HB1.size)); (case hs => exact seg_new2 x y rfl); rintro e w2 ⟨rfl, hbw2⟩))
          have HH2 := below_then (wa1 _ _) hbw2
          have HB2 := below_then HB1 HH2
          have gbc_2 := gbc_1.then_ HH2
          have gbp_2 := gbp_1.then_ HH2
          have gbq_2 := gbq_1.then_ HH2
          clear gbc_1 gbp_1 gbq_1 HB1 HH2
          go_upto_region 5 with (first | (refine wpList_row_w (by rfl) 27 _ rfl bc rfl 27 _ gbc_2 ⟨_, Try.underlying27⟩ (by kernel_rfl) ?_; simp only [Act.put, List.setIfInBounds_toArray, List.set_cons_succ, List.set_cons_zero]) | (refine wpList_row_w (by rfl) 49 _ rfl bp rfl 49 _ gbp_2 ⟨_, Try.underlying49⟩ (by kernel_rfl) ?_; simp only [Act.put, List.setIfInBounds_toArray, List.set_cons_succ, List.set_cons_zero]) | (refine wpList_row_w (by rfl) 49 _ rfl bq rfl 49 _ gbq_2 ⟨_, Try.underlying49⟩ (by kernel_rfl) ?_; simp only [Act.put, List.setIfInBounds_toArray, List.set_cons_succ, List.set_cons_zero]) | (go_at_call 18; (with_reducible refine (HC1.out _ HB2).mono ?_); rintro e w3 ⟨rfl, hbw3⟩))
          have HH3 := hbw3
          have HB3 := below_then HB2 HH3
          have gbc_3 := gbc_2.then_ HH3
          have gbp_3 := gbp_2.then_ HH3
          have gbq_3 := gbq_2.then_ HH3
          clear gbc_2 gbp_2 gbq_2 HB2 HH3
          go_upto_region 7 with (first | (refine wpList_row_w (by rfl) 27 _ rfl bc rfl 27 _ gbc_3 ⟨_, Try.underlying27⟩ (by kernel_rfl) ?_; simp only [Act.put, List.setIfInBounds_toArray, List.set_cons_succ, List.set_cons_zero]) | (refine wpList_row_w (by rfl) 49 _ rfl bp rfl 49 _ gbp_3 ⟨_, Try.underlying49⟩ (by kernel_rfl) ?_; simp only [Act.put, List.setIfInBounds_toArray, List.set_cons_succ, List.set_cons_zero]) | (refine wpList_row_w (by rfl) 49 _ rfl bq rfl 49 _ gbq_3 ⟨_, Try.underlying49⟩ (by kernel_rfl) ?_; simp only [Act.put, List.setIfInBounds_toArray, List.set_cons_succ, List.set_cons_zero]) | (go_at_call 18; (with_reducible refine (HC2.out _ HB3).mono ?_); rintro e w4 ⟨rfl, hbw4⟩))
          have HH4 := hbw4
          have HB4 := below_then HB3 HH4
          have gbc_4 := gbc_3.then_ HH4
          have gbp_4 := gbp_3.then_ HH4
          have gbq_4 := gbq_3.then_ HH4
          clear gbc_3 gbp_3 gbq_3 HB3 HH4
          go_upto_region 8 with (first | (refine wpList_row_w (by rfl) 27 _ rfl bc rfl 27 _ gbc_4 ⟨_, Try.underlying27⟩ (by kernel_rfl) ?_; simp only [Act.put, List.setIfInBounds_toArray, List.set_cons_succ, List.set_cons_zero]) | (refine wpList_row_w (by rfl) 49 _ rfl bp rfl 49 _ gbp_4 ⟨_, Try.underlying49⟩ (by kernel_rfl) ?_; simp only [Act.put, List.setIfInBounds_toArray, List.set_cons_succ, List.set_cons_zero]) | (go_at_call 19; (with_reducible refine (HT1.out _ HB4).mono ?_); rintro e w5 ⟨⟨Ax, kx, lx, rfl, sx, nx, mx⟩, hbw5⟩))
          have HH5 := hbw5
          have HB5 := below_then HB4 HH5
          have gbc_5 := gbc_4.then_ HH5
          have gbp_5 := gbp_4.then_ HH5
          have gbq_5 := gbq_4.then_ HH5
          clear gbc_4 gbp_4 gbq_4 HB4 HH5
          have MX := Lib.hid mx
          clear mx
          go_upto_region 9 with (first | (refine wpList_row_w (by rfl) 27 _ rfl bc rfl 27 _ gbc_5 ⟨_, Try.underlying27⟩ (by kernel_rfl) ?_; simp only [Act.put, List.setIfInBounds_toArray, List.set_cons_succ, List.set_cons_zero]) | (refine wpList_row_w (by rfl) 49 _ rfl bq rfl 49 _ gbq_5 ⟨_, Try.underlying49⟩ (by kernel_rfl) ?_; simp only [Act.put, List.setIfInBounds_toArray, List.set_cons_succ, List.set_cons_zero]) | (go_at_call 19; (with_reducible refine (HT2.out _ HB5).mono ?_); rintro e w6 ⟨⟨Ay, ky, ly, rfl, sy, ny, my⟩, hbw6⟩))
          have HH6 := hbw6
          have HB6 := below_then HB5 HH6
          have gbc_6 := gbc_5.then_ HH6
          have gbp_6 := gbp_5.then_ HH6
          have gbq_6 := gbq_5.then_ HH6
          clear gbc_5 gbp_5 gbq_5 HB5 HH6
          have MY := Lib.hid my
          clear my
          have sx6 := Lib.hid ((sx.below hbw6).more hbw6.size)
          clear sx
          go_upto_region 13 with ((go_at_call 20; (with_reducible refine (HK.out _ _ _ _ _ _ _ sx6.out sy nx ny (MX.out (by trivial)) (MY.out (by trivial))).mono ?_); rintro e w7 ⟨rfl, hbw7⟩))
          have HH7 := hbw7
          have HB7 := below_then HB6 HH7
          have gbc_7 := gbc_6.then_ HH7
          have gbp_7 := gbp_6.then_ HH7
          have gbq_7 := gbq_6.then_ HH7
          clear gbc_6 gbp_6 gbq_6 HB6 HH7
          have f0 : w7.cell? ⟨bp, 0, none⟩ = some (.int .i64 x.p.kind) := gbp_7.cell 0
          have f1 : w7.cell? ⟨bq, 0, none⟩ = some (.int .i64 y.p.kind) := gbq_7.cell 0
          have f2 : w7.cell? ⟨bp, 18, none⟩ = some (.int .i64 x.p.days) := gbp_7.cell 18
          have f3 : w7.cell? ⟨bq, 18, none⟩ = some (.int .i64 y.p.days) := gbq_7.cell 18
          go_wp2_with (fail)
          go_ret
          exact ⟨rfl, HB7⟩
      · have u3 : (x.p.kind != 5) = true := by rw [bne_iff_ne]; exact k5
        obtain rfl : S = true := hm2.2 (fun h => k5 h.1)
        clear hm2 k5
        go_enter Try.func8, Try.ntmps8
        go_upto_region 1 with (fail)
        refine name_wp ?_
        intro X0 hX
        have gbc : Blk X0 w.heap.size 27 (coA c m) := by rw [hX]; exact ((blk_at (by simp)).alloc _).alloc _
        have gbp : Blk X0 (w.heap.size + 1) 49 (pL x.p x.m) := by rw [hX]; exact (blk_at (by simp)).alloc _
        have gbq : Blk X0 (w.heap.size + 2) 49 (pL y.p y.m) := by rw [hX]; exact blk_at (by simp)
        have HB0 : Below w.heap.size w X0 := by rw [hX]; (repeat (first | with_reducible assumption | with_reducible exact Below.refl _ _ | with_reducible refine below_drewN ?_ _ | with_reducible refine Below.drew ?_ | with_reducible refine below_alloc ?_ _ | with_reducible refine Below.setCell ?_ (by first | omega | (simp; done) | (simp; omega)) _ | with_reducible refine below_then ?_ (by with_reducible assumption) | (refine below_then (a := World.drew _) ?_ (by with_reducible assumption))))
        clear hX
        obtain ⟨bq, ebq⟩ : ∃ b, w.heap.size + 2 = b := ⟨_, rfl⟩
        obtain ⟨bp, ebp⟩ : ∃ b, w.heap.size + 1 = b := ⟨_, rfl⟩
        obtain ⟨bc, ebc⟩ : ∃ b, w.heap.size = b := ⟨_, rfl⟩
        have lbc : w.heap.size ≤ bc := by omega
        have lbp : w.heap.size ≤ bp := by omega
        have lbq : w.heap.size ≤ bq := by omega
        have nbcbp : bc ≠ bp := by omega
        have nbcbq : bc ≠ bq := by omega
        have nbpbq : bp ≠ bq := by omega
        rw [ebq] at gbq ⊢
        rw [ebp] at gbp ⊢
        rw [ebc] at gbc ⊢
        clear ebc ebp ebq
        go_upto_region 2 with ((go_at_call 9; (with_reducible refine (HH.out _).mono ?_); rintro e w1 ⟨rfl, hbw1⟩))
        have HH1 := hbw1
        have HB1 := below_then HB0 HH1
        have gbc_1 := gbc.then_ HH1
        have gbp_1 := gbp.then_ HH1
        have gbq_1 := gbq.then_ HH1
        clear gbc gbp gbq HB0 HH1
        go_upto_region 4 with (first | (refine wpList_row_w (by rfl) 27 _ rfl bc rfl 27 _ gbc_1 ⟨_, Try.underlying27⟩ (by kernel_rfl) ?_; simp only [Act.put, List.setIfInBounds_toArray, List.set_cons_succ, List.set_cons_zero]) | (refine wpList_row_w (by rfl) 49 _ rfl bp rfl 49 _ gbp_1 ⟨_, Try.underlying49⟩ (by kernel_rfl) ?_; simp only [Act.put, List.setIfInBounds_toArray, List.set_cons_succ, List.set_cons_zero]) | (refine wpList_row_w (by rfl) 49 _ rfl bq rfl 49 _ gbq_1 ⟨_, Try.underlying49⟩ (by kernel_rfl) ?_; simp only [Act.put, List.setIfInBounds_toArray, List.set_cons_succ, List.set_cons_zero]) | (go_at_call 10; refine (HS.out _ _ ?hb ?hs).mono ?_; (case hb => exact HB1.trans ((wa1 _ _).mono HB1.size)); (case hs => exact seg_new2 x y rfl); rintro e w2 ⟨rfl, hbw2⟩))
        have HH2 := below_then (wa1 _ _) hbw2
        have HB2 := below_then HB1 HH2
        have gbc_2 := gbc_1.then_ HH2
        have gbp_2 := gbp_1.then_ HH2
        have gbq_2 := gbq_1.then_ HH2
        clear gbc_1 gbp_1 gbq_1 HB1 HH2
        go_upto_region 5 with (first | (refine wpList_row_w (by rfl) 27 _ rfl bc rfl 27 _ gbc_2 ⟨_, Try.underlying27⟩ (by kernel_rfl) ?_; simp only [Act.put, List.setIfInBounds_toArray, List.set_cons_succ, List.set_cons_zero]) | (refine wpList_row_w (by rfl) 49 _ rfl bp rfl 49 _ gbp_2 ⟨_, Try.underlying49⟩ (by kernel_rfl) ?_; simp only [Act.put, List.setIfInBounds_toArray, List.set_cons_succ, List.set_cons_zero]) | (refine wpList_row_w (by rfl) 49 _ rfl bq rfl 49 _ gbq_2 ⟨_, Try.underlying49⟩ (by kernel_rfl) ?_; simp only [Act.put, List.setIfInBounds_toArray, List.set_cons_succ, List.set_cons_zero]) | (go_at_call 18; (with_reducible refine (HC1.out _ HB2).mono ?_); rintro e w3 ⟨rfl, hbw3⟩))
        have HH3 := hbw3
        have HB3 := below_then HB2 HH3
        have gbc_3 := gbc_2.then_ HH3
        have gbp_3 := gbp_2.then_ HH3
        have gbq_3 := gbq_2.then_ HH3
        clear gbc_2 gbp_2 gbq_2 HB2 HH3
        go_upto_region 7 with (first | (refine wpList_row_w (by rfl) 27 _ rfl bc rfl 27 _ gbc_3 ⟨_, Try.underlying27⟩ (by kernel_rfl) ?_; simp only [Act.put, List.setIfInBounds_toArray, List.set_cons_succ, List.set_cons_zero]) | (refine wpList_row_w (by rfl) 49 _ rfl bp rfl 49 _ gbp_3 ⟨_, Try.underlying49⟩ (by kernel_rfl) ?_; simp only [Act.put, List.setIfInBounds_toArray, List.set_cons_succ, List.set_cons_zero]) | (refine wpList_row_w (by rfl) 49 _ rfl bq rfl 49 _ gbq_3 ⟨_, Try.underlying49⟩ (by kernel_rfl) ?_; simp only [Act.put, List.setIfInBounds_toArray, List.set_cons_succ, List.set_cons_zero]) | (go_at_call 18; (with_reducible refine (HC2.out _ HB3).mono ?_); rintro e w4 ⟨rfl, hbw4⟩))
        have HH4 := hbw4
        have HB4 := below_then HB3 HH4
        have gbc_4 := gbc_3.then_ HH4
        have gbp_4 := gbp_3.then_ HH4
        have gbq_4 := gbq_3.then_ HH4
        clear gbc_3 gbp_3 gbq_3 HB3 HH4
        go_upto_region 8 with (first | (refine wpList_row_w (by rfl) 27 _ rfl bc rfl 27 _ gbc_4 ⟨_, Try.underlying27⟩ (by kernel_rfl) ?_; simp only [Act.put, List.setIfInBounds_toArray, List.set_cons_succ, List.set_cons_zero]) | (refine wpList_row_w (by rfl) 49 _ rfl bp rfl 49 _ gbp_4 ⟨_, Try.underlying49⟩ (by kernel_rfl) ?_; simp only [Act.put, List.setIfInBounds_toArray, List.set_cons_succ, List.set_cons_zero]) | (go_at_call 19; (with_reducible refine (HT1.out _ HB4).mono ?_); rintro e w5 ⟨⟨Ax, kx, lx, rfl, sx, nx, mx⟩, hbw5⟩))
        have HH5 := hbw5
        have HB5 := below_then HB4 HH5
        have gbc_5 := gbc_4.then_ HH5
        have gbp_5 := gbp_4.then_ HH5
        have gbq_5 := gbq_4.then_ HH5
        clear gbc_4 gbp_4 gbq_4 HB4 HH5
        have MX := Lib.hid mx
        clear mx
        go_upto_region 9 with (first | (refine wpList_row_w (by rfl) 27 _ rfl bc rfl 27 _ gbc_5 ⟨_, Try.underlying27⟩ (by kernel_rfl) ?_; simp only [Act.put, List.setIfInBounds_toArray, List.set_cons_succ, List.set_cons_zero]) | (refine wpList_row_w (by rfl) 49 _ rfl bq rfl 49 _ gbq_5 ⟨_, Try.underlying49⟩ (by kernel_rfl) ?_; simp only [Act.put, List.setIfInBounds_toArray, List.set_cons_succ, List.set_cons_zero]) | (go_at_call 19; (with_reducible refine (HT2.out _ HB5).mono ?_); rintro e w6 ⟨⟨Ay, ky, ly, rfl, sy, ny, my⟩, hbw6⟩))
        have HH6 := hbw6
        have HB6 := below_then HB5 HH6
        have gbc_6 := gbc_5.then_ HH6
        have gbp_6 := gbp_5.then_ HH6
        have gbq_6 := gbq_5.then_ HH6
        clear gbc_5 gbp_5 gbq_5 HB5 HH6
        have MY := Lib.hid my
        clear my
        have sx6 := Lib.hid ((sx.below hbw6).more hbw6.size)
        clear sx
        go_upto_region 13 with ((go_at_call 20; (with_reducible refine (HK.out _ _ _ _ _ _ _ sx6.out sy nx ny (MX.out (by trivial)) (MY.out (by trivial))).mono ?_); rintro e w7 ⟨rfl, hbw7⟩))
        have HH7 := hbw7
        have HB7 := below_then HB6 HH7
        have gbc_7 := gbc_6.then_ HH7
        have gbp_7 := gbp_6.then_ HH7
        have gbq_7 := gbq_6.then_ HH7
        clear gbc_6 gbp_6 gbq_6 HB6 HH7
        have f0 : w7.cell? ⟨bp, 0, none⟩ = some (.int .i64 x.p.kind) := gbp_7.cell 0
        have f1 : w7.cell? ⟨bq, 0, none⟩ = some (.int .i64 y.p.kind) := gbq_7.cell 0
        have f2 : w7.cell? ⟨bp, 18, none⟩ = some (.int .i64 x.p.days) := gbp_7.cell 18
        have f3 : w7.cell? ⟨bq, 18, none⟩ = some (.int .i64 y.p.days) := gbq_7.cell 18
        go_wp2_with (fail)
        go_ret
        exact ⟨rfl, HB7⟩
    · obtain rfl := hno (fun h => h2 h.2)
      have u2 : (E2 != 0) = true := by rw [bne_iff_ne]; exact h2
      subst h1
      have hz := Lib.hid h2
      clear hno hdis hmild h2
      go_enter Try.func8, Try.ntmps8
      go_upto_region 1 with (fail)
      refine name_wp ?_
      intro X0 hX
      have gbc : Blk X0 w.heap.size 27 (coA c m) := by rw [hX]; exact ((blk_at (by simp)).alloc _).alloc _
      have gbp : Blk X0 (w.heap.size + 1) 49 (pL x.p x.m) := by rw [hX]; exact (blk_at (by simp)).alloc _
      have gbq : Blk X0 (w.heap.size + 2) 49 (pL y.p y.m) := by rw [hX]; exact blk_at (by simp)
      have HB0 : Below w.heap.size w X0 := by rw [hX]; (repeat (first | with_reducible assumption | with_reducible exact Below.refl _ _ | with_reducible refine below_drewN ?_ _ | with_reducible refine Below.drew ?_ | with_reducible refine below_alloc ?_ _ | with_reducible refine Below.setCell ?_ (by first | omega | (simp; done) | (simp; omega)) _ | with_reducible refine below_then ?_ (by with_reducible assumption) | (refine below_then (a := World.drew _) ?_ (by with_reducible assumption))))
      clear hX
      obtain ⟨bq, ebq⟩ : ∃ b, w.heap.size + 2 = b := ⟨_, rfl⟩
      obtain ⟨bp, ebp⟩ : ∃ b, w.heap.size + 1 = b := ⟨_, rfl⟩
      obtain ⟨bc, ebc⟩ : ∃ b, w.heap.size = b := ⟨_, rfl⟩
      have lbc : w.heap.size ≤ bc := by omega
      have lbp : w.heap.size ≤ bp := by omega
      have lbq : w.heap.size ≤ bq := by omega
      have nbcbp : bc ≠ bp := by omega
      have nbcbq : bc ≠ bq := by omega
      have nbpbq : bp ≠ bq := by omega
      rw [ebq] at gbq ⊢
      rw [ebp] at gbp ⊢
      rw [ebc] at gbc ⊢
      clear ebc ebp ebq
      go_upto_region 2 with ((go_at_call 9; (with_reducible refine (HH.out _).mono ?_); rintro e w1 ⟨rfl, hbw1⟩))
      have HH1 := hbw1
      have HB1 := below_then HB0 HH1
      have gbc_1 := gbc.then_ HH1
      have gbp_1 := gbp.then_ HH1
      have gbq_1 := gbq.then_ HH1
      clear gbc gbp gbq HB0 HH1
      go_upto_region 4 with (first | (refine wpList_row_w (by rfl) 27 _ rfl bc rfl 27 _ gbc_1 ⟨_, Try.underlying27⟩ (by kernel_rfl) ?_; simp only [Act.put, List.setIfInBounds_toArray, List.set_cons_succ, List.set_cons_zero]) | (refine wpList_row_w (by rfl) 49 _ rfl bp rfl 49 _ gbp_1 ⟨_, Try.underlying49⟩ (by kernel_rfl) ?_; simp only [Act.put, List.setIfInBounds_toArray, List.set_cons_succ, List.set_cons_zero]) | (refine wpList_row_w (by rfl) 49 _ rfl bq rfl 49 _ gbq_1 ⟨_, Try.underlying49⟩ (by kernel_rfl) ?_; simp only [Act.put, List.setIfInBounds_toArray, List.set_cons_succ, List.set_cons_zero]) | (go_at_call 10; refine (HS.out _ _ ?hb ?hs).mono ?_; (case hb => exact HB1.trans ((wa1 _ _).mono HB1.size)); (case hs => exact seg_new2 x y rfl); rintro e w2 ⟨rfl, hbw2⟩))
      have HH2 := below_then (wa1 _ _) hbw2
      have HB2 := below_then HB1 HH2
      have gbc_2 := gbc_1.then_ HH2
      have gbp_2 := gbp_1.then_ HH2
      have gbq_2 := gbq_1.then_ HH2
      clear gbc_1 gbp_1 gbq_1 HB1 HH2
      go_upto_region 5 with (first | (refine wpList_row_w (by rfl) 27 _ rfl bc rfl 27 _ gbc_2 ⟨_, Try.underlying27⟩ (by kernel_rfl) ?_; simp only [Act.put, List.setIfInBounds_toArray, List.set_cons_succ, List.set_cons_zero]) | (refine wpList_row_w (by rfl) 49 _ rfl bp rfl 49 _ gbp_2 ⟨_, Try.underlying49⟩ (by kernel_rfl) ?_; simp only [Act.put, List.setIfInBounds_toArray, List.set_cons_succ, List.set_cons_zero]) | (refine wpList_row_w (by rfl) 49 _ rfl bq rfl 49 _ gbq_2 ⟨_, Try.underlying49⟩ (by kernel_rfl) ?_; simp only [Act.put, List.setIfInBounds_toArray, List.set_cons_succ, List.set_cons_zero]) | (go_at_call 18; (with_reducible refine (HC1.out _ HB2).mono ?_); rintro e w3 ⟨rfl, hbw3⟩))
      have HH3 := hbw3
      have HB3 := below_then HB2 HH3
      have gbc_3 := gbc_2.then_ HH3
      have gbp_3 := gbp_2.then_ HH3
      have gbq_3 := gbq_2.then_ HH3
      clear gbc_2 gbp_2 gbq_2 HB2 HH3
      go_upto_region 7 with (first | (refine wpList_row_w (by rfl) 27 _ rfl bc rfl 27 _ gbc_3 ⟨_, Try.underlying27⟩ (by kernel_rfl) ?_; simp only [Act.put, List.setIfInBounds_toArray, List.set_cons_succ, List.set_cons_zero]) | (refine wpList_row_w (by rfl) 49 _ rfl bp rfl 49 _ gbp_3 ⟨_, Try.underlying49⟩ (by kernel_rfl) ?_; simp only [Act.put, List.setIfInBounds_toArray, List.set_cons_succ, List.set_cons_zero]) | (refine wpList_row_w (by rfl) 49 _ rfl bq rfl 49 _ gbq_3 ⟨_, Try.underlying49⟩ (by kernel_rfl) ?_; simp only [Act.put, List.setIfInBounds_toArray, List.set_cons_succ, List.set_cons_zero]) | (go_at_call 18; (with_reducible refine (HC2.out _ HB3).mono ?_); rintro e w4 ⟨rfl, hbw4⟩))
      have HH4 := hbw4
      have HB4 := below_then HB3 HH4
      have gbc_4 := gbc_3.then_ HH4
      have gbp_4 := gbp_3.then_ HH4
      have gbq_4 := gbq_3.then_ HH4
      clear gbc_3 gbp_3 gbq_3 HB3 HH4
      go_upto_region 8 with (first | (refine wpList_row_w (by rfl) 27 _ rfl bc rfl 27 _ gbc_4 ⟨_, Try.underlying27⟩ (by kernel_rfl) ?_; simp only [Act.put, List.setIfInBounds_toArray, List.set_cons_succ, List.set_cons_zero]) | (refine wpList_row_w (by rfl) 49 _ rfl bp rfl 49 _ gbp_4 ⟨_, Try.underlying49⟩ (by kernel_rfl) ?_; simp only [Act.put, List.setIfInBounds_toArray, List.set_cons_succ, List.set_cons_zero]) | (go_at_call 19; (with_reducible refine (HT1.out _ HB4).mono ?_); rintro e w5 ⟨⟨Ax, kx, lx, rfl, sx, nx, mx⟩, hbw5⟩))
      have HH5 := hbw5
      have HB5 := below_then HB4 HH5
      have gbc_5 := gbc_4.then_ HH5
      have gbp_5 := gbp_4.then_ HH5
      have gbq_5 := gbq_4.then_ HH5
      clear gbc_4 gbp_4 gbq_4 HB4 HH5
      have MX := Lib.hid mx
      clear mx
      go_upto_region 9 with (first | (refine wpList_row_w (by rfl) 27 _ rfl bc rfl 27 _ gbc_5 ⟨_, Try.underlying27⟩ (by kernel_rfl) ?_; simp only [Act.put, List.setIfInBounds_toArray, List.set_cons_succ, List.set_cons_zero]) | (refine wpList_row_w (by rfl) 49 _ rfl bq rfl 49 _ gbq_5 ⟨_, Try.underlying49⟩ (by kernel_rfl) ?_; simp only [Act.put, List.setIfInBounds_toArray, List.set_cons_succ, List.set_cons_zero]) | (go_at_call 19; (with_reducible refine (HT2.out _ HB5).mono ?_); rintro e w6 ⟨⟨Ay, ky, ly, rfl, sy, ny, my⟩, hbw6⟩))
      have HH6 := hbw6
      have HB6 := below_then HB5 HH6
      have gbc_6 := gbc_5.then_ HH6
      have gbp_6 := gbp_5.then_ HH6
      have gbq_6 := gbq_5.then_ HH6
      clear gbc_5 gbp_5 gbq_5 HB5 HH6
      have MY := Lib.hid my
      clear my
      have sx6 := Lib.hid ((sx.below hbw6).more hbw6.size)
      clear sx
      go_wp2_with (fail)
      go_ret
      exact ⟨rfl, HB6⟩
  · obtain rfl := hno (fun h => h1 h.1)
    have u1 : (E1 != 0) = true := by rw [bne_iff_ne]; exact h1
    clear hno hdis hmild h1
    go_enter Try.func8, Try.ntmps8
    go_upto_region 1 with (fail)
    refine name_wp ?_
    intro X0 hX
    have gbc : Blk X0 w.heap.size 27 (coA c m) := by rw [hX]; exact ((blk_at (by simp)).alloc _).alloc _
    have gbp : Blk X0 (w.heap.size + 1) 49 (pL x.p x.m) := by rw [hX]; exact (blk_at (by simp)).alloc _
    have gbq : Blk X0 (w.heap.size + 2) 49 (pL y.p y.m) := by rw [hX]; exact blk_at (by simp)
    have HB0 : Below w.heap.size w X0 := by rw [hX]; (repeat (first | with_reducible assumption | with_reducible exact Below.refl _ _ | with_reducible refine below_drewN ?_ _ | with_reducible refine Below.drew ?_ | with_reducible refine below_alloc ?_ _ | with_reducible refine Below.setCell ?_ (by first | omega | (simp; done) | (simp; omega)) _ | with_reducible refine below_then ?_ (by with_reducible assumption) | (refine below_then (a := World.drew _) ?_ (by with_reducible assumption))))
    clear hX
    obtain ⟨bq, ebq⟩ : ∃ b, w.heap.size + 2 = b := ⟨_, rfl⟩
    obtain ⟨bp, ebp⟩ : ∃ b, w.heap.size + 1 = b := ⟨_, rfl⟩
    obtain ⟨bc, ebc⟩ : ∃ b, w.heap.size = b := ⟨_, rfl⟩
    have lbc : w.heap.size ≤ bc := by omega
    have lbp : w.heap.size ≤ bp := by omega
    have lbq : w.heap.size ≤ bq := by omega
    have nbcbp : bc ≠ bp := by omega
    have nbcbq : bc ≠ bq := by omega
    have nbpbq : bp ≠ bq := by omega
    rw [ebq] at gbq ⊢
    rw [ebp] at gbp ⊢
    rw [ebc] at gbc ⊢
    clear ebc ebp ebq
    go_upto_region 2 with ((go_at_call 9; (with_reducible refine (HH.out _).mono ?_); rintro e w1 ⟨rfl, hbw1⟩))
    have HH1 := hbw1
    have HB1 := below_then HB0 HH1
    have gbc_1 := gbc.then_ HH1
    have gbp_1 := gbp.then_ HH1
    have gbq_1 := gbq.then_ HH1
    clear gbc gbp gbq HB0 HH1
    go_upto_region 4 with (first | (refine wpList_row_w (by rfl) 27 _ rfl bc rfl 27 _ gbc_1 ⟨_, Try.underlying27⟩ (by kernel_rfl) ?_; simp only [Act.put, List.setIfInBounds_toArray, List.set_cons_succ, List.set_cons_zero]) | (refine wpList_row_w (by rfl) 49 _ rfl bp rfl 49 _ gbp_1 ⟨_, Try.underlying49⟩ (by kernel_rfl) ?_; simp only [Act.put, List.setIfInBounds_toArray, List.set_cons_succ, List.set_cons_zero]) | (refine wpList_row_w (by rfl) 49 _ rfl bq rfl 49 _ gbq_1 ⟨_, Try.underlying49⟩ (by kernel_rfl) ?_; simp only [Act.put, List.setIfInBounds_toArray, List.set_cons_succ, List.set_cons_zero]) | (go_at_call 10; refine (HS.out _ _ ?hb ?hs).mono ?_; (case hb => exact HB1.trans ((wa1 _ _).mono HB1.size)); (case hs => exact seg_new2 x y rfl); rintro e w2 ⟨rfl, hbw2⟩))
    have HH2 := below_then (wa1 _ _) hbw2
    have HB2 := below_then HB1 HH2
    have gbc_2 := gbc_1.then_ HH2
    have gbp_2 := gbp_1.then_ HH2
    have gbq_2 := gbq_1.then_ HH2
    clear gbc_1 gbp_1 gbq_1 HB1 HH2
    go_upto_region 5 with (first | (refine wpList_row_w (by rfl) 27 _ rfl bc rfl 27 _ gbc_2 ⟨_, Try.underlying27⟩ (by kernel_rfl) ?_; simp only [Act.put, List.setIfInBounds_toArray, List.set_cons_succ, List.set_cons_zero]) | (refine wpList_row_w (by rfl) 49 _ rfl bp rfl 49 _ gbp_2 ⟨_, Try.underlying49⟩ (by kernel_rfl) ?_; simp only [Act.put, List.setIfInBounds_toArray, List.set_cons_succ, List.set_cons_zero]) | (refine wpList_row_w (by rfl) 49 _ rfl bq rfl 49 _ gbq_2 ⟨_, Try.underlying49⟩ (by kernel_rfl) ?_; simp only [Act.put, List.setIfInBounds_toArray, List.set_cons_succ, List.set_cons_zero]) | (go_at_call 18; (with_reducible refine (HC1.out _ HB2).mono ?_); rintro e w3 ⟨rfl, hbw3⟩))
    have HH3 := hbw3
    have HB3 := below_then HB2 HH3
    have gbc_3 := gbc_2.then_ HH3
    have gbp_3 := gbp_2.then_ HH3
    have gbq_3 := gbq_2.then_ HH3
    clear gbc_2 gbp_2 gbq_2 HB2 HH3
    go_upto_region 7 with (first | (refine wpList_row_w (by rfl) 27 _ rfl bc rfl 27 _ gbc_3 ⟨_, Try.underlying27⟩ (by kernel_rfl) ?_; simp only [Act.put, List.setIfInBounds_toArray, List.set_cons_succ, List.set_cons_zero]) | (refine wpList_row_w (by rfl) 49 _ rfl bp rfl 49 _ gbp_3 ⟨_, Try.underlying49⟩ (by kernel_rfl) ?_; simp only [Act.put, List.setIfInBounds_toArray, List.set_cons_succ, List.set_cons_zero]) | (refine wpList_row_w (by rfl) 49 _ rfl bq rfl 49 _ gbq_3 ⟨_, Try.underlying49⟩ (by kernel_rfl) ?_; simp only [Act.put, List.setIfInBounds_toArray, List.set_cons_succ, List.set_cons_zero]) | (go_at_call 18; (with_reducible refine (HC2.out _ HB3).mono ?_); rintro e w4 ⟨rfl, hbw4⟩))
    have HH4 := hbw4
    have HB4 := below_then HB3 HH4
    have gbc_4 := gbc_3.then_ HH4
    have gbp_4 := gbp_3.then_ HH4
    have gbq_4 := gbq_3.then_ HH4
    clear gbc_3 gbp_3 gbq_3 HB3 HH4
    go_upto_region 8 with (first | (refine wpList_row_w (by rfl) 27 _ rfl bc rfl 27 _ gbc_4 ⟨_, Try.underlying27⟩ (by kernel_rfl) ?_; simp only [Act.put, List.setIfInBounds_toArray, List.set_cons_succ, List.set_cons_zero]) | (refine wpList_row_w (by rfl) 49 _ rfl bp rfl 49 _ gbp_4 ⟨_, Try.underlying49⟩ (by kernel_rfl) ?_; simp only [Act.put, List.setIfInBounds_toArray, List.set_cons_succ, List.set_cons_zero]) | (go_at_call 19; (with_reducible refine (HT1.out _ HB4).mono ?_); rintro e w5 ⟨⟨Ax, kx, lx, rfl, sx, nx, mx⟩, hbw5⟩))
    have HH5 := hbw5
    have HB5 := below_then HB4 HH5
    have gbc_5 := gbc_4.then_ HH5
    have gbp_5 := gbp_4.then_ HH5
    have gbq_5 := gbq_4.then_ HH5
    clear gbc_4 gbp_4 gbq_4 HB4 HH5
    have MX := Lib.hid mx
    clear mx
    go_upto_region 9 with (first | (refine wpList_row_w (by rfl) 27 _ rfl bc rfl 27 _ gbc_5 ⟨_, Try.underlying27⟩ (by kernel_rfl) ?_; simp only [Act.put, List.setIfInBounds_toArray, List.set_cons_succ, List.set_cons_zero]) | (refine wpList_row_w (by rfl) 49 _ rfl bq rfl 49 _ gbq_5 ⟨_, Try.underlying49⟩ (by kernel_rfl) ?_; simp only [Act.put, List.setIfInBounds_toArray, List.set_cons_succ, List.set_cons_zero]) | (go_at_call 19; (with_reducible refine (HT2.out _ HB5).mono ?_); rintro e w6 ⟨⟨Ay, ky, ly, rfl, sy, ny, my⟩, hbw6⟩))
    have HH6 := hbw6
    have HB6 := below_then HB5 HH6
    have gbc_6 := gbc_5.then_ HH6
    have gbp_6 := gbp_5.then_ HH6
    have gbq_6 := gbq_5.then_ HH6
    clear gbc_5 gbp_5 gbq_5 HB5 HH6
    have MY := Lib.hid my
    clear my
    have sx6 := Lib.hid ((sx.below hbw6).more hbw6.size)
    clear sx
    go_wp2_with (fail)
    go_ret
    exact ⟨rfl, HB6⟩
end Go.Proofs.Ytcplneglfbdooaa
