/- The walk of PatchValid. -/
import Derived.Test.YtplommmegkdhdaaGreatDoorMb27
namespace Go.Proofs.YtplommmegkdhdaaGreatDoor
open Go.RowKit

set_option maxRecDepth 100000 in
set_option maxHeartbeats 6400000 in
theorem pvalid_any (c : Con) (m : Cm) (x y : Pk) (w : World) (hL : Lw w) (hc : ContW w c m) (hx : fitP w x) (hy : fitP w y) :
    Calls Tryz.prog 4 #[.agg (coA c m), .agg (pL x.p x.m), .agg (pL y.p y.m)] w fun e w' => e = .returned (.bool true) ∧ Below w.heap.size w w' := by
  have HH := Lib.hid (fun W (hb : Below w.heap.size w W) => head_any W (hL.below hb))
  cases hs1 : c.small 40 with
  | false =>
    have HS1 := Lib.hid (fun W (hb : Below w.heap.size w W) => smallc_at c m false hc hs1 W hb)
    clear hc hx hy hs1 hL
    go_enter Tryz.func4, Tryz.ntmps4
    go_upto_region 1 with (fail)
    refine name_wp ?_
    intro X0 hX
    have gbc : Blk X0 w.heap.size 27 (coA c m) := by rw [hX]; exact ((blk_at (by simp)).alloc _).alloc _
    have gbp : Blk X0 (w.heap.size + 1) 34 (pL x.p x.m) := by rw [hX]; exact (blk_at (by simp)).alloc _
    have gbq : Blk X0 (w.heap.size + 2) 34 (pL y.p y.m) := by rw [hX]; exact blk_at (by simp)
    have HB0 : Below w.heap.size w X0 := by rw [hX]; (repeat (first | with_reducible assumption | with_reducible exact Below.refl _ _ | with_reducible refine below_drewN ?_ _ | with_reducible refine Below.drew ?_ | with_reducible refine below_alloc ?_ _ | with_reducible refine Below.setCell ?_ (by first | omega | (simp; done) | (simp; omega)) _ | with_reducible refine below_then ?_ (by with_reducible assumption) | (refine below_then (a := World.drew _) ?_ (by with_reducible assumption))))
    clear hX
    obtain ⟨bq, ebq⟩ : ∃ b, w.heap.size + 2 = b := ⟨_, rfl⟩
    obtain ⟨bp, ebp⟩ : ∃ b, w.heap.size + 1 = b := ⟨_, rfl⟩
    obtain ⟨bc, ebc⟩ : ∃ b, w.heap.size = b := ⟨_, rfl⟩
    have lbc : w.heap.size ≤ bc := by omega
    have lbp : w.heap.size ≤ bp := by omega
    have lbq : w.heap.size ≤ bq := by omega
    have nbcbp : bc ≠ bp := by omega
    have nbcbq : bc ≠ bq := by omega
    have nbpbq : bp ≠ bq := by omega
    rw [ebq] at gbq ⊢
    rw [ebp] at gbp ⊢
    rw [ebc] at gbc ⊢
    clear ebc ebp ebq
    go_upto_region 2 with ((go_at_call 9; (with_reducible refine (HH.out _ HB0).mono ?_); rintro e w1 ⟨rfl, hbw1⟩))
    have HH1 := hbw1
    have HB1 := below_then HB0 HH1
    have gbc_1 := gbc.then_ HH1
    have gbp_1 := gbp.then_ HH1
    have gbq_1 := gbq.then_ HH1
    clear gbc gbp gbq HB0 HH1
    go_wp2_with (first | (refine wpList_row_w (by rfl) 27 _ rfl bc rfl 27 _ gbc_1 ⟨_, Tryz.underlying27⟩ (by kernel_rfl) ?_; simp only [Act.put, List.setIfInBounds_toArray, List.set_cons_succ, List.set_cons_zero]) | (go_at_call 10; (with_reducible refine (HS1.out _ HB1).mono ?_); rintro e w2 ⟨rfl, hbw2⟩; have gp2 := gbp_1.then_ hbw2; have gq2 := gbq_1.then_ hbw2))
    go_ret
    exact ⟨rfl, below_then HB1 hbw2⟩
  | true =>
  have HS1 := Lib.hid (fun W (hb : Below w.heap.size w W) => smallc_at c m true hc hs1 W hb)
  obtain ⟨hC, hn⟩ := small_cont hc hs1
  cases hs2 : x.p.small with
  | false =>
    have HS2 := Lib.hid (fun W => smallp_at x.p x.m false hs2 W)
    clear hc hx hy hs1 hs2 hL hC hn
    go_enter Tryz.func4, Tryz.ntmps4
    go_upto_region 1 with (fail)
    refine name_wp ?_
    intro X0 hX
    have gbc : Blk X0 w.heap.size 27 (coA c m) := by rw [hX]; exact ((blk_at (by simp)).alloc _).alloc _
    have gbp : Blk X0 (w.heap.size + 1) 34 (pL x.p x.m) := by rw [hX]; exact (blk_at (by simp)).alloc _
    have gbq : Blk X0 (w.heap.size + 2) 34 (pL y.p y.m) := by rw [hX]; exact blk_at (by simp)
    have HB0 : Below w.heap.size w X0 := by rw [hX]; (repeat (first | with_reducible assumption | with_reducible exact Below.refl _ _ | with_reducible refine below_drewN ?_ _ | with_reducible refine Below.drew ?_ | with_reducible refine below_alloc ?_ _ | with_reducible refine Below.setCell ?_ (by first | omega | (simp; done) | (simp; omega)) _ | with_reducible refine below_then ?_ (by with_reducible assumption) | (refine below_then (a := World.drew _) ?_ (by with_reducible assumption))))
    clear hX
    obtain ⟨bq, ebq⟩ : ∃ b, w.heap.size + 2 = b := ⟨_, rfl⟩
    obtain ⟨bp, ebp⟩ : ∃ b, w.heap.size + 1 = b := ⟨_, rfl⟩
    obtain ⟨bc, ebc⟩ : ∃ b, w.heap.size = b := ⟨_, rfl⟩
    have lbc : w.heap.size ≤ bc := by omega
    have lbp : w.heap.size ≤ bp := by omega
    have lbq : w.heap.size ≤ bq := by omega
    have nbcbp : bc ≠ bp := by omega
    have nbcbq : bc ≠ bq := by omega
    have nbpbq : bp ≠ bq := by omega
    rw [ebq] at gbq ⊢
    rw [ebp] at gbp ⊢
    rw [ebc] at gbc ⊢
    clear ebc ebp ebq
    go_upto_region 2 with ((go_at_call 9; (with_reducible refine (HH.out _ HB0).mono ?_); rintro e w1 ⟨rfl, hbw1⟩))
    have HH1 := hbw1
    have HB1 := below_then HB0 HH1
    have gbc_1 := gbc.then_ HH1
    have gbp_1 := gbp.then_ HH1
    have gbq_1 := gbq.then_ HH1
    clear gbc gbp gbq HB0 HH1
    go_wp2_with (first | (refine wpList_row_w (by rfl) 27 _ rfl bc rfl 27 _ gbc_1 ⟨_, Tryz.underlying27⟩ (by kernel_rfl) ?_; simp only [Act.put, List.setIfInBounds_toArray, List.set_cons_succ, List.set_cons_zero]) | (go_at_call 10; (with_reducible refine (HS1.out _ HB1).mono ?_); rintro e w2 ⟨rfl, hbw2⟩; have gp2 := gbp_1.then_ hbw2; have gq2 := gbq_1.then_ hbw2) | (refine wpList_row_w (by rfl) 34 _ rfl bp rfl 34 _ gp2 ⟨_, Tryz.underlying34⟩ (by kernel_rfl) ?_; simp only [Act.put, List.setIfInBounds_toArray, List.set_cons_succ, List.set_cons_zero]) | (go_at_call 11; (with_reducible refine (HS2.out _).mono ?_); rintro e w3 ⟨rfl, hbw3⟩; have gq3 := gq2.then_ hbw3))
    go_ret
    exact ⟨rfl, below_then (below_then HB1 hbw2) hbw3⟩
  | true =>
  have HS2 := Lib.hid (fun W => smallp_at x.p x.m true hs2 W)
  obtain ⟨hP, _, _⟩ := small_patM hx hs2
  cases hs3 : y.p.small with
  | false =>
    have HS3 := Lib.hid (fun W => smallp_at y.p y.m false hs3 W)
    clear hc hx hy hs1 hs2 hs3 hL hC hn hP
    go_enter Tryz.func4, Tryz.ntmps4
    go_upto_region 1 with (fail)
    refine name_wp ?_
    intro X0 hX
    have gbc : Blk X0 w.heap.size 27 (coA c m) := by rw [hX]; exact ((blk_at (by simp)).alloc _).alloc _
    have gbp : Blk X0 (w.heap.size + 1) 34 (pL x.p x.m) := by rw [hX]; exact (blk_at (by simp)).alloc _
    have gbq : Blk X0 (w.heap.size + 2) 34 (pL y.p y.m) := by rw [hX]; exact blk_at (by simp)
    have HB0 : Below w.heap.size w X0 := by rw [hX]; (repeat (first | with_reducible assumption | with_reducible exact Below.refl _ _ | with_reducible refine below_drewN ?_ _ | with_reducible refine Below.drew ?_ | with_reducible refine below_alloc ?_ _ | with_reducible refine Below.setCell ?_ (by first | omega | (simp; done) | (simp; omega)) _ | with_reducible refine below_then ?_ (by with_reducible assumption) | (refine below_then (a := World.drew _) ?_ (by with_reducible assumption))))
    clear hX
    obtain ⟨bq, ebq⟩ : ∃ b, w.heap.size + 2 = b := ⟨_, rfl⟩
    obtain ⟨bp, ebp⟩ : ∃ b, w.heap.size + 1 = b := ⟨_, rfl⟩
    obtain ⟨bc, ebc⟩ : ∃ b, w.heap.size = b := ⟨_, rfl⟩
    have lbc : w.heap.size ≤ bc := by omega
    have lbp : w.heap.size ≤ bp := by omega
    have lbq : w.heap.size ≤ bq := by omega
    have nbcbp : bc ≠ bp := by omega
    have nbcbq : bc ≠ bq := by omega
    have nbpbq : bp ≠ bq := by omega
    rw [ebq] at gbq ⊢
    rw [ebp] at gbp ⊢
    rw [ebc] at gbc ⊢
    clear ebc ebp ebq
    go_upto_region 2 with ((go_at_call 9; (with_reducible refine (HH.out _ HB0).mono ?_); rintro e w1 ⟨rfl, hbw1⟩))
    have HH1 := hbw1
    have HB1 := below_then HB0 HH1
    have gbc_1 := gbc.then_ HH1
    have gbp_1 := gbp.then_ HH1
    have gbq_1 := gbq.then_ HH1
    clear gbc gbp gbq HB0 HH1
    go_wp2_with (first | (refine wpList_row_w (by rfl) 27 _ rfl bc rfl 27 _ gbc_1 ⟨_, Tryz.underlying27⟩ (by kernel_rfl) ?_; simp only [Act.put, List.setIfInBounds_toArray, List.set_cons_succ, List.set_cons_zero]) | (go_at_call 10; (with_reducible refine (HS1.out _ HB1).mono ?_); rintro e w2 ⟨rfl, hbw2⟩; have gp2 := gbp_1.then_ hbw2; have gq2 := gbq_1.then_ hbw2) | (refine wpList_row_w (by rfl) 34 _ rfl bp rfl 34 _ gp2 ⟨_, Tryz.underlying34⟩ (by kernel_rfl) ?_; simp only [Act.put, List.setIfInBounds_toArray, List.set_cons_succ, List.set_cons_zero]) | (go_at_call 11; (with_reducible refine (HS2.out _).mono ?_); rintro e w3 ⟨rfl, hbw3⟩; have gq3 := gq2.then_ hbw3) | (refine wpList_row_w (by rfl) 34 _ rfl bq rfl 34 _ gq3 ⟨_, Tryz.underlying34⟩ (by kernel_rfl) ?_; simp only [Act.put, List.setIfInBounds_toArray, List.set_cons_succ, List.set_cons_zero]) | (go_at_call 11; (with_reducible refine (HS3.out _).mono ?_); rintro e w4 ⟨rfl, hbw4⟩))
    go_ret
    exact ⟨rfl, below_then (below_then (below_then HB1 hbw2) hbw3) hbw4⟩
  | true =>
  have HS3 := Lib.hid (fun W => smallp_at y.p y.m true hs3 W)
  obtain ⟨hQ, _, _⟩ := small_patM hy hs3
  clear hc hx hy hs1 hs2 hs3 hL
  obtain ⟨E, eE⟩ : ∃ E, c.apE x.p = E := ⟨_, rfl⟩
  obtain ⟨C1, eC1⟩ : ∃ C, c.apC x.p = C := ⟨_, rfl⟩
  have HA1 := Lib.hid (fun W (hb : Below w.heap.size w W) => apply_to c C1 m x.p x.m E W (hC.then_ hb) (hP.then_ hb) eE eC1)
  by_cases hE : E = 0
  case neg =>
    have tE : (E != 0) = true := by rw [bne_iff_ne]; exact hE
    clear hE eE eC1 hC hP hQ hn
    go_enter Tryz.func4, Tryz.ntmps4
    go_upto_region 1 with (fail)
    refine name_wp ?_
    intro X0 hX
    have gbc : Blk X0 w.heap.size 27 (coA c m) := by rw [hX]; exact ((blk_at (by simp)).alloc _).alloc _
    have gbp : Blk X0 (w.heap.size + 1) 34 (pL x.p x.m) := by rw [hX]; exact (blk_at (by simp)).alloc _
    have gbq : Blk X0 (w.heap.size + 2) 34 (pL y.p y.m) := by rw [hX]; exact blk_at (by simp)
    have HB0 : Below w.heap.size w X0 := by rw [hX]; (repeat (first | with_reducible assumption | with_reducible exact Below.refl _ _ | with_reducible refine below_drewN ?_ _ | with_reducible refine Below.drew ?_ | with_reducible refine below_alloc ?_ _ | with_reducible refine Below.setCell ?_ (by first | omega | (simp; done) | (simp; omega)) _ | with_reducible refine below_then ?_ (by with_reducible assumption) | (refine below_then (a := World.drew _) ?_ (by with_reducible assumption))))
    clear hX
    obtain ⟨bq, ebq⟩ : ∃ b, w.heap.size + 2 = b := ⟨_, rfl⟩
    obtain ⟨bp, ebp⟩ : ∃ b, w.heap.size + 1 = b := ⟨_, rfl⟩
    obtain ⟨bc, ebc⟩ : ∃ b, w.heap.size = b := ⟨_, rfl⟩
    have lbc : w.heap.size ≤ bc := by omega
    have lbp : w.heap.size ≤ bp := by omega
    have lbq : w.heap.size ≤ bq := by omega
    have nbcbp : bc ≠ bp := by omega
    have nbcbq : bc ≠ bq := by omega
    have nbpbq : bp ≠ bq := by omega
    rw [ebq] at gbq ⊢
    rw [ebp] at gbp ⊢
    rw [ebc] at gbc ⊢
    clear ebc ebp ebq
    go_upto_region 2 with ((go_at_call 9; (with_reducible refine (HH.out _ HB0).mono ?_); rintro e w1 ⟨rfl, hbw1⟩))
    have HH1 := hbw1
    have HB1 := below_then HB0 HH1
    have gbc_1 := gbc.then_ HH1
    have gbp_1 := gbp.then_ HH1
    have gbq_1 := gbq.then_ HH1
    clear gbc gbp gbq HB0 HH1
    go_upto_region 4 with (first | (refine wpList_row_w (by rfl) 27 _ rfl bc rfl 27 _ gbc_1 ⟨_, Tryz.underlying27⟩ (by kernel_rfl) ?_; simp only [Act.put, List.setIfInBounds_toArray, List.set_cons_succ, List.set_cons_zero]) | (go_at_call 10; (with_reducible refine (HS1.out _ HB1).mono ?_); rintro e w2 ⟨rfl, hbw2⟩; have gp2 := gbp_1.then_ hbw2; have gq2 := gbq_1.then_ hbw2) | (refine wpList_row_w (by rfl) 34 _ rfl bp rfl 34 _ gp2 ⟨_, Tryz.underlying34⟩ (by kernel_rfl) ?_; simp only [Act.put, List.setIfInBounds_toArray, List.set_cons_succ, List.set_cons_zero]) | (go_at_call 11; (with_reducible refine (HS2.out _).mono ?_); rintro e w3 ⟨rfl, hbw3⟩; have gq3 := gq2.then_ hbw3) | (refine wpList_row_w (by rfl) 34 _ rfl bq rfl 34 _ gq3 ⟨_, Tryz.underlying34⟩ (by kernel_rfl) ?_; simp only [Act.put, List.setIfInBounds_toArray, List.set_cons_succ, List.set_cons_zero]) | (go_at_call 11; (with_reducible refine (HS3.out _).mono ?_); rintro e w4 ⟨rfl, hbw4⟩))
    have HH2 := below_then (below_then hbw2 hbw3) hbw4
    have HB2 := below_then HB1 HH2
    have gbc_2 := gbc_1.then_ HH2
    have gbp_2 := gbp_1.then_ HH2
    have gbq_2 := gbq_1.then_ HH2
    clear gbc_1 gbp_1 gbq_1 HB1 HH2
    clear gp2 gq2 gq3
    go_upto_region 5 with (first | (refine wpList_row_w (by rfl) 27 _ rfl bc rfl 27 _ gbc_2 ⟨_, Tryz.underlying27⟩ (by kernel_rfl) ?_; simp only [Act.put, List.setIfInBounds_toArray, List.set_cons_succ, List.set_cons_zero]) | (refine wpList_row_w (by rfl) 34 _ rfl bp rfl 34 _ gbp_2 ⟨_, Tryz.underlying34⟩ (by kernel_rfl) ?_; simp only [Act.put, List.setIfInBounds_toArray, List.set_cons_succ, List.set_cons_zero]) | (go_at_call 12; (with_reducible refine (HA1.out _ HB2).mono ?_); rintro e w5 ⟨⟨ma, rfl, hca0⟩, hbw5⟩) | (refine wpList_store_all rfl 27 _ _ rfl w5.heap.size 27 [] coZ.toList [] (coA C1 ma).toList rfl rfl (Blk.new _ _ _) rfl (by kernel_rfl) (by simp [Value.oneCell']) ?_; intro u5 gbu5 Uu5))
    have hsu5 : Below w5.heap.size w5 u5 := (wa1 _ _).trans (Uu5.b _ (Nat.le_refl _))
    have HH3 := below_then hbw5 hsu5
    have HB3 := below_then HB2 HH3
    have gbc_3 := gbc_2.then_ HH3
    have gbp_3 := gbp_2.then_ HH3
    have gbq_3 := gbq_2.then_ HH3
    clear gbc_2 gbp_2 gbq_2 HB2 HH3
    have hca := hca0.then_ hsu5
    obtain ⟨bu5, ebu5⟩ : ∃ b, w5.heap.size = b := ⟨_, rfl⟩
    rw [ebu5] at gbu5 ⊢
    clear ebu5 Uu5 hsu5 hbw5 hca0
    go_wp2_with (fail)
    go_ret
    exact ⟨rfl, HB3⟩
  subst hE
  have hk1 : C1.ok = true ∧ C1.cl.length ≤ 41 := by
    have h := apE_fit eE
    rw [← eC1, apC_yes eE]
    exact ⟨h.re, by rw [ap_len]; split <;> omega⟩
  obtain ⟨F, eF⟩ : ∃ F, C1.apE y.p = F := ⟨_, rfl⟩
  obtain ⟨C2, eC2⟩ : ∃ C, C1.apC y.p = C := ⟨_, rfl⟩
  have HA2 := Lib.hid (fun W (ma : Cm) (h : Cont W C1 ma) (hb : Below w.heap.size w W) => apply_to C1 C2 ma y.p y.m F W h (hQ.then_ hb) eF eC2)
  by_cases hF : F = 0
  · subst hF
    have HV : Hid (C2.ok = true ∧ C2.cl.length ≤ 42) := by
      have h := apE_fit eF
      rw [← eC2, apC_yes eF]
      exact ⟨h.re, by rw [ap_len]; split <;> omega⟩
    clear eE eC1 eF eC2 hk1 hC hP hQ hn
    go_enter Tryz.func4, Tryz.ntmps4
    go_upto_region 1 with (fail)
    refine name_wp ?_
    intro X0 hX
    have gbc : Blk X0 w.heap.size 27 (coA c m) := by rw [hX]; exact ((blk_at (by simp)).alloc _).alloc _
    have gbp : Blk X0 (w.heap.size + 1) 34 (pL x.p x.m) := by rw [hX]; exact (blk_at (by simp)).alloc _
    have gbq : Blk X0 (w.heap.size + 2) 34 (pL y.p y.m) := by rw [hX]; exact blk_at (by simp)
    have HB0 : Below w.heap.size w X0 := by rw [hX]; (repeat (first | with_reducible assumption | with_reducible exact Below.refl _ _ | with_reducible refine below_drewN ?_ _ | with_reducible refine Below.drew ?_ | with_reducible refine below_alloc ?_ _ | with_reducible refine Below.setCell ?_ (by first | omega | (simp; done) | (simp; omega)) _ | with_reducible refine below_then ?_ (by with_reducible assumption) | (refine below_then (a := World.drew _) ?_ (by with_reducible assumption))))
    clear hX
    obtain ⟨bq, ebq⟩ : ∃ b, w.heap.size + 2 = b := ⟨_, rfl⟩
    obtain ⟨bp, ebp⟩ : ∃ b, w.heap.size + 1 = b := ⟨_, rfl⟩
    obtain ⟨bc, ebc⟩ : ∃ b, w.heap.size = b := ⟨_, rfl⟩
    have lbc : w.heap.size ≤ bc := by omega
    have lbp : w.heap.size ≤ bp := by omega
    have lbq : w.heap.size ≤ bq := by omega
    have nbcbp : bc ≠ bp := by omega
    have nbcbq : bc ≠ bq := by omega
    have nbpbq : bp ≠ bq := by omega
    rw [ebq] at gbq ⊢
    rw [ebp] at gbp ⊢
    rw [ebc] at gbc ⊢
    clear ebc ebp ebq
    go_upto_region 2 with ((go_at_call 9; (with_reducible refine (HH.out _ HB0).mono ?_); rintro e w1 ⟨rfl, hbw1⟩))
    have HH1 := hbw1
    have HB1 := below_then HB0 HH1
    have gbc_1 := gbc.then_ HH1
    have gbp_1 := gbp.then_ HH1
    have gbq_1 := gbq.then_ HH1
    clear gbc gbp gbq HB0 HH1
    go_upto_region 4 with (first | (refine wpList_row_w (by rfl) 27 _ rfl bc rfl 27 _ gbc_1 ⟨_, Tryz.underlying27⟩ (by kernel_rfl) ?_; simp only [Act.put, List.setIfInBounds_toArray, List.set_cons_succ, List.set_cons_zero]) | (go_at_call 10; (with_reducible refine (HS1.out _ HB1).mono ?_); rintro e w2 ⟨rfl, hbw2⟩; have gp2 := gbp_1.then_ hbw2; have gq2 := gbq_1.then_ hbw2) | (refine wpList_row_w (by rfl) 34 _ rfl bp rfl 34 _ gp2 ⟨_, Tryz.underlying34⟩ (by kernel_rfl) ?_; simp only [Act.put, List.setIfInBounds_toArray, List.set_cons_succ, List.set_cons_zero]) | (go_at_call 11; (with_reducible refine (HS2.out _).mono ?_); rintro e w3 ⟨rfl, hbw3⟩; have gq3 := gq2.then_ hbw3) | (refine wpList_row_w (by rfl) 34 _ rfl bq rfl 34 _ gq3 ⟨_, Tryz.underlying34⟩ (by kernel_rfl) ?_; simp only [Act.put, List.setIfInBounds_toArray, List.set_cons_succ, List.set_cons_zero]) | (go_at_call 11; (with_reducible refine (HS3.out _).mono ?_); rintro e w4 ⟨rfl, hbw4⟩))
    have HH2 := below_then (below_then hbw2 hbw3) hbw4
    have HB2 := below_then HB1 HH2
    have gbc_2 := gbc_1.then_ HH2
    have gbp_2 := gbp_1.then_ HH2
    have gbq_2 := gbq_1.then_ HH2
    clear gbc_1 gbp_1 gbq_1 HB1 HH2
    clear gp2 gq2 gq3
    go_upto_region 7 with (first | (refine wpList_row_w (by rfl) 27 _ rfl bc rfl 27 _ gbc_2 ⟨_, Tryz.underlying27⟩ (by kernel_rfl) ?_; simp only [Act.put, List.setIfInBounds_toArray, List.set_cons_succ, List.set_cons_zero]) | (refine wpList_row_w (by rfl) 34 _ rfl bp rfl 34 _ gbp_2 ⟨_, Tryz.underlying34⟩ (by kernel_rfl) ?_; simp only [Act.put, List.setIfInBounds_toArray, List.set_cons_succ, List.set_cons_zero]) | (go_at_call 12; (with_reducible refine (HA1.out _ HB2).mono ?_); rintro e w5 ⟨⟨ma, rfl, hca0⟩, hbw5⟩) | (refine wpList_store_all rfl 27 _ _ rfl w5.heap.size 27 [] coZ.toList [] (coA C1 ma).toList rfl rfl (Blk.new _ _ _) rfl (by kernel_rfl) (by simp [Value.oneCell']) ?_; intro u5 gbu5 Uu5))
    have hsu5 : Below w5.heap.size w5 u5 := (wa1 _ _).trans (Uu5.b _ (Nat.le_refl _))
    have HH3 := below_then hbw5 hsu5
    have HB3 := below_then HB2 HH3
    have gbc_3 := gbc_2.then_ HH3
    have gbp_3 := gbp_2.then_ HH3
    have gbq_3 := gbq_2.then_ HH3
    clear gbc_2 gbp_2 gbq_2 HB2 HH3
    have hca := hca0.then_ hsu5
    obtain ⟨bu5, ebu5⟩ : ∃ b, w5.heap.size = b := ⟨_, rfl⟩
    rw [ebu5] at gbu5 ⊢
    clear ebu5 Uu5 hsu5 hbw5 hca0
    go_upto_region 10 with (first | (refine wpList_row_w (by rfl) 27 _ rfl bu5 rfl 27 _ gbu5 ⟨_, Tryz.underlying27⟩ (by kernel_rfl) ?_; simp only [Act.put, List.setIfInBounds_toArray, List.set_cons_succ, List.set_cons_zero]) | (refine wpList_row_w (by rfl) 34 _ rfl bq rfl 34 _ gbq_3 ⟨_, Tryz.underlying34⟩ (by kernel_rfl) ?_; simp only [Act.put, List.setIfInBounds_toArray, List.set_cons_succ, List.set_cons_zero]) | (go_at_call 12; (with_reducible refine (HA2.out _ ma hca HB3).mono ?_); rintro e w6 ⟨⟨mb, rfl, hcb0⟩, hbw6⟩) | (refine wpList_store_all rfl 27 _ _ rfl w6.heap.size 27 [] coZ.toList [] (coA C2 mb).toList rfl rfl (Blk.new _ _ _) rfl (by kernel_rfl) (by simp [Value.oneCell']) ?_; intro u6 gbu6 Uu6))
    have HW6 : Hid (w.heap.size ≤ w6.heap.size) := by unfold Hid; have := HB3.size; have := hbw6.size; omega
    have hsu6 : Below w6.heap.size w6 u6 := (wa1 _ _).trans (Uu6.b _ (Nat.le_refl _))
    have HH4 := below_then hbw6 hsu6
    have HB4 := below_then HB3 HH4
    have gbc_4 := gbc_3.then_ HH4
    have gbp_4 := gbp_3.then_ HH4
    have gbq_4 := gbq_3.then_ HH4
    have gbu5_4 := gbu5.then_ HH4
    have hca_4 := hca.then_ HH4
    clear gbc_3 gbp_3 gbq_3 gbu5 hca HB3 HH4
    have hcb := hcb0.then_ hsu6
    obtain ⟨bu6, ebu6⟩ : ∃ b, w6.heap.size = b := ⟨_, rfl⟩
    rw [ebu6] at gbu6 HW6 ⊢
    clear ebu6 Uu6 hsu6 hbw6 hcb0
    have c4 : u6.cell? ⟨bu6, 4, none⟩ = some (.slice mb.k C2.cl.length mb.kc) := gbu6.cell 4
    by_cases h0 : C2.cl.length = 0
    · have tz : ((C2.cl.length : Int) == 0) = true := by rw [beq_iff_eq]; omega
      clear h0
      go_wp2_with (fail)
      go_ret
      exact ⟨rfl, HB4⟩
    have tz : ((C2.cl.length : Int) == 0) = false := by rw [beq_eq_false_iff_ne]; omega
    go_upto_region 12 with (fail)
    clear c4
    obtain ⟨k0, hk0⟩ : ∃ k, C2.cl[0]? = some k := ⟨_, List.getElem?_eq_getElem (by omega)⟩
    obtain ⟨z, hz, ez⟩ := km_at hcb.e hk0
    subst ez
    obtain ⟨kb, ko, ek, hkb, hkc⟩ := con_cells hcb (by omega)
    have hzk : KOk u6 z := hcb.t z (List.mem_of_getElem? hz)
    have HRG : Hid (u6.rangeAt kb ko [.int .i64 z.k.kind, .int .i64 z.k.role, .int .i64 z.k.act, .int .i64 z.k.need, .slice z.A z.k.start.length z.cap, .int .i64 z.k.aft, .int .i64 z.k.grace, .bool z.k.bus, .bool z.k.fin, .int .i64 z.k.pause, .int .i64 z.k.resume, .int .i64 z.k.v.1, .int .i64 z.k.v.2, .int .i64 z.k.unit, .int .i64 z.k.to_, .bool z.k.waived] ∧ kb < u6.heap.size) := ⟨fun j v hv => by have := hkc 0 _ hz j v hv; simpa using this, hkb⟩
    have HEK := Lib.hid ek
    have HZK := Lib.hid hzk
    have hvl := valid_law HV.out.1 hk0 (by have := HV.out.2; omega)
    obtain ⟨D, eD⟩ : ∃ D, C2.apC (.addq z.k) = D := ⟨_, rfl⟩
    have eD' : D = C2.wc (C2.cl ++ [z.k]) := by rw [← eD, apC_yes hvl.1, hvl.2]
    obtain ⟨LB, eLB⟩ : ∃ L, C2.cl.length = L := ⟨_, rfl⟩
    have hDl : D.cl.length = LB + 1 := by rw [eD', ← eLB]; show (C2.cl ++ [z.k]).length = _; simp
    have hDk : D.cl[LB]? = some z.k := by rw [eD', ← eLB]; show (C2.cl ++ [z.k])[_]? = _; simp
    have HA3 : Hid (∀ W, Below u6.heap.size u6 W → Calls Tryz.prog 12 #[.agg (coA C2 mb), .agg #[.int .i64 1, .slice none 0 0, .int .i64 z.k.kind, .int .i64 z.k.role, .int .i64 z.k.act, .int .i64 z.k.need, .slice z.A z.k.start.length z.cap, .int .i64 z.k.aft, .int .i64 z.k.grace, .bool z.k.bus, .bool z.k.fin, .int .i64 z.k.pause, .int .i64 z.k.resume, .int .i64 z.k.v.1, .int .i64 z.k.v.2, .int .i64 z.k.unit, .int .i64 z.k.to_, .bool z.k.waived, .int .i64 0]] W fun e w' => (∃ m', e = .returned (.tuple #[.agg (coA D m'), .int .i64 0]) ∧ Cont w' D m' ∧ Off (W.heap.size ≤ ·) D m') ∧ Below W.heap.size W w') := fun W hb => apply_off C2 D mb (.addq z.k) ⟨none, 0, z.A, z.cap⟩ 0 W (hcb.then_ hb) (patM_add (hzk.then_ hb)) hvl.1 eD
    have hLB : LB ≤ 1000000 := by have := HV.out.2; omega
    have HLB := Lib.hid eLB
    have HDL := Lib.hid hDl
    have HDK := Lib.hid hDk
    have hLp : 0 < LB := by omega
    clear hk0 hz ek hkb hkc hzk hvl eD eD' hDl hDk h0 eLB tz
    go_upto_region 12 with (fail)
    go_cut [12, 13] from 52 to 61 (fun v12 v13 W => ∃ q m, v12 = .pointer (some ⟨q, 0, none⟩) ∧ v13 = .int .i64 0 ∧ Blk W q 27 (coA D m) ∧ Cont W D m ∧ Below u6.heap.size u6 W)
    case first =>
      refine wp_region_hb (fun w' => Hid (Below u6.heap.size u6 w')) [0, 1, 2, 3, 4, 5, 6, 7, 8, 9, 10, 11] [12] (by kernel_rfl) (by kernel_rfl) (by repeat (first | with_reducible refine panOk_then ?_ | with_reducible refine panOk_block ?_ | exact panOk_body)) (Lib.hid (Below.drew (Below.refl _ _))) (fun hdir hsel hpan hHeld => ?_)
      refine wpHB_take (i := 0) (oi := ⟨some 53, _, _, _, _, _⟩) hdir hsel hpan rfl (by kernel_rfl) (by kernel_rfl) (by kernel_rfl) (yieldsIf_row (by rfl) 27 _ rfl bu6 rfl 27 _ (fun w hw => (gbu6.then_ hw.out)) ⟨_, Tryz.underlying27⟩ (by kernel_rfl)) (by assumption) ?_
      try simp only [Act.put, List.setIfInBounds_toArray, List.set_cons_zero, List.set_cons_succ]
      refine wpHB_take (i := 1) (oi := ⟨some 54, _, _, _, _, _⟩) hdir hsel hpan rfl (by kernel_rfl) (by kernel_rfl) (by kernel_rfl) (Or.inl ⟨by rfl, fun _ _ => by rfl⟩) (by assumption) ?_
      try simp only [Act.put, List.setIfInBounds_toArray, List.set_cons_zero, List.set_cons_succ]
      refine wpHB_take (i := 2) (oi := ⟨some 55, _, _, _, _, _⟩) (v := .slice (some ⟨kb, ko, none⟩) LB mb.kc) hdir hsel hpan rfl (by kernel_rfl) (by kernel_rfl) (by kernel_rfl) (Or.inl ⟨by rfl, fun w hw => by have hc := (show w.cell? ⟨bu6, 4, none⟩ = some (.slice (some ⟨kb, ko, none⟩) LB mb.kc) by rw [← HEK.out, ← HLB.out]; exact (gbu6.then_ hw.out).cell 4); go_simp⟩) (by assumption) ?_
      try simp only [Act.put, List.setIfInBounds_toArray, List.set_cons_zero, List.set_cons_succ]
      refine wpHB_take (i := 3) (oi := ⟨some 56, _, _, _, _, _⟩) (v := .pointer (some ⟨kb, ko, none⟩)) hdir hsel hpan rfl (by kernel_rfl) (by kernel_rfl) (by kernel_rfl) (Or.inl ⟨by rfl, fun w hw => by go_simp⟩) (by assumption) ?_
      try simp only [Act.put, List.setIfInBounds_toArray, List.set_cons_zero, List.set_cons_succ]
      refine wpHB_take (i := 4) (oi := ⟨some 57, _, _, _, _, _⟩) hdir hsel hpan rfl (by kernel_rfl) (by kernel_rfl) (by kernel_rfl) (yieldsIf_load_mid (by rfl) 32 _ rfl kb _ rfl [.int .i64 z.k.kind, .int .i64 z.k.role, .int .i64 z.k.act, .int .i64 z.k.need, .slice z.A z.k.start.length z.cap, .int .i64 z.k.aft, .int .i64 z.k.grace, .bool z.k.bus, .bool z.k.fin, .int .i64 z.k.pause, .int .i64 z.k.resume, .int .i64 z.k.v.1, .int .i64 z.k.v.2, .int .i64 z.k.unit, .int .i64 z.k.to_, .bool z.k.waived] _ (fun w hw => (range_then HRG.out.1 hw.out HRG.out.2)) Tryz.underlying32 rfl (by kernel_rfl)) (by assumption) ?_
      try simp only [Act.put, List.setIfInBounds_toArray, List.set_cons_zero, List.set_cons_succ]
      refine wpHB_take (i := 5) (oi := ⟨some 58, _, _, _, _, _⟩) (v := .agg #[.int .i64 1, .slice none 0 0, .int .i64 z.k.kind, .int .i64 z.k.role, .int .i64 z.k.act, .int .i64 z.k.need, .slice z.A z.k.start.length z.cap, .int .i64 z.k.aft, .int .i64 z.k.grace, .bool z.k.bus, .bool z.k.fin, .int .i64 z.k.pause, .int .i64 z.k.resume, .int .i64 z.k.v.1, .int .i64 z.k.v.2, .int .i64 z.k.unit, .int .i64 z.k.to_, .bool z.k.waived, .int .i64 0]) hdir hsel hpan rfl (by kernel_rfl) (by kernel_rfl) (by kernel_rfl) (Or.inl ⟨by rfl, fun w hw => by go_simp⟩) (by assumption) ?_
      try simp only [Act.put, List.setIfInBounds_toArray, List.set_cons_zero, List.set_cons_succ]
      refine wpHB_ready (rs := [6, 10]) (by kernel_rfl) (by simp) ?_
      refine AllHB.cons (by kernel_rfl) (o := ⟨some 59, _, _, _, _, _⟩) rfl (fun K hK => ?_) ?_
      · go_simp
        (go_at_call 12; (with_reducible refine (HA3.out _ hHeld.out).mono ?_); rintro e wa ⟨⟨m2, rfl, hca, hof⟩, hba⟩)
        try (have ho := hof.mono fun b hb => Nat.ne_of_gt (Nat.lt_of_lt_of_le gp.lt hb))
        try (replace gp := gp.then_ hba)
        clear hof
        refine hK.out _ _ (Lib.hid (below_then hHeld.out hba)) (fun hHeld2 => ?_)
        clear hK K hHeld
        have hHeld := hHeld2
        clear hHeld2
        try simp only [Act.put, List.setIfInBounds_toArray, List.set_cons_zero, List.set_cons_succ]
        refine wpHB_take (i := 7) (oi := ⟨some 52, _, _, _, _, _⟩) hdir hsel hpan rfl (by kernel_rfl) (by kernel_rfl) (by kernel_rfl) (Or.inl ⟨by rfl, fun _ _ => by rfl⟩) (by assumption) ?_
        try simp only [Act.put, List.setIfInBounds_toArray, List.set_cons_zero, List.set_cons_succ]
        refine wpHB_take (i := 8) (oi := ⟨some 60, _, _, _, _, _⟩) hdir hsel hpan rfl (by kernel_rfl) (by kernel_rfl) (by kernel_rfl) (Or.inl ⟨by rfl, fun _ _ => by rfl⟩) (by assumption) ?_
        try simp only [Act.put, List.setIfInBounds_toArray, List.set_cons_zero, List.set_cons_succ]
        refine wpHB_take (i := 9) (oi := ⟨some 61, _, _, _, _, _⟩) hdir hsel hpan rfl (by kernel_rfl) (by kernel_rfl) (by kernel_rfl) (Or.inl ⟨by rfl, fun _ _ => by rfl⟩) (by assumption) ?_
        try simp only [Act.put, List.setIfInBounds_toArray, List.set_cons_zero, List.set_cons_succ]
        refine wpHB_ready (rs := [10]) (by kernel_rfl) (by simp) ?_
        refine AllHB.cons (by kernel_rfl) (o := ⟨some 12, _, _, _, _, _⟩) rfl (fun K hK => ?_) AllHB.nil
        go_simp
        have lla := hHeld.out.size
        refine name_k ?_
        intro Vp hVp
        obtain ⟨gp, hbp⟩ : _ ∧ _ := (by first | exact con_new hVp | exact con_new (W := u6.drew) hVp)
        try (have ho := hca.off.mono fun b hb => Nat.ne_of_lt hb)
        try (replace hca := hca.then_ hbp)
        try (replace gb := gb.then_ hbp)
        clear hVp
        refine hK.out _ _ (Lib.hid (below_then hHeld.out hbp)) (fun hHeld2 => ?_)
        clear hK K hHeld
        have hHeld := hHeld2
        clear hHeld2
        try simp only [Act.put, List.setIfInBounds_toArray, List.set_cons_zero, List.set_cons_succ]
        refine wpHB_ready (rs := [11]) (by kernel_rfl) (by simp) ?_
        refine AllHB.cons (by kernel_rfl) (o := ⟨none, _, _, _, _, _⟩) rfl (fun K hK => ?_) AllHB.nil
        rw [if_pos (by rfl)]
        refine wp_store_all 27 _ _ rfl _ 27 [] coZ.toList [] (coA D m2).toList rfl rfl gp rfl (by kernel_rfl) (by simp [Value.oneCell']) ?_
        intro w8 g8 U8
        refine hK.out _ _ (Lib.hid (hHeld.out.trans (U8.b _ lla))) (fun hHeld2 => ?_)
        clear hK K hHeld
        have hHeld := hHeld2
        clear hHeld2
        try simp only [Act.put]
        refine wpHB_tail (by kernel_rfl) (by kernel_rfl) ?_
        clear hdir hsel hpan
        simp only [opsAt, List.getElem?_toArray, List.getElem?_cons_succ, List.getElem?_cons_zero, Option.toList_some, List.cons_append, List.nil_append]
        go_wp2
        go_meet
        case rel => exact ⟨_, m2, rfl, rfl, g8, hca.upd U8 ho, hHeld.out⟩
      refine AllHB.cons (by kernel_rfl) (o := ⟨some 12, _, _, _, _, _⟩) rfl (fun K hK => ?_) ?_
      · go_simp
        have lla := hHeld.out.size
        refine name_k ?_
        intro Vp hVp
        obtain ⟨gp, hbp⟩ : _ ∧ _ := (by first | exact con_new hVp | exact con_new (W := u6.drew) hVp)
        try (have ho := hca.off.mono fun b hb => Nat.ne_of_lt hb)
        try (replace hca := hca.then_ hbp)
        try (replace gb := gb.then_ hbp)
        clear hVp
        refine hK.out _ _ (Lib.hid (below_then hHeld.out hbp)) (fun hHeld2 => ?_)
        clear hK K hHeld
        have hHeld := hHeld2
        clear hHeld2
        try simp only [Act.put, List.setIfInBounds_toArray, List.set_cons_zero, List.set_cons_succ]
        refine wpHB_ready (rs := [6]) (by kernel_rfl) (by simp) ?_
        refine AllHB.cons (by kernel_rfl) (o := ⟨some 59, _, _, _, _, _⟩) rfl (fun K hK => ?_) AllHB.nil
        go_simp
        (go_at_call 12; (with_reducible refine (HA3.out _ hHeld.out).mono ?_); rintro e wa ⟨⟨m2, rfl, hca, hof⟩, hba⟩)
        try (have ho := hof.mono fun b hb => Nat.ne_of_gt (Nat.lt_of_lt_of_le gp.lt hb))
        try (replace gp := gp.then_ hba)
        clear hof
        refine hK.out _ _ (Lib.hid (below_then hHeld.out hba)) (fun hHeld2 => ?_)
        clear hK K hHeld
        have hHeld := hHeld2
        clear hHeld2
        try simp only [Act.put, List.setIfInBounds_toArray, List.set_cons_zero, List.set_cons_succ]
        refine wpHB_take (i := 7) (oi := ⟨some 52, _, _, _, _, _⟩) hdir hsel hpan rfl (by kernel_rfl) (by kernel_rfl) (by kernel_rfl) (Or.inl ⟨by rfl, fun _ _ => by rfl⟩) (by assumption) ?_
        try simp only [Act.put, List.setIfInBounds_toArray, List.set_cons_zero, List.set_cons_succ]
        refine wpHB_take (i := 8) (oi := ⟨some 60, _, _, _, _, _⟩) hdir hsel hpan rfl (by kernel_rfl) (by kernel_rfl) (by kernel_rfl) (Or.inl ⟨by rfl, fun _ _ => by rfl⟩) (by assumption) ?_
        try simp only [Act.put, List.setIfInBounds_toArray, List.set_cons_zero, List.set_cons_succ]
        refine wpHB_take (i := 9) (oi := ⟨some 61, _, _, _, _, _⟩) hdir hsel hpan rfl (by kernel_rfl) (by kernel_rfl) (by kernel_rfl) (Or.inl ⟨by rfl, fun _ _ => by rfl⟩) (by assumption) ?_
        try simp only [Act.put, List.setIfInBounds_toArray, List.set_cons_zero, List.set_cons_succ]
        refine wpHB_ready (rs := [11]) (by kernel_rfl) (by simp) ?_
        refine AllHB.cons (by kernel_rfl) (o := ⟨none, _, _, _, _, _⟩) rfl (fun K hK => ?_) AllHB.nil
        rw [if_pos (by rfl)]
        refine wp_store_all 27 _ _ rfl _ 27 [] coZ.toList [] (coA D m2).toList rfl rfl gp rfl (by kernel_rfl) (by simp [Value.oneCell']) ?_
        intro w8 g8 U8
        refine hK.out _ _ (Lib.hid (hHeld.out.trans (U8.b _ lla))) (fun hHeld2 => ?_)
        clear hK K hHeld
        have hHeld := hHeld2
        clear hHeld2
        try simp only [Act.put]
        refine wpHB_tail (by kernel_rfl) (by kernel_rfl) ?_
        clear hdir hsel hpan
        simp only [opsAt, List.getElem?_toArray, List.getElem?_cons_succ, List.getElem?_cons_zero, Option.toList_some, List.cons_append, List.nil_append]
        go_wp2
        go_meet
        case rel => exact ⟨_, m2, rfl, rfl, g8, hca.upd U8 ho, hHeld.out⟩
      exact AllHB.nil
    obtain ⟨bd, md, rfl, rfl, gbd, hd, hbd⟩ := hcut
    obtain ⟨Wd, rfl⟩ : ∃ W, W = wc := ⟨_, rfl⟩
    have HWd := hbd
    have GB6 := gbu6.then_ hbd
    have HRZ : Hid (Wd.rangeAt kb ko [.int .i64 z.k.kind, .int .i64 z.k.role, .int .i64 z.k.act, .int .i64 z.k.need, .slice z.A z.k.start.length z.cap, .int .i64 z.k.aft, .int .i64 z.k.grace, .bool z.k.bus, .bool z.k.fin, .int .i64 z.k.pause, .int .i64 z.k.resume, .int .i64 z.k.v.1, .int .i64 z.k.v.2, .int .i64 z.k.unit, .int .i64 z.k.to_, .bool z.k.waived] ∧ kb < Wd.heap.size) := ⟨range_then HRG.out.1 hbd HRG.out.2, Nat.lt_of_lt_of_le HRG.out.2 hbd.size⟩
    have HH5 := hbd
    have HB5 := below_then HB4 HH5
    have gbc_5 := gbc_4.then_ HH5
    have gbp_5 := gbp_4.then_ HH5
    have gbq_5 := gbq_4.then_ HH5
    have gbu5_5 := gbu5_4.then_ HH5
    have hca_5 := hca_4.then_ HH5
    have gbu6_5 := gbu6.then_ HH5
    have hcb_5 := hcb.then_ HH5
    clear gbc_4 gbp_4 gbq_4 gbu5_4 hca_4 gbu6 hcb HB4 HH5
    obtain ⟨db, do_, ed, hdb, hdc⟩ := con_cells hd (by rw [HDL.out]; omega)
    obtain ⟨zd, hzd, ezd⟩ := km_at hd.e HDK.out
    have HRD : Hid (Wd.rangeAt db (do_ + LB * 16) (kL zd) ∧ db < Wd.heap.size) := ⟨fun j v hv => hdc LB _ hzd j v hv, hdb⟩
    have HZD : Hid (KOk Wd zd) := hd.t zd (List.mem_of_getElem? hzd)
    have HED := Lib.hid ed
    have HEZ := Lib.hid ezd
    have hixD := fun W => idx_at (t := 25) (size := 16) (A := some ⟨db, do_, none⟩) (cap := md.kc) (len := LB + 1) (k := LB) rfl (Nat.lt_succ_self _) (by kernel_rfl) (fun W => by kernel_rfl) W
    have hwi := wrap_small (n := LB) hLB
    clear ed hdb hdc hzd ezd
    have HSQ : Hid (∀ W, Below Wd.heap.size Wd W → Calls Tryz.prog 14 #[.agg #[.int .i64 zd.k.kind, .int .i64 zd.k.role, .int .i64 zd.k.act, .int .i64 zd.k.need, .slice zd.A zd.k.start.length zd.cap, .int .i64 zd.k.aft, .int .i64 zd.k.grace, .bool zd.k.bus, .bool zd.k.fin, .int .i64 zd.k.pause, .int .i64 zd.k.resume, .int .i64 zd.k.v.1, .int .i64 zd.k.v.2, .int .i64 zd.k.unit, .int .i64 zd.k.to_, .bool zd.k.waived], .agg #[.int .i64 z.k.kind, .int .i64 z.k.role, .int .i64 z.k.act, .int .i64 z.k.need, .slice z.A z.k.start.length z.cap, .int .i64 z.k.aft, .int .i64 z.k.grace, .bool z.k.bus, .bool z.k.fin, .int .i64 z.k.pause, .int .i64 z.k.resume, .int .i64 z.k.v.1, .int .i64 z.k.v.2, .int .i64 z.k.unit, .int .i64 z.k.to_, .bool z.k.waived]] W fun e w' => e = .returned (.bool true) ∧ Below W.heap.size W w') := fun W hb => scla_to zd z true W (HZD.out.then_ hb) (HZK.out.then_ (below_then HWd hb)) (by rw [HEZ.out]; simp)
    go_upto_region 13 with (fail)
    refine wp_region_hb (fun w' => Hid (Below Wd.heap.size Wd w')) [0, 1, 2, 3, 4, 5, 6, 7, 8, 9, 10, 11, 12, 13, 14, 15, 16, 17, 18, 19, 20, 21, 22, 23, 24, 25, 26] [27, 28, 29] (by kernel_rfl) (by kernel_rfl) (by repeat (first | with_reducible refine panOk_then ?_ | with_reducible refine panOk_block ?_ | exact panOk_body)) (Lib.hid (Below.drew (Below.refl _ _))) (fun hdir hsel hpan hHeld => ?_)
    refine wpHB_take (i := 0) (oi := ⟨some 62, _, _, _, _, _⟩) hdir hsel hpan rfl (by kernel_rfl) (by kernel_rfl) (by kernel_rfl) (Or.inl ⟨by rfl, fun _ _ => by rfl⟩) (by assumption) ?_
    try simp only [Act.put, List.setIfInBounds_toArray, List.set_cons_zero, List.set_cons_succ]
    refine wpHB_take (i := 1) (oi := ⟨some 63, _, _, _, _, _⟩) hdir hsel hpan rfl (by kernel_rfl) (by kernel_rfl) (by kernel_rfl) (Or.inl ⟨by rfl, fun _ _ => by rfl⟩) (by assumption) ?_
    try simp only [Act.put, List.setIfInBounds_toArray, List.set_cons_zero, List.set_cons_succ]
    refine wpHB_take (i := 2) (oi := ⟨some 64, _, _, _, _, _⟩) hdir hsel hpan rfl (by kernel_rfl) (by kernel_rfl) (by kernel_rfl) (Or.inl ⟨by rfl, fun _ _ => by rfl⟩) (by assumption) ?_
    try simp only [Act.put, List.setIfInBounds_toArray, List.set_cons_zero, List.set_cons_succ]
    refine wpHB_take (i := 3) (oi := ⟨some 65, _, _, _, _, _⟩) (v := .bool true) hdir hsel hpan rfl (by kernel_rfl) (by kernel_rfl) (by kernel_rfl) (Or.inl ⟨by rfl, fun w hw => by go_simp⟩) (by assumption) ?_
    try simp only [Act.put, List.setIfInBounds_toArray, List.set_cons_zero, List.set_cons_succ]
    refine wpHB_take (i := 4) (oi := ⟨some 66, _, _, _, _, _⟩) hdir hsel hpan rfl (by kernel_rfl) (by kernel_rfl) (by kernel_rfl) (Or.inl ⟨by rfl, fun _ _ => by rfl⟩) (by assumption) ?_
    try simp only [Act.put, List.setIfInBounds_toArray, List.set_cons_zero, List.set_cons_succ]
    refine wpHB_take (i := 5) (oi := ⟨some 67, _, _, _, _, _⟩) hdir hsel hpan rfl (by kernel_rfl) (by kernel_rfl) (by kernel_rfl) (Or.inl ⟨by rfl, fun _ _ => by rfl⟩) (by assumption) ?_
    try simp only [Act.put, List.setIfInBounds_toArray, List.set_cons_zero, List.set_cons_succ]
    refine wpHB_take (i := 6) (oi := ⟨some 68, _, _, _, _, _⟩) hdir hsel hpan rfl (by kernel_rfl) (by kernel_rfl) (by kernel_rfl) (Or.inl ⟨by rfl, fun _ _ => by rfl⟩) (by assumption) ?_
    try simp only [Act.put, List.setIfInBounds_toArray, List.set_cons_zero, List.set_cons_succ]
    refine wpHB_take (i := 7) (oi := ⟨some 69, _, _, _, _, _⟩) (v := .slice (some ⟨db, do_, none⟩) (LB + 1) md.kc) hdir hsel hpan rfl (by kernel_rfl) (by kernel_rfl) (by kernel_rfl) (Or.inl ⟨by rfl, fun w hw => by have hc := (show w.cell? ⟨bd, 4, none⟩ = some (.slice (some ⟨db, do_, none⟩) (LB + 1) md.kc) by rw [← HED.out, ← HDL.out]; exact (gbd.then_ hw.out).cell 4); go_simp⟩) (by assumption) ?_
    try simp only [Act.put, List.setIfInBounds_toArray, List.set_cons_zero, List.set_cons_succ]
    refine wpHB_take (i := 8) (oi := ⟨some 70, _, _, _, _, _⟩) (v := .int .i64 ((LB : Int) + 1)) hdir hsel hpan rfl (by kernel_rfl) (by kernel_rfl) (by kernel_rfl) (Or.inl ⟨by rfl, fun w hw => by go_simp⟩) (by assumption) ?_
    try simp only [Act.put, List.setIfInBounds_toArray, List.set_cons_zero, List.set_cons_succ]
    refine wpHB_take (i := 9) (oi := ⟨some 71, _, _, _, _, _⟩) hdir hsel hpan rfl (by kernel_rfl) (by kernel_rfl) (by kernel_rfl) (Or.inl ⟨by rfl, fun _ _ => by rfl⟩) (by assumption) ?_
    try simp only [Act.put, List.setIfInBounds_toArray, List.set_cons_zero, List.set_cons_succ]
    refine wpHB_take (i := 10) (oi := ⟨some 72, _, _, _, _, _⟩) (v := .slice (some ⟨kb, ko, none⟩) LB mb.kc) hdir hsel hpan rfl (by kernel_rfl) (by kernel_rfl) (by kernel_rfl) (Or.inl ⟨by rfl, fun w hw => by have hc := (show w.cell? ⟨bu6, 4, none⟩ = some (.slice (some ⟨kb, ko, none⟩) LB mb.kc) by rw [← HEK.out, ← HLB.out]; exact (GB6.then_ hw.out).cell 4); go_simp⟩) (by assumption) ?_
    try simp only [Act.put, List.setIfInBounds_toArray, List.set_cons_zero, List.set_cons_succ]
    refine wpHB_take (i := 11) (oi := ⟨some 73, _, _, _, _, _⟩) (v := .int .i64 (LB : Int)) hdir hsel hpan rfl (by kernel_rfl) (by kernel_rfl) (by kernel_rfl) (Or.inl ⟨by rfl, fun w hw => by go_simp⟩) (by assumption) ?_
    try simp only [Act.put, List.setIfInBounds_toArray, List.set_cons_zero, List.set_cons_succ]
    refine wpHB_take (i := 12) (oi := ⟨some 74, _, _, _, _, _⟩) (v := .int .i64 ((LB : Int) + 1)) hdir hsel hpan rfl (by kernel_rfl) (by kernel_rfl) (by kernel_rfl) (Or.inl ⟨by rfl, fun w hw => by go_simp⟩) (by assumption) ?_
    try simp only [Act.put, List.setIfInBounds_toArray, List.set_cons_zero, List.set_cons_succ]
    refine wpHB_take (i := 13) (oi := ⟨some 75, _, _, _, _, _⟩) (v := .bool true) hdir hsel hpan rfl (by kernel_rfl) (by kernel_rfl) (by kernel_rfl) (Or.inl ⟨by rfl, fun w hw => by go_simp⟩) (by assumption) ?_
    try simp only [Act.put, List.setIfInBounds_toArray, List.set_cons_zero, List.set_cons_succ]
    refine wpHB_take (i := 14) (oi := ⟨some 76, _, _, _, _, _⟩) hdir hsel hpan rfl (by kernel_rfl) (by kernel_rfl) (by kernel_rfl) (Or.inl ⟨by rfl, fun _ _ => by rfl⟩) (by assumption) ?_
    try simp only [Act.put, List.setIfInBounds_toArray, List.set_cons_zero, List.set_cons_succ]
    refine wpHB_take (i := 15) (oi := ⟨some 77, _, _, _, _, _⟩) hdir hsel hpan rfl (by kernel_rfl) (by kernel_rfl) (by kernel_rfl) (Or.inl ⟨by rfl, fun _ _ => by rfl⟩) (by assumption) ?_
    try simp only [Act.put, List.setIfInBounds_toArray, List.set_cons_zero, List.set_cons_succ]
    refine wpHB_take (i := 16) (oi := ⟨some 78, _, _, _, _, _⟩) hdir hsel hpan rfl (by kernel_rfl) (by kernel_rfl) (by kernel_rfl) (Or.inl ⟨by rfl, fun _ _ => by rfl⟩) (by assumption) ?_
    try simp only [Act.put, List.setIfInBounds_toArray, List.set_cons_zero, List.set_cons_succ]
    refine wpHB_take (i := 17) (oi := ⟨some 79, _, _, _, _, _⟩) (v := .slice (some ⟨db, do_, none⟩) (LB + 1) md.kc) hdir hsel hpan rfl (by kernel_rfl) (by kernel_rfl) (by kernel_rfl) (Or.inl ⟨by rfl, fun w hw => by have hc := (show w.cell? ⟨bd, 4, none⟩ = some (.slice (some ⟨db, do_, none⟩) (LB + 1) md.kc) by rw [← HED.out, ← HDL.out]; exact (gbd.then_ hw.out).cell 4); go_simp⟩) (by assumption) ?_
    try simp only [Act.put, List.setIfInBounds_toArray, List.set_cons_zero, List.set_cons_succ]
    refine wpHB_take (i := 18) (oi := ⟨some 80, _, _, _, _, _⟩) hdir hsel hpan rfl (by kernel_rfl) (by kernel_rfl) (by kernel_rfl) (Or.inl ⟨by rfl, fun _ _ => by rfl⟩) (by assumption) ?_
    try simp only [Act.put, List.setIfInBounds_toArray, List.set_cons_zero, List.set_cons_succ]
    refine wpHB_take (i := 19) (oi := ⟨some 81, _, _, _, _, _⟩) (v := .slice (some ⟨kb, ko, none⟩) LB mb.kc) hdir hsel hpan rfl (by kernel_rfl) (by kernel_rfl) (by kernel_rfl) (Or.inl ⟨by rfl, fun w hw => by have hc := (show w.cell? ⟨bu6, 4, none⟩ = some (.slice (some ⟨kb, ko, none⟩) LB mb.kc) by rw [← HEK.out, ← HLB.out]; exact (GB6.then_ hw.out).cell 4); go_simp⟩) (by assumption) ?_
    try simp only [Act.put, List.setIfInBounds_toArray, List.set_cons_zero, List.set_cons_succ]
    refine wpHB_take (i := 20) (oi := ⟨some 82, _, _, _, _, _⟩) (v := .int .i64 (LB : Int)) hdir hsel hpan rfl (by kernel_rfl) (by kernel_rfl) (by kernel_rfl) (Or.inl ⟨by rfl, fun w hw => by go_simp⟩) (by assumption) ?_
    try simp only [Act.put, List.setIfInBounds_toArray, List.set_cons_zero, List.set_cons_succ]
    refine wpHB_take (i := 21) (oi := ⟨some 83, _, _, _, _, _⟩) (v := .pointer (some ⟨db, do_ + LB * 16, none⟩)) hdir hsel hpan rfl (by kernel_rfl) (by kernel_rfl) (by kernel_rfl) (Or.inl ⟨by rfl, fun w hw => by go_simp⟩) (by assumption) ?_
    try simp only [Act.put, List.setIfInBounds_toArray, List.set_cons_zero, List.set_cons_succ]
    refine wpHB_take (i := 22) (oi := ⟨some 84, _, _, _, _, _⟩) hdir hsel hpan rfl (by kernel_rfl) (by kernel_rfl) (by kernel_rfl) (yieldsIf_load_mid (by rfl) 32 _ rfl db _ rfl (kL zd) _ (fun w hw => (range_then HRD.out.1 hw.out HRD.out.2)) Tryz.underlying32 rfl (by kernel_rfl)) (by assumption) ?_
    try simp only [Act.put, List.setIfInBounds_toArray, List.set_cons_zero, List.set_cons_succ]
    refine wpHB_take (i := 23) (oi := ⟨some 85, _, _, _, _, _⟩) hdir hsel hpan rfl (by kernel_rfl) (by kernel_rfl) (by kernel_rfl) (Or.inl ⟨by rfl, fun _ _ => by rfl⟩) (by assumption) ?_
    try simp only [Act.put, List.setIfInBounds_toArray, List.set_cons_zero, List.set_cons_succ]
    refine wpHB_take (i := 24) (oi := ⟨some 86, _, _, _, _, _⟩) (v := .slice (some ⟨kb, ko, none⟩) LB mb.kc) hdir hsel hpan rfl (by kernel_rfl) (by kernel_rfl) (by kernel_rfl) (Or.inl ⟨by rfl, fun w hw => by have hc := (show w.cell? ⟨bu6, 4, none⟩ = some (.slice (some ⟨kb, ko, none⟩) LB mb.kc) by rw [← HEK.out, ← HLB.out]; exact (GB6.then_ hw.out).cell 4); go_simp⟩) (by assumption) ?_
    try simp only [Act.put, List.setIfInBounds_toArray, List.set_cons_zero, List.set_cons_succ]
    refine wpHB_take (i := 25) (oi := ⟨some 87, _, _, _, _, _⟩) (v := .pointer (some ⟨kb, ko, none⟩)) hdir hsel hpan rfl (by kernel_rfl) (by kernel_rfl) (by kernel_rfl) (Or.inl ⟨by rfl, fun w hw => by go_simp⟩) (by assumption) ?_
    try simp only [Act.put, List.setIfInBounds_toArray, List.set_cons_zero, List.set_cons_succ]
    refine wpHB_take (i := 26) (oi := ⟨some 88, _, _, _, _, _⟩) hdir hsel hpan rfl (by kernel_rfl) (by kernel_rfl) (by kernel_rfl) (yieldsIf_load_mid (by rfl) 32 _ rfl kb _ rfl [.int .i64 z.k.kind, .int .i64 z.k.role, .int .i64 z.k.act, .int .i64 z.k.need, .slice z.A z.k.start.length z.cap, .int .i64 z.k.aft, .int .i64 z.k.grace, .bool z.k.bus, .bool z.k.fin, .int .i64 z.k.pause, .int .i64 z.k.resume, .int .i64 z.k.v.1, .int .i64 z.k.v.2, .int .i64 z.k.unit, .int .i64 z.k.to_, .bool z.k.waived] _ (fun w hw => (range_then HRZ.out.1 hw.out HRZ.out.2)) Tryz.underlying32 rfl (by kernel_rfl)) (by assumption) ?_
    try simp only [Act.put, List.setIfInBounds_toArray, List.set_cons_zero, List.set_cons_succ]
    refine wpHB_tail (by kernel_rfl) (by kernel_rfl) ?_
    clear hdir hsel hpan
    simp only [opsAt, List.getElem?_toArray, List.getElem?_cons_succ, List.getElem?_cons_zero, Option.toList_some, List.cons_append, List.nil_append]
    go_wp2_with (go_at_call 14; (with_reducible refine (HSQ.out _ hHeld.out).mono ?_); rintro e wz ⟨rfl, hbz⟩)
    go_ret
    exact ⟨rfl, below_then (below_then HB5 hHeld.out) hbz⟩
  · have tF : (F != 0) = true := by rw [bne_iff_ne]; exact hF
    have HV : Hid (C1.ok = true ∧ C1.cl.length ≤ 42) := ⟨hk1.1, by omega⟩
    clear eE eC1 eF eC2 hk1 hC hP hQ hn hF
    go_enter Tryz.func4, Tryz.ntmps4
    go_upto_region 1 with (fail)
    refine name_wp ?_
    intro X0 hX
    have gbc : Blk X0 w.heap.size 27 (coA c m) := by rw [hX]; exact ((blk_at (by simp)).alloc _).alloc _
    have gbp : Blk X0 (w.heap.size + 1) 34 (pL x.p x.m) := by rw [hX]; exact (blk_at (by simp)).alloc _
    have gbq : Blk X0 (w.heap.size + 2) 34 (pL y.p y.m) := by rw [hX]; exact blk_at (by simp)
    have HB0 : Below w.heap.size w X0 := by rw [hX]; (repeat (first | with_reducible assumption | with_reducible exact Below.refl _ _ | with_reducible refine below_drewN ?_ _ | with_reducible refine Below.drew ?_ | with_reducible refine below_alloc ?_ _ | with_reducible refine Below.setCell ?_ (by first | omega | (simp; done) | (simp; omega)) _ | with_reducible refine below_then ?_ (by with_reducible assumption) | (refine below_then (a := World.drew _) ?_ (by with_reducible assumption))))
    clear hX
    obtain ⟨bq, ebq⟩ : ∃ b, w.heap.size + 2 = b := ⟨_, rfl⟩
    obtain ⟨bp, ebp⟩ : ∃ b, w.heap.size + 1 = b := ⟨_, rfl⟩
    obtain ⟨bc, ebc⟩ : ∃ b, w.heap.size = b := ⟨_, rfl⟩
    have lbc : w.heap.size ≤ bc := by omega
    have lbp : w.heap.size ≤ bp := by omega
    have lbq : w.heap.size ≤ bq := by omega
    have nbcbp : bc ≠ bp := by omega
    have nbcbq : bc ≠ bq := by omega
    have nbpbq : bp ≠ bq := by omega
    rw [ebq] at gbq ⊢
    rw [ebp] at gbp ⊢
    rw [ebc] at gbc ⊢
    clear ebc ebp ebq
    go_upto_region 2 with ((go_at_call 9; (with_reducible refine (HH.out _ HB0).mono ?_); rintro e w1 ⟨rfl, hbw1⟩))
    have HH1 := hbw1
    have HB1 := below_then HB0 HH1
    have gbc_1 := gbc.then_ HH1
    have gbp_1 := gbp.then_ HH1
    have gbq_1 := gbq.then_ HH1
    clear gbc gbp gbq HB0 HH1
    go_upto_region 4 with (first | (refine wpList_row_w (by rfl) 27 _ rfl bc rfl 27 _ gbc_1 ⟨_, Tryz.underlying27⟩ (by kernel_rfl) ?_; simp only [Act.put, List.setIfInBounds_toArray, List.set_cons_succ, List.set_cons_zero]) | (go_at_call 10; (with_reducible refine (HS1.out _ HB1).mono ?_); rintro e w2 ⟨rfl, hbw2⟩; have gp2 := gbp_1.then_ hbw2; have gq2 := gbq_1.then_ hbw2) | (refine wpList_row_w (by rfl) 34 _ rfl bp rfl 34 _ gp2 ⟨_, Tryz.underlying34⟩ (by kernel_rfl) ?_; simp only [Act.put, List.setIfInBounds_toArray, List.set_cons_succ, List.set_cons_zero]) | (go_at_call 11; (with_reducible refine (HS2.out _).mono ?_); rintro e w3 ⟨rfl, hbw3⟩; have gq3 := gq2.then_ hbw3) | (refine wpList_row_w (by rfl) 34 _ rfl bq rfl 34 _ gq3 ⟨_, Tryz.underlying34⟩ (by kernel_rfl) ?_; simp only [Act.put, List.setIfInBounds_toArray, List.set_cons_succ, List.set_cons_zero]) | (go_at_call 11; (with_reducible refine (HS3.out _).mono ?_); rintro e w4 ⟨rfl, hbw4⟩))
    have HH2 := below_then (below_then hbw2 hbw3) hbw4
    have HB2 := below_then HB1 HH2
    have gbc_2 := gbc_1.then_ HH2
    have gbp_2 := gbp_1.then_ HH2
    have gbq_2 := gbq_1.then_ HH2
    clear gbc_1 gbp_1 gbq_1 HB1 HH2
    clear gp2 gq2 gq3
    go_upto_region 7 with (first | (refine wpList_row_w (by rfl) 27 _ rfl bc rfl 27 _ gbc_2 ⟨_, Tryz.underlying27⟩ (by kernel_rfl) ?_; simp only [Act.put, List.setIfInBounds_toArray, List.set_cons_succ, List.set_cons_zero]) | (refine wpList_row_w (by rfl) 34 _ rfl bp rfl 34 _ gbp_2 ⟨_, Tryz.underlying34⟩ (by kernel_rfl) ?_; simp only [Act.put, List.setIfInBounds_toArray, List.set_cons_succ, List.set_cons_zero]) | (go_at_call 12; (with_reducible refine (HA1.out _ HB2).mono ?_); rintro e w5 ⟨⟨ma, rfl, hca0⟩, hbw5⟩) | (refine wpList_store_all rfl 27 _ _ rfl w5.heap.size 27 [] coZ.toList [] (coA C1 ma).toList rfl rfl (Blk.new _ _ _) rfl (by kernel_rfl) (by simp [Value.oneCell']) ?_; intro u5 gbu5 Uu5))
    have hsu5 : Below w5.heap.size w5 u5 := (wa1 _ _).trans (Uu5.b _ (Nat.le_refl _))
    have HH3 := below_then hbw5 hsu5
    have HB3 := below_then HB2 HH3
    have gbc_3 := gbc_2.then_ HH3
    have gbp_3 := gbp_2.then_ HH3
    have gbq_3 := gbq_2.then_ HH3
    clear gbc_2 gbp_2 gbq_2 HB2 HH3
    have hca := hca0.then_ hsu5
    obtain ⟨bu5, ebu5⟩ : ∃ b, w5.heap.size = b := ⟨_, rfl⟩
    rw [ebu5] at gbu5 ⊢
    clear ebu5 Uu5 hsu5 hbw5 hca0
    go_upto_region 8 with (first | (refine wpList_row_w (by rfl) 27 _ rfl bu5 rfl 27 _ gbu5 ⟨_, Tryz.underlying27⟩ (by kernel_rfl) ?_; simp only [Act.put, List.setIfInBounds_toArray, List.set_cons_succ, List.set_cons_zero]) | (refine wpList_row_w (by rfl) 34 _ rfl bq rfl 34 _ gbq_3 ⟨_, Tryz.underlying34⟩ (by kernel_rfl) ?_; simp only [Act.put, List.setIfInBounds_toArray, List.set_cons_succ, List.set_cons_zero]) | (go_at_call 12; (with_reducible refine (HA2.out _ ma hca HB3).mono ?_); rintro e w6 ⟨⟨mb, rfl, hcb0⟩, hbw6⟩) | (refine wpList_store_all rfl 27 _ _ rfl w6.heap.size 27 [] coZ.toList [] (coA C2 mb).toList rfl rfl (Blk.new _ _ _) rfl (by kernel_rfl) (by simp [Value.oneCell']) ?_; intro u6 gbu6 Uu6))
    have OFA : Hid (Off (· ≠ w6.heap.size) C1 ma) := ((hca.then_ hbw6).off).mono fun b hb => Nat.ne_of_lt hb
    have HW6 : Hid (w.heap.size ≤ w6.heap.size) := by unfold Hid; have := HB3.size; have := hbw6.size; omega
    have hsu6 : Below w6.heap.size w6 u6 := (wa1 _ _).trans (Uu6.b _ (Nat.le_refl _))
    have HH4 := below_then hbw6 hsu6
    have HB4 := below_then HB3 HH4
    have gbc_4 := gbc_3.then_ HH4
    have gbp_4 := gbp_3.then_ HH4
    have gbq_4 := gbq_3.then_ HH4
    have gbu5_4 := gbu5.then_ HH4
    have hca_4 := hca.then_ HH4
    clear gbc_3 gbp_3 gbq_3 gbu5 hca HB3 HH4
    have hcb := hcb0.then_ hsu6
    obtain ⟨bu6, ebu6⟩ : ∃ b, w6.heap.size = b := ⟨_, rfl⟩
    rw [ebu6] at gbu6 HW6 ⊢
    rw [ebu6] at OFA
    clear ebu6 Uu6 hsu6 hbw6 hcb0
    skip
    go_upto_region 10 with (first | (refine wpList_row_w (by rfl) 27 _ rfl bu5 rfl 27 _ gbu5_4 ⟨_, Tryz.underlying27⟩ (by kernel_rfl) ?_; simp only [Act.put, List.setIfInBounds_toArray, List.set_cons_succ, List.set_cons_zero]) | (refine wpList_store_all rfl 27 _ _ rfl bu6 27 [] (coA C2 mb).toList [] (coA C1 ma).toList rfl rfl gbu6 rfl (by kernel_rfl) (by simp [Value.oneCell']) ?_; intro u9 gb9 U9))
    have HB9 := HB4.trans (U9.b _ HW6.out)
    have hca9 := hca_4.upd U9 OFA.out
    clear U9 OFA HB4 gbc_4 gbp_4 gbq_4 gbu5_4 hca_4 gbu6 hcb
    have c4 : u9.cell? ⟨bu6, 4, none⟩ = some (.slice ma.k C1.cl.length ma.kc) := gb9.cell 4
    by_cases h0 : C1.cl.length = 0
    · have tz : ((C1.cl.length : Int) == 0) = true := by rw [beq_iff_eq]; omega
      clear h0
      go_wp2_with (fail)
      go_ret
      exact ⟨rfl, HB9⟩
    have tz : ((C1.cl.length : Int) == 0) = false := by rw [beq_eq_false_iff_ne]; omega
    go_upto_region 12 with (fail)
    clear c4
    obtain ⟨k0, hk0⟩ : ∃ k, C1.cl[0]? = some k := ⟨_, List.getElem?_eq_getElem (by omega)⟩
    obtain ⟨z, hz, ez⟩ := km_at hca9.e hk0
    subst ez
    obtain ⟨kb, ko, ek, hkb, hkc⟩ := con_cells hca9 (by omega)
    have hzk : KOk u9 z := hca9.t z (List.mem_of_getElem? hz)
    have HRG : Hid (u9.rangeAt kb ko [.int .i64 z.k.kind, .int .i64 z.k.role, .int .i64 z.k.act, .int .i64 z.k.need, .slice z.A z.k.start.length z.cap, .int .i64 z.k.aft, .int .i64 z.k.grace, .bool z.k.bus, .bool z.k.fin, .int .i64 z.k.pause, .int .i64 z.k.resume, .int .i64 z.k.v.1, .int .i64 z.k.v.2, .int .i64 z.k.unit, .int .i64 z.k.to_, .bool z.k.waived] ∧ kb < u9.heap.size) := ⟨fun j v hv => by have := hkc 0 _ hz j v hv; simpa using this, hkb⟩
    have HEK := Lib.hid ek
    have HZK := Lib.hid hzk
    have hvl := valid_law HV.out.1 hk0 (by have := HV.out.2; omega)
    obtain ⟨D, eD⟩ : ∃ D, C1.apC (.addq z.k) = D := ⟨_, rfl⟩
    have eD' : D = C1.wc (C1.cl ++ [z.k]) := by rw [← eD, apC_yes hvl.1, hvl.2]
    obtain ⟨LB, eLB⟩ : ∃ L, C1.cl.length = L := ⟨_, rfl⟩
    have hDl : D.cl.length = LB + 1 := by rw [eD', ← eLB]; show (C1.cl ++ [z.k]).length = _; simp
    have hDk : D.cl[LB]? = some z.k := by rw [eD', ← eLB]; show (C1.cl ++ [z.k])[_]? = _; simp
    have HA3 : Hid (∀ W, Below u9.heap.size u9 W → Calls Tryz.prog 12 #[.agg (coA C1 ma), .agg #[.int .i64 1, .slice none 0 0, .int .i64 z.k.kind, .int .i64 z.k.role, .int .i64 z.k.act, .int .i64 z.k.need, .slice z.A z.k.start.length z.cap, .int .i64 z.k.aft, .int .i64 z.k.grace, .bool z.k.bus, .bool z.k.fin, .int .i64 z.k.pause, .int .i64 z.k.resume, .int .i64 z.k.v.1, .int .i64 z.k.v.2, .int .i64 z.k.unit, .int .i64 z.k.to_, .bool z.k.waived, .int .i64 0]] W fun e w' => (∃ m', e = .returned (.tuple #[.agg (coA D m'), .int .i64 0]) ∧ Cont w' D m' ∧ Off (W.heap.size ≤ ·) D m') ∧ Below W.heap.size W w') := fun W hb => apply_off C1 D ma (.addq z.k) ⟨none, 0, z.A, z.cap⟩ 0 W (hca9.then_ hb) (patM_add (hzk.then_ hb)) hvl.1 eD
    have hLB : LB ≤ 1000000 := by have := HV.out.2; omega
    have HLB := Lib.hid eLB
    have HDL := Lib.hid hDl
    have HDK := Lib.hid hDk
    have hLp : 0 < LB := by omega
    clear hk0 hz ek hkb hkc hzk hvl eD eD' hDl hDk h0 eLB tz
    go_upto_region 12 with (fail)
    go_cut [12, 13] from 52 to 61 (fun v12 v13 W => ∃ q m, v12 = .pointer (some ⟨q, 0, none⟩) ∧ v13 = .int .i64 0 ∧ Blk W q 27 (coA D m) ∧ Cont W D m ∧ Below u9.heap.size u9 W)
    case first =>
      refine wp_region_hb (fun w' => Hid (Below u9.heap.size u9 w')) [0, 1, 2, 3, 4, 5, 6, 7, 8, 9, 10, 11] [12] (by kernel_rfl) (by kernel_rfl) (by repeat (first | with_reducible refine panOk_then ?_ | with_reducible refine panOk_block ?_ | exact panOk_body)) (Lib.hid (Below.drew (Below.refl _ _))) (fun hdir hsel hpan hHeld => ?_)
      refine wpHB_take (i := 0) (oi := ⟨some 53, _, _, _, _, _⟩) hdir hsel hpan rfl (by kernel_rfl) (by kernel_rfl) (by kernel_rfl) (yieldsIf_row (by rfl) 27 _ rfl bu6 rfl 27 _ (fun w hw => (gb9.then_ hw.out)) ⟨_, Tryz.underlying27⟩ (by kernel_rfl)) (by assumption) ?_
      try simp only [Act.put, List.setIfInBounds_toArray, List.set_cons_zero, List.set_cons_succ]
      refine wpHB_take (i := 1) (oi := ⟨some 54, _, _, _, _, _⟩) hdir hsel hpan rfl (by kernel_rfl) (by kernel_rfl) (by kernel_rfl) (Or.inl ⟨by rfl, fun _ _ => by rfl⟩) (by assumption) ?_
      try simp only [Act.put, List.setIfInBounds_toArray, List.set_cons_zero, List.set_cons_succ]
      refine wpHB_take (i := 2) (oi := ⟨some 55, _, _, _, _, _⟩) (v := .slice (some ⟨kb, ko, none⟩) LB ma.kc) hdir hsel hpan rfl (by kernel_rfl) (by kernel_rfl) (by kernel_rfl) (Or.inl ⟨by rfl, fun w hw => by have hc := (show w.cell? ⟨bu6, 4, none⟩ = some (.slice (some ⟨kb, ko, none⟩) LB ma.kc) by rw [← HEK.out, ← HLB.out]; exact (gb9.then_ hw.out).cell 4); go_simp⟩) (by assumption) ?_
      try simp only [Act.put, List.setIfInBounds_toArray, List.set_cons_zero, List.set_cons_succ]
      refine wpHB_take (i := 3) (oi := ⟨some 56, _, _, _, _, _⟩) (v := .pointer (some ⟨kb, ko, none⟩)) hdir hsel hpan rfl (by kernel_rfl) (by kernel_rfl) (by kernel_rfl) (Or.inl ⟨by rfl, fun w hw => by go_simp⟩) (by assumption) ?_
      try simp only [Act.put, List.setIfInBounds_toArray, List.set_cons_zero, List.set_cons_succ]
      refine wpHB_take (i := 4) (oi := ⟨some 57, _, _, _, _, _⟩) hdir hsel hpan rfl (by kernel_rfl) (by kernel_rfl) (by kernel_rfl) (yieldsIf_load_mid (by rfl) 32 _ rfl kb _ rfl [.int .i64 z.k.kind, .int .i64 z.k.role, .int .i64 z.k.act, .int .i64 z.k.need, .slice z.A z.k.start.length z.cap, .int .i64 z.k.aft, .int .i64 z.k.grace, .bool z.k.bus, .bool z.k.fin, .int .i64 z.k.pause, .int .i64 z.k.resume, .int .i64 z.k.v.1, .int .i64 z.k.v.2, .int .i64 z.k.unit, .int .i64 z.k.to_, .bool z.k.waived] _ (fun w hw => (range_then HRG.out.1 hw.out HRG.out.2)) Tryz.underlying32 rfl (by kernel_rfl)) (by assumption) ?_
      try simp only [Act.put, List.setIfInBounds_toArray, List.set_cons_zero, List.set_cons_succ]
      refine wpHB_take (i := 5) (oi := ⟨some 58, _, _, _, _, _⟩) (v := .agg #[.int .i64 1, .slice none 0 0, .int .i64 z.k.kind, .int .i64 z.k.role, .int .i64 z.k.act, .int .i64 z.k.need, .slice z.A z.k.start.length z.cap, .int .i64 z.k.aft, .int .i64 z.k.grace, .bool z.k.bus, .bool z.k.fin, .int .i64 z.k.pause, .int .i64 z.k.resume, .int .i64 z.k.v.1, .int .i64 z.k.v.2, .int .i64 z.k.unit, .int .i64 z.k.to_, .bool z.k.waived, .int .i64 0]) hdir hsel hpan rfl (by kernel_rfl) (by kernel_rfl) (by kernel_rfl) (Or.inl ⟨by rfl, fun w hw => by go_simp⟩) (by assumption) ?_
      try simp only [Act.put, List.setIfInBounds_toArray, List.set_cons_zero, List.set_cons_succ]
      refine wpHB_ready (rs := [6, 10]) (by kernel_rfl) (by simp) ?_
      refine AllHB.cons (by kernel_rfl) (o := ⟨some 59, _, _, _, _, _⟩) rfl (fun K hK => ?_) ?_
      · go_simp
        (go_at_call 12; (with_reducible refine (HA3.out _ hHeld.out).mono ?_); rintro e wa ⟨⟨m2, rfl, hca, hof⟩, hba⟩)
        try (have ho := hof.mono fun b hb => Nat.ne_of_gt (Nat.lt_of_lt_of_le gp.lt hb))
        try (replace gp := gp.then_ hba)
        clear hof
        refine hK.out _ _ (Lib.hid (below_then hHeld.out hba)) (fun hHeld2 => ?_)
        clear hK K hHeld
        have hHeld := hHeld2
        clear hHeld2
        try simp only [Act.put, List.setIfInBounds_toArray, List.set_cons_zero, List.set_cons_succ]
        refine wpHB_take (i := 7) (oi := ⟨some 52, _, _, _, _, _⟩) hdir hsel hpan rfl (by kernel_rfl) (by kernel_rfl) (by kernel_rfl) (Or.inl ⟨by rfl, fun _ _ => by rfl⟩) (by assumption) ?_
        try simp only [Act.put, List.setIfInBounds_toArray, List.set_cons_zero, List.set_cons_succ]
        refine wpHB_take (i := 8) (oi := ⟨some 60, _, _, _, _, _⟩) hdir hsel hpan rfl (by kernel_rfl) (by kernel_rfl) (by kernel_rfl) (Or.inl ⟨by rfl, fun _ _ => by rfl⟩) (by assumption) ?_
        try simp only [Act.put, List.setIfInBounds_toArray, List.set_cons_zero, List.set_cons_succ]
        refine wpHB_take (i := 9) (oi := ⟨some 61, _, _, _, _, _⟩) hdir hsel hpan rfl (by kernel_rfl) (by kernel_rfl) (by kernel_rfl) (Or.inl ⟨by rfl, fun _ _ => by rfl⟩) (by assumption) ?_
        try simp only [Act.put, List.setIfInBounds_toArray, List.set_cons_zero, List.set_cons_succ]
        refine wpHB_ready (rs := [10]) (by kernel_rfl) (by simp) ?_
        refine AllHB.cons (by kernel_rfl) (o := ⟨some 12, _, _, _, _, _⟩) rfl (fun K hK => ?_) AllHB.nil
        go_simp
        have lla := hHeld.out.size
        refine name_k ?_
        intro Vp hVp
        obtain ⟨gp, hbp⟩ : _ ∧ _ := (by first | exact con_new hVp | exact con_new (W := u9.drew) hVp)
        try (have ho := hca.off.mono fun b hb => Nat.ne_of_lt hb)
        try (replace hca := hca.then_ hbp)
        try (replace gb := gb.then_ hbp)
        clear hVp
        refine hK.out _ _ (Lib.hid (below_then hHeld.out hbp)) (fun hHeld2 => ?_)
        clear hK K hHeld
        have hHeld := hHeld2
        clear hHeld2
        try simp only [Act.put, List.setIfInBounds_toArray, List.set_cons_zero, List.set_cons_succ]
        refine wpHB_ready (rs := [11]) (by kernel_rfl) (by simp) ?_
        refine AllHB.cons (by kernel_rfl) (o := ⟨none, _, _, _, _, _⟩) rfl (fun K hK => ?_) AllHB.nil
        rw [if_pos (by rfl)]
        refine wp_store_all 27 _ _ rfl _ 27 [] coZ.toList [] (coA D m2).toList rfl rfl gp rfl (by kernel_rfl) (by simp [Value.oneCell']) ?_
        intro w8 g8 U8
        refine hK.out _ _ (Lib.hid (hHeld.out.trans (U8.b _ lla))) (fun hHeld2 => ?_)
        clear hK K hHeld
        have hHeld := hHeld2
        clear hHeld2
        try simp only [Act.put]
        refine wpHB_tail (by kernel_rfl) (by kernel_rfl) ?_
        clear hdir hsel hpan
        simp only [opsAt, List.getElem?_toArray, List.getElem?_cons_succ, List.getElem?_cons_zero, Option.toList_some, List.cons_append, List.nil_append]
        go_wp2
        go_meet
        case rel => exact ⟨_, m2, rfl, rfl, g8, hca.upd U8 ho, hHeld.out⟩
      refine AllHB.cons (by kernel_rfl) (o := ⟨some 12, _, _, _, _, _⟩) rfl (fun K hK => ?_) ?_
      · go_simp
        have lla := hHeld.out.size
        refine name_k ?_
        intro Vp hVp
        obtain ⟨gp, hbp⟩ : _ ∧ _ := (by first | exact con_new hVp | exact con_new (W := u9.drew) hVp)
        try (have ho := hca.off.mono fun b hb => Nat.ne_of_lt hb)
        try (replace hca := hca.then_ hbp)
        try (replace gb := gb.then_ hbp)
        clear hVp
        refine hK.out _ _ (Lib.hid (below_then hHeld.out hbp)) (fun hHeld2 => ?_)
        clear hK K hHeld
        have hHeld := hHeld2
        clear hHeld2
        try simp only [Act.put, List.setIfInBounds_toArray, List.set_cons_zero, List.set_cons_succ]
        refine wpHB_ready (rs := [6]) (by kernel_rfl) (by simp) ?_
        refine AllHB.cons (by kernel_rfl) (o := ⟨some 59, _, _, _, _, _⟩) rfl (fun K hK => ?_) AllHB.nil
        go_simp
        (go_at_call 12; (with_reducible refine (HA3.out _ hHeld.out).mono ?_); rintro e wa ⟨⟨m2, rfl, hca, hof⟩, hba⟩)
        try (have ho := hof.mono fun b hb => Nat.ne_of_gt (Nat.lt_of_lt_of_le gp.lt hb))
        try (replace gp := gp.then_ hba)
        clear hof
        refine hK.out _ _ (Lib.hid (below_then hHeld.out hba)) (fun hHeld2 => ?_)
        clear hK K hHeld
        have hHeld := hHeld2
        clear hHeld2
        try simp only [Act.put, List.setIfInBounds_toArray, List.set_cons_zero, List.set_cons_succ]
        refine wpHB_take (i := 7) (oi := ⟨some 52, _, _, _, _, _⟩) hdir hsel hpan rfl (by kernel_rfl) (by kernel_rfl) (by kernel_rfl) (Or.inl ⟨by rfl, fun _ _ => by rfl⟩) (by assumption) ?_
        try simp only [Act.put, List.setIfInBounds_toArray, List.set_cons_zero, List.set_cons_succ]
        refine wpHB_take (i := 8) (oi := ⟨some 60, _, _, _, _, _⟩) hdir hsel hpan rfl (by kernel_rfl) (by kernel_rfl) (by kernel_rfl) (Or.inl ⟨by rfl, fun _ _ => by rfl⟩) (by assumption) ?_
        try simp only [Act.put, List.setIfInBounds_toArray, List.set_cons_zero, List.set_cons_succ]
        refine wpHB_take (i := 9) (oi := ⟨some 61, _, _, _, _, _⟩) hdir hsel hpan rfl (by kernel_rfl) (by kernel_rfl) (by kernel_rfl) (Or.inl ⟨by rfl, fun _ _ => by rfl⟩) (by assumption) ?_
        try simp only [Act.put, List.setIfInBounds_toArray, List.set_cons_zero, List.set_cons_succ]
        refine wpHB_ready (rs := [11]) (by kernel_rfl) (by simp) ?_
        refine AllHB.cons (by kernel_rfl) (o := ⟨none, _, _, _, _, _⟩) rfl (fun K hK => ?_) AllHB.nil
        rw [if_pos (by rfl)]
        refine wp_store_all 27 _ _ rfl _ 27 [] coZ.toList [] (coA D m2).toList rfl rfl gp rfl (by kernel_rfl) (by simp [Value.oneCell']) ?_
        intro w8 g8 U8
        refine hK.out _ _ (Lib.hid (hHeld.out.trans (U8.b _ lla))) (fun hHeld2 => ?_)
        clear hK K hHeld
        have hHeld := hHeld2
        clear hHeld2
        try simp only [Act.put]
        refine wpHB_tail (by kernel_rfl) (by kernel_rfl) ?_
        clear hdir hsel hpan
        simp only [opsAt, List.getElem?_toArray, List.getElem?_cons_succ, List.getElem?_cons_zero, Option.toList_some, List.cons_append, List.nil_append]
        go_wp2
        go_meet
        case rel => exact ⟨_, m2, rfl, rfl, g8, hca.upd U8 ho, hHeld.out⟩
      exact AllHB.nil
    obtain ⟨bd, md, rfl, rfl, gbd, hd, hbd⟩ := hcut
    obtain ⟨Wd, rfl⟩ : ∃ W, W = wc := ⟨_, rfl⟩
    have HWd := hbd
    have GB6 := gb9.then_ hbd
    have HRZ : Hid (Wd.rangeAt kb ko [.int .i64 z.k.kind, .int .i64 z.k.role, .int .i64 z.k.act, .int .i64 z.k.need, .slice z.A z.k.start.length z.cap, .int .i64 z.k.aft, .int .i64 z.k.grace, .bool z.k.bus, .bool z.k.fin, .int .i64 z.k.pause, .int .i64 z.k.resume, .int .i64 z.k.v.1, .int .i64 z.k.v.2, .int .i64 z.k.unit, .int .i64 z.k.to_, .bool z.k.waived] ∧ kb < Wd.heap.size) := ⟨range_then HRG.out.1 hbd HRG.out.2, Nat.lt_of_lt_of_le HRG.out.2 hbd.size⟩
    have HH10 := hbd
    have HB10 := below_then HB9 HH10
    clear HB9 HH10
    obtain ⟨db, do_, ed, hdb, hdc⟩ := con_cells hd (by rw [HDL.out]; omega)
    obtain ⟨zd, hzd, ezd⟩ := km_at hd.e HDK.out
    have HRD : Hid (Wd.rangeAt db (do_ + LB * 16) (kL zd) ∧ db < Wd.heap.size) := ⟨fun j v hv => hdc LB _ hzd j v hv, hdb⟩
    have HZD : Hid (KOk Wd zd) := hd.t zd (List.mem_of_getElem? hzd)
    have HED := Lib.hid ed
    have HEZ := Lib.hid ezd
    have hixD := fun W => idx_at (t := 25) (size := 16) (A := some ⟨db, do_, none⟩) (cap := md.kc) (len := LB + 1) (k := LB) rfl (Nat.lt_succ_self _) (by kernel_rfl) (fun W => by kernel_rfl) W
    have hwi := wrap_small (n := LB) hLB
    clear ed hdb hdc hzd ezd
    have HSQ : Hid (∀ W, Below Wd.heap.size Wd W → Calls Tryz.prog 14 #[.agg #[.int .i64 zd.k.kind, .int .i64 zd.k.role, .int .i64 zd.k.act, .int .i64 zd.k.need, .slice zd.A zd.k.start.length zd.cap, .int .i64 zd.k.aft, .int .i64 zd.k.grace, .bool zd.k.bus, .bool zd.k.fin, .int .i64 zd.k.pause, .int .i64 zd.k.resume, .int .i64 zd.k.v.1, .int .i64 zd.k.v.2, .int .i64 zd.k.unit, .int .i64 zd.k.to_, .bool zd.k.waived], .agg #[.int .i64 z.k.kind, .int .i64 z.k.role, .int .i64 z.k.act, .int .i64 z.k.need, .slice z.A z.k.start.length z.cap, .int .i64 z.k.aft, .int .i64 z.k.grace, .bool z.k.bus, .bool z.k.fin, .int .i64 z.k.pause, .int .i64 z.k.resume, .int .i64 z.k.v.1, .int .i64 z.k.v.2, .int .i64 z.k.unit, .int .i64 z.k.to_, .bool z.k.waived]] W fun e w' => e = .returned (.bool true) ∧ Below W.heap.size W w') := fun W hb => scla_to zd z true W (HZD.out.then_ hb) (HZK.out.then_ (below_then HWd hb)) (by rw [HEZ.out]; simp)
    go_upto_region 13 with (fail)
    refine wp_region_hb (fun w' => Hid (Below Wd.heap.size Wd w')) [0, 1, 2, 3, 4, 5, 6, 7, 8, 9, 10, 11, 12, 13, 14, 15, 16, 17, 18, 19, 20, 21, 22, 23, 24, 25, 26] [27, 28, 29] (by kernel_rfl) (by kernel_rfl) (by repeat (first | with_reducible refine panOk_then ?_ | with_reducible refine panOk_block ?_ | exact panOk_body)) (Lib.hid (Below.drew (Below.refl _ _))) (fun hdir hsel hpan hHeld => ?_)
    refine wpHB_take (i := 0) (oi := ⟨some 62, _, _, _, _, _⟩) hdir hsel hpan rfl (by kernel_rfl) (by kernel_rfl) (by kernel_rfl) (Or.inl ⟨by rfl, fun _ _ => by rfl⟩) (by assumption) ?_
    try simp only [Act.put, List.setIfInBounds_toArray, List.set_cons_zero, List.set_cons_succ]
    refine wpHB_take (i := 1) (oi := ⟨some 63, _, _, _, _, _⟩) hdir hsel hpan rfl (by kernel_rfl) (by kernel_rfl) (by kernel_rfl) (Or.inl ⟨by rfl, fun _ _ => by rfl⟩) (by assumption) ?_
    try simp only [Act.put, List.setIfInBounds_toArray, List.set_cons_zero, List.set_cons_succ]
    refine wpHB_take (i := 2) (oi := ⟨some 64, _, _, _, _, _⟩) hdir hsel hpan rfl (by kernel_rfl) (by kernel_rfl) (by kernel_rfl) (Or.inl ⟨by rfl, fun _ _ => by rfl⟩) (by assumption) ?_
    try simp only [Act.put, List.setIfInBounds_toArray, List.set_cons_zero, List.set_cons_succ]
    refine wpHB_take (i := 3) (oi := ⟨some 65, _, _, _, _, _⟩) (v := .bool true) hdir hsel hpan rfl (by kernel_rfl) (by kernel_rfl) (by kernel_rfl) (Or.inl ⟨by rfl, fun w hw => by go_simp⟩) (by assumption) ?_
    try simp only [Act.put, List.setIfInBounds_toArray, List.set_cons_zero, List.set_cons_succ]
    refine wpHB_take (i := 4) (oi := ⟨some 66, _, _, _, _, _⟩) hdir hsel hpan rfl (by kernel_rfl) (by kernel_rfl) (by kernel_rfl) (Or.inl ⟨by rfl, fun _ _ => by rfl⟩) (by assumption) ?_
    try simp only [Act.put, List.setIfInBounds_toArray, List.set_cons_zero, List.set_cons_succ]
    refine wpHB_take (i := 5) (oi := ⟨some 67, _, _, _, _, _⟩) hdir hsel hpan rfl (by kernel_rfl) (by kernel_rfl) (by kernel_rfl) (Or.inl ⟨by rfl, fun _ _ => by rfl⟩) (by assumption) ?_
    try simp only [Act.put, List.setIfInBounds_toArray, List.set_cons_zero, List.set_cons_succ]
    refine wpHB_take (i := 6) (oi := ⟨some 68, _, _, _, _, _⟩) hdir hsel hpan rfl (by kernel_rfl) (by kernel_rfl) (by kernel_rfl) (Or.inl ⟨by rfl, fun _ _ => by rfl⟩) (by assumption) ?_
    try simp only [Act.put, List.setIfInBounds_toArray, List.set_cons_zero, List.set_cons_succ]
    refine wpHB_take (i := 7) (oi := ⟨some 69, _, _, _, _, _⟩) (v := .slice (some ⟨db, do_, none⟩) (LB + 1) md.kc) hdir hsel hpan rfl (by kernel_rfl) (by kernel_rfl) (by kernel_rfl) (Or.inl ⟨by rfl, fun w hw => by have hc := (show w.cell? ⟨bd, 4, none⟩ = some (.slice (some ⟨db, do_, none⟩) (LB + 1) md.kc) by rw [← HED.out, ← HDL.out]; exact (gbd.then_ hw.out).cell 4); go_simp⟩) (by assumption) ?_
    try simp only [Act.put, List.setIfInBounds_toArray, List.set_cons_zero, List.set_cons_succ]
    refine wpHB_take (i := 8) (oi := ⟨some 70, _, _, _, _, _⟩) (v := .int .i64 ((LB : Int) + 1)) hdir hsel hpan rfl (by kernel_rfl) (by kernel_rfl) (by kernel_rfl) (Or.inl ⟨by rfl, fun w hw => by go_simp⟩) (by assumption) ?_
    try simp only [Act.put, List.setIfInBounds_toArray, List.set_cons_zero, List.set_cons_succ]
    refine wpHB_take (i := 9) (oi := ⟨some 71, _, _, _, _, _⟩) hdir hsel hpan rfl (by kernel_rfl) (by kernel_rfl) (by kernel_rfl) (Or.inl ⟨by rfl, fun _ _ => by rfl⟩) (by assumption) ?_
    try simp only [Act.put, List.setIfInBounds_toArray, List.set_cons_zero, List.set_cons_succ]
    refine wpHB_take (i := 10) (oi := ⟨some 72, _, _, _, _, _⟩) (v := .slice (some ⟨kb, ko, none⟩) LB ma.kc) hdir hsel hpan rfl (by kernel_rfl) (by kernel_rfl) (by kernel_rfl) (Or.inl ⟨by rfl, fun w hw => by have hc := (show w.cell? ⟨bu6, 4, none⟩ = some (.slice (some ⟨kb, ko, none⟩) LB ma.kc) by rw [← HEK.out, ← HLB.out]; exact (GB6.then_ hw.out).cell 4); go_simp⟩) (by assumption) ?_
    try simp only [Act.put, List.setIfInBounds_toArray, List.set_cons_zero, List.set_cons_succ]
    refine wpHB_take (i := 11) (oi := ⟨some 73, _, _, _, _, _⟩) (v := .int .i64 (LB : Int)) hdir hsel hpan rfl (by kernel_rfl) (by kernel_rfl) (by kernel_rfl) (Or.inl ⟨by rfl, fun w hw => by go_simp⟩) (by assumption) ?_
    try simp only [Act.put, List.setIfInBounds_toArray, List.set_cons_zero, List.set_cons_succ]
    refine wpHB_take (i := 12) (oi := ⟨some 74, _, _, _, _, _⟩) (v := .int .i64 ((LB : Int) + 1)) hdir hsel hpan rfl (by kernel_rfl) (by kernel_rfl) (by kernel_rfl) (Or.inl ⟨by rfl, fun w hw => by go_simp⟩) (by assumption) ?_
    try simp only [Act.put, List.setIfInBounds_toArray, List.set_cons_zero, List.set_cons_succ]
    refine wpHB_take (i := 13) (oi := ⟨some 75, _, _, _, _, _⟩) (v := .bool true) hdir hsel hpan rfl (by kernel_rfl) (by kernel_rfl) (by kernel_rfl) (Or.inl ⟨by rfl, fun w hw => by go_simp⟩) (by assumption) ?_
    try simp only [Act.put, List.setIfInBounds_toArray, List.set_cons_zero, List.set_cons_succ]
    refine wpHB_take (i := 14) (oi := ⟨some 76, _, _, _, _, _⟩) hdir hsel hpan rfl (by kernel_rfl) (by kernel_rfl) (by kernel_rfl) (Or.inl ⟨by rfl, fun _ _ => by rfl⟩) (by assumption) ?_
    try simp only [Act.put, List.setIfInBounds_toArray, List.set_cons_zero, List.set_cons_succ]
    refine wpHB_take (i := 15) (oi := ⟨some 77, _, _, _, _, _⟩) hdir hsel hpan rfl (by kernel_rfl) (by kernel_rfl) (by kernel_rfl) (Or.inl ⟨by rfl, fun _ _ => by rfl⟩) (by assumption) ?_
    try simp only [Act.put, List.setIfInBounds_toArray, List.set_cons_zero, List.set_cons_succ]
    refine wpHB_take (i := 16) (oi := ⟨some 78, _, _, _, _, _⟩) hdir hsel hpan rfl (by kernel_rfl) (by kernel_rfl) (by kernel_rfl) (Or.inl ⟨by rfl, fun _ _ => by rfl⟩) (by assumption) ?_
    try simp only [Act.put, List.setIfInBounds_toArray, List.set_cons_zero, List.set_cons_succ]
    refine wpHB_take (i := 17) (oi := ⟨some 79, _, _, _, _, _⟩) (v := .slice (some ⟨db, do_, none⟩) (LB + 1) md.kc) hdir hsel hpan rfl (by kernel_rfl) (by kernel_rfl) (by kernel_rfl) (Or.inl ⟨by rfl, fun w hw => by have hc := (show w.cell? ⟨bd, 4, none⟩ = some (.slice (some ⟨db, do_, none⟩) (LB + 1) md.kc) by rw [← HED.out, ← HDL.out]; exact (gbd.then_ hw.out).cell 4); go_simp⟩) (by assumption) ?_
    try simp only [Act.put, List.setIfInBounds_toArray, List.set_cons_zero, List.set_cons_succ]
    refine wpHB_take (i := 18) (oi := ⟨some 80, _, _, _, _, _⟩) hdir hsel hpan rfl (by kernel_rfl) (by kernel_rfl) (by kernel_rfl) (Or.inl ⟨by rfl, fun _ _ => by rfl⟩) (by assumption) ?_
    try simp only [Act.put, List.setIfInBounds_toArray, List.set_cons_zero, List.set_cons_succ]
    refine wpHB_take (i := 19) (oi := ⟨some 81, _, _, _, _, _⟩) (v := .slice (some ⟨kb, ko, none⟩) LB ma.kc) hdir hsel hpan rfl (by kernel_rfl) (by kernel_rfl) (by kernel_rfl) (Or.inl ⟨by rfl, fun w hw => by have hc := (show w.cell? ⟨bu6, 4, none⟩ = some (.slice (some ⟨kb, ko, none⟩) LB ma.kc) by rw [← HEK.out, ← HLB.out]; exact (GB6.then_ hw.out).cell 4); go_simp⟩) (by assumption) ?_
    try simp only [Act.put, List.setIfInBounds_toArray, List.set_cons_zero, List.set_cons_succ]
    refine wpHB_take (i := 20) (oi := ⟨some 82, _, _, _, _, _⟩) (v := .int .i64 (LB : Int)) hdir hsel hpan rfl (by kernel_rfl) (by kernel_rfl) (by kernel_rfl) (Or.inl ⟨by rfl, fun w hw => by go_simp⟩) (by assumption) ?_
    try simp only [Act.put, List.setIfInBounds_toArray, List.set_cons_zero, List.set_cons_succ]
    refine wpHB_take (i := 21) (oi := ⟨some 83, _, _, _, _, _⟩) (v := .pointer (some ⟨db, do_ + LB * 16, none⟩)) hdir hsel hpan rfl (by kernel_rfl) (by kernel_rfl) (by kernel_rfl) (Or.inl ⟨by rfl, fun w hw => by go_simp⟩) (by assumption) ?_
    try simp only [Act.put, List.setIfInBounds_toArray, List.set_cons_zero, List.set_cons_succ]
    refine wpHB_take (i := 22) (oi := ⟨some 84, _, _, _, _, _⟩) hdir hsel hpan rfl (by kernel_rfl) (by kernel_rfl) (by kernel_rfl) (yieldsIf_load_mid (by rfl) 32 _ rfl db _ rfl (kL zd) _ (fun w hw => (range_then HRD.out.1 hw.out HRD.out.2)) Tryz.underlying32 rfl (by kernel_rfl)) (by assumption) ?_
    try simp only [Act.put, List.setIfInBounds_toArray, List.set_cons_zero, List.set_cons_succ]
    refine wpHB_take (i := 23) (oi := ⟨some 85, _, _, _, _, _⟩) hdir hsel hpan rfl (by kernel_rfl) (by kernel_rfl) (by kernel_rfl) (Or.inl ⟨by rfl, fun _ _ => by rfl⟩) (by assumption) ?_
    try simp only [Act.put, List.setIfInBounds_toArray, List.set_cons_zero, List.set_cons_succ]
    refine wpHB_take (i := 24) (oi := ⟨some 86, _, _, _, _, _⟩) (v := .slice (some ⟨kb, ko, none⟩) LB ma.kc) hdir hsel hpan rfl (by kernel_rfl) (by kernel_rfl) (by kernel_rfl) (Or.inl ⟨by rfl, fun w hw => by have hc := (show w.cell? ⟨bu6, 4, none⟩ = some (.slice (some ⟨kb, ko, none⟩) LB ma.kc) by rw [← HEK.out, ← HLB.out]; exact (GB6.then_ hw.out).cell 4); go_simp⟩) (by assumption) ?_
    try simp only [Act.put, List.setIfInBounds_toArray, List.set_cons_zero, List.set_cons_succ]
    refine wpHB_take (i := 25) (oi := ⟨some 87, _, _, _, _, _⟩) (v := .pointer (some ⟨kb, ko, none⟩)) hdir hsel hpan rfl (by kernel_rfl) (by kernel_rfl) (by kernel_rfl) (Or.inl ⟨by rfl, fun w hw => by go_simp⟩) (by assumption) ?_
    try simp only [Act.put, List.setIfInBounds_toArray, List.set_cons_zero, List.set_cons_succ]
    refine wpHB_take (i := 26) (oi := ⟨some 88, _, _, _, _, _⟩) hdir hsel hpan rfl (by kernel_rfl) (by kernel_rfl) (by kernel_rfl) (yieldsIf_load_mid (by rfl) 32 _ rfl kb _ rfl [.int .i64 z.k.kind, .int .i64 z.k.role, .int .i64 z.k.act, .int .i64 z.k.need, .slice z.A z.k.start.length z.cap, .int .i64 z.k.aft, .int .i64 z.k.grace, .bool z.k.bus, .bool z.k.fin, .int .i64 z.k.pause, .int .i64 z.k.resume, .int .i64 z.k.v.1, .int .i64 z.k.v.2, .int .i64 z.k.unit, .int .i64 z.k.to_, .bool z.k.waived] _ (fun w hw => (range_then HRZ.out.1 hw.out HRZ.out.2)) Tryz.underlying32 rfl (by kernel_rfl)) (by assumption) ?_
    try simp only [Act.put, List.setIfInBounds_toArray, List.set_cons_zero, List.set_cons_succ]
    refine wpHB_tail (by kernel_rfl) (by kernel_rfl) ?_
    clear hdir hsel hpan
    simp only [opsAt, List.getElem?_toArray, List.getElem?_cons_succ, List.getElem?_cons_zero, Option.toList_some, List.cons_append, List.nil_append]
    go_wp2_with (go_at_call 14; (with_reducible refine (HSQ.out _ hHeld.out).mono ?_); rintro e wz ⟨rfl, hbz⟩)
    go_ret
    exact ⟨rfl, below_then (below_then HB10 hHeld.out) hbz⟩
end Go.Proofs.YtplommmegkdhdaaGreatDoor
