/- The walk of PatchUndoes. -/
import Derived.Test.YtplommmegkdhdaaGreatDoorMb27
namespace Go.Proofs.YtplommmegkdhdaaGreatDoor
open Go.RowKit

set_option maxRecDepth 100000 in
set_option maxHeartbeats 6400000 in
theorem undoes_any (c : Con) (m : Cm) (x : Km) (n : Nat) (days : Int) (w : World) (hL : Lw w) (hc : ContW w c m) (hx : fitK w x) (hn16 : n ≤ 65535) :
    Calls Tryz.prog 7 #[.agg (coA c m), .agg (kA x), .int .u16 n, .int .i64 days] w fun e w' => e = .returned (.bool true) ∧ Below w.heap.size w w' := by
  have HH := Lib.hid (fun W (hb : Below w.heap.size w W) => head_any W (hL.below hb))
  cases hs1 : c.small 40 with
  | false =>
    have HS1 := Lib.hid (fun W (hb : Below w.heap.size w W) => smallc_at c m false hc hs1 W hb)
    clear hc hx hs1 hL
    go_enter Tryz.func7, Tryz.ntmps7
    go_upto_region 1 with (fail)
    refine name_wp ?_
    intro X0 hX
    have gbc : Blk X0 w.heap.size 27 (coA c m) := by rw [hX]; exact (blk_at (by simp)).alloc _
    have gbx : Blk X0 (w.heap.size + 1) 32 (#[.int .i64 x.k.kind, .int .i64 x.k.role, .int .i64 x.k.act, .int .i64 x.k.need, .slice x.A x.k.start.length x.cap, .int .i64 x.k.aft, .int .i64 x.k.grace, .bool x.k.bus, .bool x.k.fin, .int .i64 x.k.pause, .int .i64 x.k.resume, .int .i64 x.k.v.1, .int .i64 x.k.v.2, .int .i64 x.k.unit, .int .i64 x.k.to_, .bool x.k.waived]) := by rw [hX]; exact blk_at (by simp)
    have HB0 : Below w.heap.size w X0 := by rw [hX]; (repeat (first | with_reducible assumption | with_reducible exact Below.refl _ _ | with_reducible refine below_drewN ?_ _ | with_reducible refine Below.drew ?_ | with_reducible refine below_alloc ?_ _ | with_reducible refine Below.setCell ?_ (by first | omega | (simp; done) | (simp; omega)) _ | with_reducible refine below_then ?_ (by with_reducible assumption) | (refine below_then (a := World.drew _) ?_ (by with_reducible assumption))))
    clear hX
    obtain ⟨bx, ebx⟩ : ∃ b, w.heap.size + 1 = b := ⟨_, rfl⟩
    obtain ⟨bc, ebc⟩ : ∃ b, w.heap.size = b := ⟨_, rfl⟩
    have lbc : w.heap.size ≤ bc := by omega
    have lbx : w.heap.size ≤ bx := by omega
    have nbcbx : bc ≠ bx := by omega
    rw [ebx] at gbx ⊢
    rw [ebc] at gbc ⊢
    clear ebc ebx
    go_upto_region 2 with ((go_at_call 9; (with_reducible refine (HH.out _ HB0).mono ?_); rintro e w1 ⟨rfl, hbw1⟩))
    have HH1 := hbw1
    have HB1 := below_then HB0 HH1
    have gbc_1 := gbc.then_ HH1
    have gbx_1 := gbx.then_ HH1
    clear gbc gbx HB0 HH1
    go_wp2_with (first | (refine wpList_row_w (by rfl) 27 _ rfl bc rfl 27 _ gbc_1 ⟨_, Tryz.underlying27⟩ (by kernel_rfl) ?_; simp only [Act.put, List.setIfInBounds_toArray, List.set_cons_succ, List.set_cons_zero]) | (go_at_call 10; (with_reducible refine (HS1.out _ HB1).mono ?_); rintro e w2 ⟨rfl, hbw2⟩))
    go_ret
    exact ⟨rfl, below_then HB1 hbw2⟩
  | true =>
  have HS1 := Lib.hid (fun W (hb : Below w.heap.size w W) => smallc_at c m true hc hs1 W hb)
  obtain ⟨hC, hn⟩ := small_cont hc hs1
  by_cases h0 : c.cl.length = 0
  · have tz : ((c.cl.length : Int) == 0) = true := by rw [beq_iff_eq]; omega
    clear hc hx hs1 hL hC hn h0
    go_enter Tryz.func7, Tryz.ntmps7
    go_upto_region 1 with (fail)
    refine name_wp ?_
    intro X0 hX
    have gbc : Blk X0 w.heap.size 27 (coA c m) := by rw [hX]; exact (blk_at (by simp)).alloc _
    have gbx : Blk X0 (w.heap.size + 1) 32 (#[.int .i64 x.k.kind, .int .i64 x.k.role, .int .i64 x.k.act, .int .i64 x.k.need, .slice x.A x.k.start.length x.cap, .int .i64 x.k.aft, .int .i64 x.k.grace, .bool x.k.bus, .bool x.k.fin, .int .i64 x.k.pause, .int .i64 x.k.resume, .int .i64 x.k.v.1, .int .i64 x.k.v.2, .int .i64 x.k.unit, .int .i64 x.k.to_, .bool x.k.waived]) := by rw [hX]; exact blk_at (by simp)
    have HB0 : Below w.heap.size w X0 := by rw [hX]; (repeat (first | with_reducible assumption | with_reducible exact Below.refl _ _ | with_reducible refine below_drewN ?_ _ | with_reducible refine Below.drew ?_ | with_reducible refine below_alloc ?_ _ | with_reducible refine Below.setCell ?_ (by first | omega | (simp; done) | (simp; omega)) _ | with_reducible refine below_then ?_ (by with_reducible assumption) | (refine below_then (a := World.drew _) ?_ (by with_reducible assumption))))
    clear hX
    obtain ⟨bx, ebx⟩ : ∃ b, w.heap.size + 1 = b := ⟨_, rfl⟩
    obtain ⟨bc, ebc⟩ : ∃ b, w.heap.size = b := ⟨_, rfl⟩
    have lbc : w.heap.size ≤ bc := by omega
    have lbx : w.heap.size ≤ bx := by omega
    have nbcbx : bc ≠ bx := by omega
    rw [ebx] at gbx ⊢
    rw [ebc] at gbc ⊢
    clear ebc ebx
    go_upto_region 2 with ((go_at_call 9; (with_reducible refine (HH.out _ HB0).mono ?_); rintro e w1 ⟨rfl, hbw1⟩))
    have HH1 := hbw1
    have HB1 := below_then HB0 HH1
    have gbc_1 := gbc.then_ HH1
    have gbx_1 := gbx.then_ HH1
    clear gbc gbx HB0 HH1
    go_wp2_with (first | (refine wpList_row_w (by rfl) 27 _ rfl bc rfl 27 _ gbc_1 ⟨_, Tryz.underlying27⟩ (by kernel_rfl) ?_; simp only [Act.put, List.setIfInBounds_toArray, List.set_cons_succ, List.set_cons_zero]) | (go_at_call 10; (with_reducible refine (HS1.out _ HB1).mono ?_); rintro e w2 ⟨rfl, hbw2⟩; have c4 : w2.cell? ⟨bc, 4, none⟩ = some (.slice m.k c.cl.length m.kc) := (gbc_1.then_ hbw2).cell 4))
    go_ret
    exact ⟨rfl, below_then HB1 hbw2⟩
  have tz : ((c.cl.length : Int) == 0) = false := by rw [beq_eq_false_iff_ne]; omega
  by_cases h20 : 20 < x.k.start.length
  · have t20 : decide ((20 : Int) < (x.k.start.length : Int)) = true := decide_eq_true (by omega)
    clear hc hx hs1 hL hC hn h0 h20
    go_enter Tryz.func7, Tryz.ntmps7
    go_upto_region 1 with (fail)
    refine name_wp ?_
    intro X0 hX
    have gbc : Blk X0 w.heap.size 27 (coA c m) := by rw [hX]; exact (blk_at (by simp)).alloc _
    have gbx : Blk X0 (w.heap.size + 1) 32 (#[.int .i64 x.k.kind, .int .i64 x.k.role, .int .i64 x.k.act, .int .i64 x.k.need, .slice x.A x.k.start.length x.cap, .int .i64 x.k.aft, .int .i64 x.k.grace, .bool x.k.bus, .bool x.k.fin, .int .i64 x.k.pause, .int .i64 x.k.resume, .int .i64 x.k.v.1, .int .i64 x.k.v.2, .int .i64 x.k.unit, .int .i64 x.k.to_, .bool x.k.waived]) := by rw [hX]; exact blk_at (by simp)
    have HB0 : Below w.heap.size w X0 := by rw [hX]; (repeat (first | with_reducible assumption | with_reducible exact Below.refl _ _ | with_reducible refine below_drewN ?_ _ | with_reducible refine Below.drew ?_ | with_reducible refine below_alloc ?_ _ | with_reducible refine Below.setCell ?_ (by first | omega | (simp; done) | (simp; omega)) _ | with_reducible refine below_then ?_ (by with_reducible assumption) | (refine below_then (a := World.drew _) ?_ (by with_reducible assumption))))
    clear hX
    obtain ⟨bx, ebx⟩ : ∃ b, w.heap.size + 1 = b := ⟨_, rfl⟩
    obtain ⟨bc, ebc⟩ : ∃ b, w.heap.size = b := ⟨_, rfl⟩
    have lbc : w.heap.size ≤ bc := by omega
    have lbx : w.heap.size ≤ bx := by omega
    have nbcbx : bc ≠ bx := by omega
    rw [ebx] at gbx ⊢
    rw [ebc] at gbc ⊢
    clear ebc ebx
    go_upto_region 2 with ((go_at_call 9; (with_reducible refine (HH.out _ HB0).mono ?_); rintro e w1 ⟨rfl, hbw1⟩))
    have HH1 := hbw1
    have HB1 := below_then HB0 HH1
    have gbc_1 := gbc.then_ HH1
    have gbx_1 := gbx.then_ HH1
    clear gbc gbx HB0 HH1
    go_wp2_with (first | (refine wpList_row_w (by rfl) 27 _ rfl bc rfl 27 _ gbc_1 ⟨_, Tryz.underlying27⟩ (by kernel_rfl) ?_; simp only [Act.put, List.setIfInBounds_toArray, List.set_cons_succ, List.set_cons_zero]) | (go_at_call 10; (with_reducible refine (HS1.out _ HB1).mono ?_); rintro e w2 ⟨rfl, hbw2⟩; have c4 : w2.cell? ⟨bc, 4, none⟩ = some (.slice m.k c.cl.length m.kc) := (gbc_1.then_ hbw2).cell 4; have x4 : w2.cell? ⟨bx, 4, none⟩ = some (.slice x.A x.k.start.length x.cap) := (gbx_1.then_ hbw2).cell 4))
    go_ret
    exact ⟨rfl, below_then HB1 hbw2⟩
  have t20 : decide ((20 : Int) < (x.k.start.length : Int)) = false := decide_eq_false (by omega)
  have hX : KOk w x := ⟨hx.1.2.2.2, hx.2, by omega, hx.1.1⟩
  obtain ⟨i, hi⟩ : ∃ i, n % c.cl.length = i := ⟨_, rfl⟩
  have hil : i < c.cl.length := by rw [← hi]; exact Nat.mod_lt _ (by omega)
  obtain ⟨k, hk⟩ : ∃ k, c.cl[i]? = some k := ⟨_, List.getElem?_eq_getElem hil⟩
  obtain ⟨y, hy, ey⟩ := km_at hC.e hk
  subst ey
  have hY : KOk w y := hC.t y (List.mem_of_getElem? hy)
  obtain ⟨b0, o0, eA0, hb0, hc0⟩ := segAt hC.k hy
  have hrg : w.rangeAt b0 (o0 + i * 16) (kL y) := fun j v hv => hc0 j v hv
  have hix := fun W => idx_at (t := 25) (size := 16) (cap := m.kc) (len := c.cl.length) (k := i) eA0 hil (by kernel_rfl) (fun W => by kernel_rfl) W
  have HIX := Lib.hid hix
  have HRG := Lib.hid (show w.rangeAt b0 (o0 + i * 16) (kL y) ∧ b0 < w.heap.size from ⟨hrg, hb0⟩)
  have hne : (c.cl.length : Int) ≠ 0 := by omega
  have HI := Lib.hid hi
  have HNE := Lib.hid hne
  have hspn := fun h => spn_no (c := c) (i := i) (d := days) (x := x.k) hil h
  clear hc hx hs1 hL hn h0 h20 hi hil hc0 eA0 hb0 hrg hix hne hy
  obtain ⟨E1, eE1⟩ : ∃ E, c.apE (.rep i x.k) = E := ⟨_, rfl⟩
  obtain ⟨C1, eC1⟩ : ∃ C, c.apC (.rep i x.k) = C := ⟨_, rfl⟩
  obtain ⟨E2, eE2⟩ : ∃ E, c.apE (.spn i days) = E := ⟨_, rfl⟩
  obtain ⟨C2, eC2⟩ : ∃ C, c.apC (.spn i days) = C := ⟨_, rfl⟩
  have HA1 : Hid (∀ W b, Below w.heap.size w W → Blk W b 3 #[.int .i64 (i : Int)] → Calls Tryz.prog 12 #[.agg (coA c m), .agg #[.int .i64 2, .slice (some ⟨b, 0, none⟩) 1 1, .int .i64 x.k.kind, .int .i64 x.k.role, .int .i64 x.k.act, .int .i64 x.k.need, .slice x.A x.k.start.length x.cap, .int .i64 x.k.aft, .int .i64 x.k.grace, .bool x.k.bus, .bool x.k.fin, .int .i64 x.k.pause, .int .i64 x.k.resume, .int .i64 x.k.v.1, .int .i64 x.k.v.2, .int .i64 x.k.unit, .int .i64 x.k.to_, .bool x.k.waived, .int .i64 0]] W fun e w' => (∃ m', e = .returned (.tuple #[.agg (coA C1 m'), .int .i64 E1]) ∧ Cont w' C1 m') ∧ Below W.heap.size W w') := fun W b hb h => apply_to c C1 m (.rep i x.k) ⟨some ⟨b, 0, none⟩, 1, x.A, x.cap⟩ E1 W (hC.then_ hb) (patM_oneK h rfl rfl (hX.then_ hb)) eE1 eC1
  have HA2 : Hid (∀ W b, Below w.heap.size w W → Blk W b 3 #[.int .i64 (i : Int)] → Calls Tryz.prog 12 #[.agg (coA c m), .agg #[.int .i64 5, .slice (some ⟨b, 0, none⟩) 1 1, .int .i64 0, .int .i64 0, .int .i64 0, .int .i64 0, .slice none 0 0, .int .i64 0, .int .i64 0, .bool false, .bool false, .int .i64 0, .int .i64 0, .int .i64 0, .int .i64 0, .int .i64 0, .int .i64 0, .bool false, .int .i64 days]] W fun e w' => (∃ m', e = .returned (.tuple #[.agg (coA C2 m'), .int .i64 E2]) ∧ Cont w' C2 m') ∧ Below W.heap.size W w') := fun W b hb h => apply_to c C2 m (.spn i days) ⟨some ⟨b, 0, none⟩, 1, none, 0⟩ E2 W (hC.then_ hb) (patM_one h rfl rfl) eE2 eC2
  have HK1 : Hid (E1 = 0 → ∀ W b ma, Below w.heap.size w W → Cont W C1 ma → Blk W b 3 #[.int .i64 (i : Int)] → Calls Tryz.prog 12 #[.agg (coA C1 ma), .agg #[.int .i64 2, .slice (some ⟨b, 0, none⟩) 1 1, .int .i64 y.k.kind, .int .i64 y.k.role, .int .i64 y.k.act, .int .i64 y.k.need, .slice y.A y.k.start.length y.cap, .int .i64 y.k.aft, .int .i64 y.k.grace, .bool y.k.bus, .bool y.k.fin, .int .i64 y.k.pause, .int .i64 y.k.resume, .int .i64 y.k.v.1, .int .i64 y.k.v.2, .int .i64 y.k.unit, .int .i64 y.k.to_, .bool y.k.waived, .int .i64 0]] W fun e w' => (∃ m', e = .returned (.tuple #[.agg (coA c m'), .int .i64 0]) ∧ Cont w' c m') ∧ Below W.heap.size W w') := fun hz W b ma hb ha h => by
    have hu := undo_rep hk (eE1.trans hz)
    rw [← apC_yes (eE1.trans hz), eC1] at hu
    exact apply_to C1 c ma (.rep i y.k) ⟨some ⟨b, 0, none⟩, 1, y.A, y.cap⟩ 0 W ha (patM_oneK h rfl rfl (hY.then_ hb)) hu.1 (by rw [apC_yes hu.1, hu.2])
  have HU2 : Hid (E2 = 0 → C2.apE (.spn i y.k.aft) = 0 ∧ C2.ap (.spn i y.k.aft) = c ∧ C2.cl[i]? = some { y.k with aft := days }) := fun hz => by
    have hu := undo_spn hk (eE2.trans hz)
    rw [← apC_yes (eE2.trans hz), eC2] at hu
    exact hu
  have HK2 : Hid (E2 = 0 → ∀ W b ma, Cont W C2 ma → Blk W b 3 #[.int .i64 (i : Int)] → Calls Tryz.prog 12 #[.agg (coA C2 ma), .agg #[.int .i64 5, .slice (some ⟨b, 0, none⟩) 1 1, .int .i64 0, .int .i64 0, .int .i64 0, .int .i64 0, .slice none 0 0, .int .i64 0, .int .i64 0, .bool false, .bool false, .int .i64 0, .int .i64 0, .int .i64 0, .int .i64 0, .int .i64 0, .int .i64 0, .bool false, .int .i64 y.k.aft]] W fun e w' => (∃ m', e = .returned (.tuple #[.agg (coA c m'), .int .i64 0]) ∧ Cont w' c m') ∧ Below W.heap.size W w') := fun hz W b ma ha h => apply_to C2 c ma (.spn i y.k.aft) ⟨some ⟨b, 0, none⟩, 1, none, 0⟩ 0 W ha (patM_one h rfl rfl) (HU2.out hz).1 (by rw [apC_yes (HU2.out hz).1, (HU2.out hz).2.1])
  have HQ := Lib.hid (fun W (mc : Cm) (hb : Below w.heap.size w W) (h : Cont W c mc) => scon_to c c mc m true W h (hC.then_ hb) (by simp))
  have HSP : Hid (E2 ≠ 0 → E1 ≠ 0 ∨ days < 1 ∨ 400 < days) := fun h => by rw [← eE1]; rw [← eE2] at h; exact hspn h
  clear hX hY hk eE1 eC1 eE2 eC2 hspn hC
  by_cases hz1 : E1 = 0
  · subst hz1
    replace HK1 := Lib.hid (HK1.out rfl)
    by_cases hz2 : E2 = 0
    · subst hz2
      replace HU2 := Lib.hid (HU2.out rfl)
      replace HK2 := Lib.hid (HK2.out rfl)
      go_enter Tryz.func7, Tryz.ntmps7
      go_upto_region 1 with (fail)
      refine name_wp ?_
      intro X0 hX
      have gbc : Blk X0 w.heap.size 27 (coA c m) := by rw [hX]; exact (blk_at (by simp)).alloc _
      have gbx : Blk X0 (w.heap.size + 1) 32 (#[.int .i64 x.k.kind, .int .i64 x.k.role, .int .i64 x.k.act, .int .i64 x.k.need, .slice x.A x.k.start.length x.cap, .int .i64 x.k.aft, .int .i64 x.k.grace, .bool x.k.bus, .bool x.k.fin, .int .i64 x.k.pause, .int .i64 x.k.resume, .int .i64 x.k.v.1, .int .i64 x.k.v.2, .int .i64 x.k.unit, .int .i64 x.k.to_, .bool x.k.waived]) := by rw [hX]; exact blk_at (by simp)
      have HB0 : Below w.heap.size w X0 := by rw [hX]; (repeat (first | with_reducible assumption | with_reducible exact Below.refl _ _ | with_reducible refine below_drewN ?_ _ | with_reducible refine Below.drew ?_ | with_reducible refine below_alloc ?_ _ | with_reducible refine Below.setCell ?_ (by first | omega | (simp; done) | (simp; omega)) _ | with_reducible refine below_then ?_ (by with_reducible assumption) | (refine below_then (a := World.drew _) ?_ (by with_reducible assumption))))
      clear hX
      obtain ⟨bx, ebx⟩ : ∃ b, w.heap.size + 1 = b := ⟨_, rfl⟩
      obtain ⟨bc, ebc⟩ : ∃ b, w.heap.size = b := ⟨_, rfl⟩
      have lbc : w.heap.size ≤ bc := by omega
      have lbx : w.heap.size ≤ bx := by omega
      have nbcbx : bc ≠ bx := by omega
      rw [ebx] at gbx ⊢
      rw [ebc] at gbc ⊢
      clear ebc ebx
      go_upto_region 2 with ((go_at_call 9; (with_reducible refine (HH.out _ HB0).mono ?_); rintro e w1 ⟨rfl, hbw1⟩))
      have HH1 := hbw1
      have HB1 := below_then HB0 HH1
      have gbc_1 := gbc.then_ HH1
      have gbx_1 := gbx.then_ HH1
      clear gbc gbx HB0 HH1
      go_upto_region 4 with (first | (refine wpList_row_w (by rfl) 27 _ rfl bc rfl 27 _ gbc_1 ⟨_, Tryz.underlying27⟩ (by kernel_rfl) ?_; simp only [Act.put, List.setIfInBounds_toArray, List.set_cons_succ, List.set_cons_zero]) | (go_at_call 10; (with_reducible refine (HS1.out _ HB1).mono ?_); rintro e w2 ⟨rfl, hbw2⟩; have c4 : w2.cell? ⟨bc, 4, none⟩ = some (.slice m.k c.cl.length m.kc) := (gbc_1.then_ hbw2).cell 4; have x4 : w2.cell? ⟨bx, 4, none⟩ = some (.slice x.A x.k.start.length x.cap) := (gbx_1.then_ hbw2).cell 4))
      have HH2 := hbw2
      have HB2 := below_then HB1 HH2
      have gbc_2 := gbc_1.then_ HH2
      have gbx_2 := gbx_1.then_ HH2
      clear gbc_1 gbx_1 HB1 HH2
      clear x4
      have hne := HNE.out
      go_upto_region 5 with (fail)
      rw [← Int.natCast_emod, HI.out]
      clear hne
      have hix := HIX.out
      have hrg := range_then HRG.out.1 HB2 HRG.out.2
      go_upto_region 6 with ((refine wpList_elem 32 el16 _ _ _ rfl rfl rfl rfl rfl rfl rfl rfl rfl b0 _ rfl (kL y) rfl hrg (by simp [Value.oneCell']) (by decide) (by simp) (by simp) ?_; simp only [Act.put, List.setIfInBounds_toArray, List.set_cons_succ, List.set_cons_zero]))
      refine name_wp ?_
      intro X5 hX
      have go : Blk X5 w2.heap.size 32 #[.int .i64 y.k.kind, .int .i64 y.k.role, .int .i64 y.k.act, .int .i64 y.k.need, .slice y.A y.k.start.length y.cap, .int .i64 y.k.aft, .int .i64 y.k.grace, .bool y.k.bus, .bool y.k.fin, .int .i64 y.k.pause, .int .i64 y.k.resume, .int .i64 y.k.v.1, .int .i64 y.k.v.2, .int .i64 y.k.unit, .int .i64 y.k.to_, .bool y.k.waived] := by rw [hX]; exact Blk.new _ _ _
      have hb5 : Below w2.heap.size w2 X5 := by rw [hX]; exact wa1 _ _
      clear hX hrg hix c4
      have HH3 := hb5
      have HB3 := below_then HB2 HH3
      have gbc_3 := gbc_2.then_ HH3
      have gbx_3 := gbx_2.then_ HH3
      clear gbc_2 gbx_2 HB2 HH3
      obtain ⟨bo, ebo⟩ : ∃ b, w2.heap.size = b := ⟨_, rfl⟩
      rw [ebo] at go ⊢
      clear ebo
      go_upto_region 7 with (first | (refine wpList_row_w (by rfl) 27 _ rfl bc rfl 27 _ gbc_3 ⟨_, Tryz.underlying27⟩ (by kernel_rfl) ?_; simp only [Act.put, List.setIfInBounds_toArray, List.set_cons_succ, List.set_cons_zero]) | (refine wpList_row_w (by rfl) 32 _ rfl bx rfl 32 _ (gbx_3.alloc _) ⟨_, Tryz.underlying32⟩ (by kernel_rfl) ?_; simp only [Act.put, List.setIfInBounds_toArray, List.set_cons_succ, List.set_cons_zero]) | (go_at_call 12; (with_reducible refine (HA1.out _ _ (below_then HB3 (wa1 _ _)) (Blk.new _ _ _)).mono ?_); rintro e w6 ⟨⟨ma, rfl, hca0⟩, hbw6⟩) | (refine wpList_store_all rfl 27 _ _ rfl w6.heap.size 27 [] coZ.toList [] (coA C1 ma).toList rfl rfl (Blk.new _ _ _) rfl (by kernel_rfl) (by simp [Value.oneCell']) ?_; intro u6 gbu6 Uu6))
      have hsu6 : Below w6.heap.size w6 u6 := (wa1 _ _).trans (Uu6.b _ (Nat.le_refl _))
      have HH4 := below_then (wa1 _ _) (below_then hbw6 hsu6)
      have HB4 := below_then HB3 HH4
      have gbc_4 := gbc_3.then_ HH4
      have gbx_4 := gbx_3.then_ HH4
      have go_4 := go.then_ HH4
      clear gbc_3 gbx_3 go HB3 HH4
      have hca := hca0.then_ hsu6
      obtain ⟨bu6, ebu6⟩ : ∃ b, w6.heap.size = b := ⟨_, rfl⟩
      rw [ebu6] at gbu6 ⊢
      clear ebu6 Uu6 hsu6 hbw6 hca0
      go_upto_region 9 with (first | (refine wpList_row_w (by rfl) 27 _ rfl bu6 rfl 27 _ gbu6 ⟨_, Tryz.underlying27⟩ (by kernel_rfl) ?_; simp only [Act.put, List.setIfInBounds_toArray, List.set_cons_succ, List.set_cons_zero]) | (refine wpList_row_w (by rfl) 32 _ rfl bo rfl 32 _ (go_4.alloc _) ⟨_, Tryz.underlying32⟩ (by kernel_rfl) ?_; simp only [Act.put, List.setIfInBounds_toArray, List.set_cons_succ, List.set_cons_zero]) | (go_at_call 12; (with_reducible refine (HK1.out _ _ ma (below_then HB4 (wa1 _ _)) (hca.then_ (wa1 _ _)) (Blk.new _ _ _)).mono ?_); rintro e w8 ⟨⟨mb, rfl, hcb0⟩, hbw8⟩) | (refine wpList_store_all rfl 27 _ _ rfl w8.heap.size 27 [] coZ.toList [] (coA c mb).toList rfl rfl (Blk.new _ _ _) rfl (by kernel_rfl) (by simp [Value.oneCell']) ?_; intro u8 gbu8 Uu8))
      have hsu8 : Below w8.heap.size w8 u8 := (wa1 _ _).trans (Uu8.b _ (Nat.le_refl _))
      have HH5 := below_then (wa1 _ _) (below_then hbw8 hsu8)
      have HB5 := below_then HB4 HH5
      have gbc_5 := gbc_4.then_ HH5
      have gbx_5 := gbx_4.then_ HH5
      have go_5 := go_4.then_ HH5
      have gbu6_5 := gbu6.then_ HH5
      have hca_5 := hca.then_ HH5
      clear gbc_4 gbx_4 go_4 gbu6 hca HB4 HH5
      have hcb := hcb0.then_ hsu8
      obtain ⟨bu8, ebu8⟩ : ∃ b, w8.heap.size = b := ⟨_, rfl⟩
      rw [ebu8] at gbu8 ⊢
      clear ebu8 Uu8 hsu8 hbw8 hcb0
      go_upto_region 11 with (first | (refine wpList_row_w (by rfl) 27 _ rfl bu8 rfl 27 _ gbu8 ⟨_, Tryz.underlying27⟩ (by kernel_rfl) ?_; simp only [Act.put, List.setIfInBounds_toArray, List.set_cons_succ, List.set_cons_zero]) | (refine wpList_row_w (by rfl) 27 _ rfl bc rfl 27 _ gbc_5 ⟨_, Tryz.underlying27⟩ (by kernel_rfl) ?_; simp only [Act.put, List.setIfInBounds_toArray, List.set_cons_succ, List.set_cons_zero]) | (go_at_call 15; (with_reducible refine (HQ.out _ mb HB5 hcb).mono ?_); rintro e w9 ⟨rfl, hbw9⟩))
      have HH6 := hbw9
      have HB6 := below_then HB5 HH6
      have gbc_6 := gbc_5.then_ HH6
      have gbx_6 := gbx_5.then_ HH6
      have go_6 := go_5.then_ HH6
      have gbu6_6 := gbu6_5.then_ HH6
      have hca_6 := hca_5.then_ HH6
      have gbu8_6 := gbu8.then_ HH6
      have hcb_6 := hcb.then_ HH6
      clear gbc_5 gbx_5 go_5 gbu6_5 hca_5 gbu8 hcb HB5 HH6
      go_upto_region 12 with (first | (refine wpList_row_w (by rfl) 27 _ rfl bc rfl 27 _ gbc_6 ⟨_, Tryz.underlying27⟩ (by kernel_rfl) ?_; simp only [Act.put, List.setIfInBounds_toArray, List.set_cons_succ, List.set_cons_zero]) | (go_at_call 12; (with_reducible refine (HA2.out _ _ (below_then HB6 (wa1 _ _)) (Blk.new _ _ _)).mono ?_); rintro e wb ⟨⟨md, rfl, hcd0⟩, hbwb⟩) | (refine wpList_store_all rfl 27 _ _ rfl wb.heap.size 27 [] coZ.toList [] (coA C2 md).toList rfl rfl (Blk.new _ _ _) rfl (by kernel_rfl) (by simp [Value.oneCell']) ?_; intro ub gbub Uub))
      have hsub : Below wb.heap.size wb ub := (wa1 _ _).trans (Uub.b _ (Nat.le_refl _))
      have HH7 := below_then (wa1 _ _) (below_then hbwb hsub)
      have HB7 := below_then HB6 HH7
      have gbc_7 := gbc_6.then_ HH7
      have gbx_7 := gbx_6.then_ HH7
      have go_7 := go_6.then_ HH7
      have gbu6_7 := gbu6_6.then_ HH7
      have hca_7 := hca_6.then_ HH7
      have gbu8_7 := gbu8_6.then_ HH7
      have hcb_7 := hcb_6.then_ HH7
      clear gbc_6 gbx_6 go_6 gbu6_6 hca_6 gbu8_6 hcb_6 HB6 HH7
      have hcd := hcd0.then_ hsub
      obtain ⟨bub, ebub⟩ : ∃ b, wb.heap.size = b := ⟨_, rfl⟩
      rw [ebub] at gbub ⊢
      clear ebub Uub hsub hbwb hcd0
      have a5 : ub.cell? ⟨bo, 5, none⟩ = some (.int .i64 y.k.aft) := go_7.cell 5
      have lbo := go_7.lt
      go_upto_region 14 with (fail)
      go_upto_region 15 with (first | (refine wpList_row_w (by rfl) 27 _ rfl bub rfl 27 _ gbub ⟨_, Tryz.underlying27⟩ (by kernel_rfl) ?_; simp only [Act.put, List.setIfInBounds_toArray, List.set_cons_succ, List.set_cons_zero]) | (go_at_call 12; (with_reducible refine (HK2.out _ _ md (hcd.then_ (wa1 _ _)) (Blk.new _ _ _)).mono ?_); rintro e wk ⟨⟨mk, rfl, hck0⟩, hbwk⟩) | (refine wpList_store_all rfl 27 _ _ rfl wk.heap.size 27 [] coZ.toList [] (coA c mk).toList rfl rfl (Blk.new _ _ _) rfl (by kernel_rfl) (by simp [Value.oneCell']) ?_; intro uk gbuk Uuk))
      have hsuk : Below wk.heap.size wk uk := (wa1 _ _).trans (Uuk.b _ (Nat.le_refl _))
      have HH8 := below_then (wa1 _ _) (below_then hbwk hsuk)
      have HB8 := below_then HB7 HH8
      have gbc_8 := gbc_7.then_ HH8
      have gbx_8 := gbx_7.then_ HH8
      have go_8 := go_7.then_ HH8
      have gbu6_8 := gbu6_7.then_ HH8
      have hca_8 := hca_7.then_ HH8
      have gbu8_8 := gbu8_7.then_ HH8
      have hcb_8 := hcb_7.then_ HH8
      have gbub_8 := gbub.then_ HH8
      have hcd_8 := hcd.then_ HH8
      clear gbc_7 gbx_7 go_7 gbu6_7 hca_7 gbu8_7 hcb_7 gbub hcd HB7 HH8
      have hck := hck0.then_ hsuk
      obtain ⟨buk, ebuk⟩ : ∃ b, wk.heap.size = b := ⟨_, rfl⟩
      rw [ebuk] at gbuk ⊢
      clear ebuk Uuk hsuk hbwk hck0
      have hdl := (List.getElem?_eq_some_iff.1 HU2.out.2.2).1
      obtain ⟨kb, ko, ek, _, hkc⟩ := con_cells hcd_8 (by omega)
      have hk5 := (con_cell hcd_8 hkc HU2.out.2.2).1
      simp only at hk5
      have d4 : uk.cell? ⟨bub, 4, none⟩ = some (.slice (some ⟨kb, ko, none⟩) C2.cl.length md.kc) := by rw [← ek]; exact gbub_8.cell 4
      have hix2 := fun W => idx_at (t := 25) (size := 16) (A := some ⟨kb, ko, none⟩) (cap := md.kc) (len := C2.cl.length) (k := i) rfl hdl (by kernel_rfl) (fun W => by kernel_rfl) W
      have td : (days == days) = true := beq_self_eq_true _
      clear ek hkc hdl a5 lbo
      go_wp2_with (first | (refine wpList_row_w (by rfl) 27 _ rfl buk rfl 27 _ gbuk ⟨_, Tryz.underlying27⟩ (by kernel_rfl) ?_; simp only [Act.put, List.setIfInBounds_toArray, List.set_cons_succ, List.set_cons_zero]) | (refine wpList_row_w (by rfl) 27 _ rfl bc rfl 27 _ gbc_8 ⟨_, Tryz.underlying27⟩ (by kernel_rfl) ?_; simp only [Act.put, List.setIfInBounds_toArray, List.set_cons_succ, List.set_cons_zero]) | (go_at_call 15; (with_reducible refine (HQ.out _ mk HB8 hck).mono ?_); rintro e wz ⟨rfl, hbwz⟩))
      go_ret
      exact ⟨rfl, below_then HB8 hbwz⟩
    · have t2 : (E2 != 0) = true := by rw [bne_iff_ne]; exact hz2
      rcases (HSP.out hz2).resolve_left (fun h => h rfl) with hd | hd
      · have td : decide (days < 1) = true := decide_eq_true hd
        clear hz2 hd
        go_enter Tryz.func7, Tryz.ntmps7
        go_upto_region 1 with (fail)
        refine name_wp ?_
        intro X0 hX
        have gbc : Blk X0 w.heap.size 27 (coA c m) := by rw [hX]; exact (blk_at (by simp)).alloc _
        have gbx : Blk X0 (w.heap.size + 1) 32 (#[.int .i64 x.k.kind, .int .i64 x.k.role, .int .i64 x.k.act, .int .i64 x.k.need, .slice x.A x.k.start.length x.cap, .int .i64 x.k.aft, .int .i64 x.k.grace, .bool x.k.bus, .bool x.k.fin, .int .i64 x.k.pause, .int .i64 x.k.resume, .int .i64 x.k.v.1, .int .i64 x.k.v.2, .int .i64 x.k.unit, .int .i64 x.k.to_, .bool x.k.waived]) := by rw [hX]; exact blk_at (by simp)
        have HB0 : Below w.heap.size w X0 := by rw [hX]; (repeat (first | with_reducible assumption | with_reducible exact Below.refl _ _ | with_reducible refine below_drewN ?_ _ | with_reducible refine Below.drew ?_ | with_reducible refine below_alloc ?_ _ | with_reducible refine Below.setCell ?_ (by first | omega | (simp; done) | (simp; omega)) _ | with_reducible refine below_then ?_ (by with_reducible assumption) | (refine below_then (a := World.drew _) ?_ (by with_reducible assumption))))
        clear hX
        obtain ⟨bx, ebx⟩ : ∃ b, w.heap.size + 1 = b := ⟨_, rfl⟩
        obtain ⟨bc, ebc⟩ : ∃ b, w.heap.size = b := ⟨_, rfl⟩
        have lbc : w.heap.size ≤ bc := by omega
        have lbx : w.heap.size ≤ bx := by omega
        have nbcbx : bc ≠ bx := by omega
        rw [ebx] at gbx ⊢
        rw [ebc] at gbc ⊢
        clear ebc ebx
        go_upto_region 2 with ((go_at_call 9; (with_reducible refine (HH.out _ HB0).mono ?_); rintro e w1 ⟨rfl, hbw1⟩))
        have HH1 := hbw1
        have HB1 := below_then HB0 HH1
        have gbc_1 := gbc.then_ HH1
        have gbx_1 := gbx.then_ HH1
        clear gbc gbx HB0 HH1
        go_upto_region 4 with (first | (refine wpList_row_w (by rfl) 27 _ rfl bc rfl 27 _ gbc_1 ⟨_, Tryz.underlying27⟩ (by kernel_rfl) ?_; simp only [Act.put, List.setIfInBounds_toArray, List.set_cons_succ, List.set_cons_zero]) | (go_at_call 10; (with_reducible refine (HS1.out _ HB1).mono ?_); rintro e w2 ⟨rfl, hbw2⟩; have c4 : w2.cell? ⟨bc, 4, none⟩ = some (.slice m.k c.cl.length m.kc) := (gbc_1.then_ hbw2).cell 4; have x4 : w2.cell? ⟨bx, 4, none⟩ = some (.slice x.A x.k.start.length x.cap) := (gbx_1.then_ hbw2).cell 4))
        have HH2 := hbw2
        have HB2 := below_then HB1 HH2
        have gbc_2 := gbc_1.then_ HH2
        have gbx_2 := gbx_1.then_ HH2
        clear gbc_1 gbx_1 HB1 HH2
        clear x4
        have hne := HNE.out
        go_upto_region 5 with (fail)
        rw [← Int.natCast_emod, HI.out]
        clear hne
        have hix := HIX.out
        have hrg := range_then HRG.out.1 HB2 HRG.out.2
        go_upto_region 6 with ((refine wpList_elem 32 el16 _ _ _ rfl rfl rfl rfl rfl rfl rfl rfl rfl b0 _ rfl (kL y) rfl hrg (by simp [Value.oneCell']) (by decide) (by simp) (by simp) ?_; simp only [Act.put, List.setIfInBounds_toArray, List.set_cons_succ, List.set_cons_zero]))
        refine name_wp ?_
        intro X5 hX
        have go : Blk X5 w2.heap.size 32 #[.int .i64 y.k.kind, .int .i64 y.k.role, .int .i64 y.k.act, .int .i64 y.k.need, .slice y.A y.k.start.length y.cap, .int .i64 y.k.aft, .int .i64 y.k.grace, .bool y.k.bus, .bool y.k.fin, .int .i64 y.k.pause, .int .i64 y.k.resume, .int .i64 y.k.v.1, .int .i64 y.k.v.2, .int .i64 y.k.unit, .int .i64 y.k.to_, .bool y.k.waived] := by rw [hX]; exact Blk.new _ _ _
        have hb5 : Below w2.heap.size w2 X5 := by rw [hX]; exact wa1 _ _
        clear hX hrg hix c4
        have HH3 := hb5
        have HB3 := below_then HB2 HH3
        have gbc_3 := gbc_2.then_ HH3
        have gbx_3 := gbx_2.then_ HH3
        clear gbc_2 gbx_2 HB2 HH3
        obtain ⟨bo, ebo⟩ : ∃ b, w2.heap.size = b := ⟨_, rfl⟩
        rw [ebo] at go ⊢
        clear ebo
        go_upto_region 7 with (first | (refine wpList_row_w (by rfl) 27 _ rfl bc rfl 27 _ gbc_3 ⟨_, Tryz.underlying27⟩ (by kernel_rfl) ?_; simp only [Act.put, List.setIfInBounds_toArray, List.set_cons_succ, List.set_cons_zero]) | (refine wpList_row_w (by rfl) 32 _ rfl bx rfl 32 _ (gbx_3.alloc _) ⟨_, Tryz.underlying32⟩ (by kernel_rfl) ?_; simp only [Act.put, List.setIfInBounds_toArray, List.set_cons_succ, List.set_cons_zero]) | (go_at_call 12; (with_reducible refine (HA1.out _ _ (below_then HB3 (wa1 _ _)) (Blk.new _ _ _)).mono ?_); rintro e w6 ⟨⟨ma, rfl, hca0⟩, hbw6⟩) | (refine wpList_store_all rfl 27 _ _ rfl w6.heap.size 27 [] coZ.toList [] (coA C1 ma).toList rfl rfl (Blk.new _ _ _) rfl (by kernel_rfl) (by simp [Value.oneCell']) ?_; intro u6 gbu6 Uu6))
        have hsu6 : Below w6.heap.size w6 u6 := (wa1 _ _).trans (Uu6.b _ (Nat.le_refl _))
        have HH4 := below_then (wa1 _ _) (below_then hbw6 hsu6)
        have HB4 := below_then HB3 HH4
        have gbc_4 := gbc_3.then_ HH4
        have gbx_4 := gbx_3.then_ HH4
        have go_4 := go.then_ HH4
        clear gbc_3 gbx_3 go HB3 HH4
        have hca := hca0.then_ hsu6
        obtain ⟨bu6, ebu6⟩ : ∃ b, w6.heap.size = b := ⟨_, rfl⟩
        rw [ebu6] at gbu6 ⊢
        clear ebu6 Uu6 hsu6 hbw6 hca0
        go_upto_region 9 with (first | (refine wpList_row_w (by rfl) 27 _ rfl bu6 rfl 27 _ gbu6 ⟨_, Tryz.underlying27⟩ (by kernel_rfl) ?_; simp only [Act.put, List.setIfInBounds_toArray, List.set_cons_succ, List.set_cons_zero]) | (refine wpList_row_w (by rfl) 32 _ rfl bo rfl 32 _ (go_4.alloc _) ⟨_, Tryz.underlying32⟩ (by kernel_rfl) ?_; simp only [Act.put, List.setIfInBounds_toArray, List.set_cons_succ, List.set_cons_zero]) | (go_at_call 12; (with_reducible refine (HK1.out _ _ ma (below_then HB4 (wa1 _ _)) (hca.then_ (wa1 _ _)) (Blk.new _ _ _)).mono ?_); rintro e w8 ⟨⟨mb, rfl, hcb0⟩, hbw8⟩) | (refine wpList_store_all rfl 27 _ _ rfl w8.heap.size 27 [] coZ.toList [] (coA c mb).toList rfl rfl (Blk.new _ _ _) rfl (by kernel_rfl) (by simp [Value.oneCell']) ?_; intro u8 gbu8 Uu8))
        have hsu8 : Below w8.heap.size w8 u8 := (wa1 _ _).trans (Uu8.b _ (Nat.le_refl _))
        have HH5 := below_then (wa1 _ _) (below_then hbw8 hsu8)
        have HB5 := below_then HB4 HH5
        have gbc_5 := gbc_4.then_ HH5
        have gbx_5 := gbx_4.then_ HH5
        have go_5 := go_4.then_ HH5
        have gbu6_5 := gbu6.then_ HH5
        have hca_5 := hca.then_ HH5
        clear gbc_4 gbx_4 go_4 gbu6 hca HB4 HH5
        have hcb := hcb0.then_ hsu8
        obtain ⟨bu8, ebu8⟩ : ∃ b, w8.heap.size = b := ⟨_, rfl⟩
        rw [ebu8] at gbu8 ⊢
        clear ebu8 Uu8 hsu8 hbw8 hcb0
        go_upto_region 11 with (first | (refine wpList_row_w (by rfl) 27 _ rfl bu8 rfl 27 _ gbu8 ⟨_, Tryz.underlying27⟩ (by kernel_rfl) ?_; simp only [Act.put, List.setIfInBounds_toArray, List.set_cons_succ, List.set_cons_zero]) | (refine wpList_row_w (by rfl) 27 _ rfl bc rfl 27 _ gbc_5 ⟨_, Tryz.underlying27⟩ (by kernel_rfl) ?_; simp only [Act.put, List.setIfInBounds_toArray, List.set_cons_succ, List.set_cons_zero]) | (go_at_call 15; (with_reducible refine (HQ.out _ mb HB5 hcb).mono ?_); rintro e w9 ⟨rfl, hbw9⟩))
        have HH6 := hbw9
        have HB6 := below_then HB5 HH6
        have gbc_6 := gbc_5.then_ HH6
        have gbx_6 := gbx_5.then_ HH6
        have go_6 := go_5.then_ HH6
        have gbu6_6 := gbu6_5.then_ HH6
        have hca_6 := hca_5.then_ HH6
        have gbu8_6 := gbu8.then_ HH6
        have hcb_6 := hcb.then_ HH6
        clear gbc_5 gbx_5 go_5 gbu6_5 hca_5 gbu8 hcb HB5 HH6
        go_upto_region 12 with (first | (refine wpList_row_w (by rfl) 27 _ rfl bc rfl 27 _ gbc_6 ⟨_, Tryz.underlying27⟩ (by kernel_rfl) ?_; simp only [Act.put, List.setIfInBounds_toArray, List.set_cons_succ, List.set_cons_zero]) | (go_at_call 12; (with_reducible refine (HA2.out _ _ (below_then HB6 (wa1 _ _)) (Blk.new _ _ _)).mono ?_); rintro e wb ⟨⟨md, rfl, hcd0⟩, hbwb⟩) | (refine wpList_store_all rfl 27 _ _ rfl wb.heap.size 27 [] coZ.toList [] (coA C2 md).toList rfl rfl (Blk.new _ _ _) rfl (by kernel_rfl) (by simp [Value.oneCell']) ?_; intro ub gbub Uub))
        have hsub : Below wb.heap.size wb ub := (wa1 _ _).trans (Uub.b _ (Nat.le_refl _))
        have HH7 := below_then (wa1 _ _) (below_then hbwb hsub)
        have HB7 := below_then HB6 HH7
        have gbc_7 := gbc_6.then_ HH7
        have gbx_7 := gbx_6.then_ HH7
        have go_7 := go_6.then_ HH7
        have gbu6_7 := gbu6_6.then_ HH7
        have hca_7 := hca_6.then_ HH7
        have gbu8_7 := gbu8_6.then_ HH7
        have hcb_7 := hcb_6.then_ HH7
        clear gbc_6 gbx_6 go_6 gbu6_6 hca_6 gbu8_6 hcb_6 HB6 HH7
        have hcd := hcd0.then_ hsub
        obtain ⟨bub, ebub⟩ : ∃ b, wb.heap.size = b := ⟨_, rfl⟩
        rw [ebub] at gbub ⊢
        clear ebub Uub hsub hbwb hcd0
        go_wp2_with (fail)
        go_ret
        exact ⟨rfl, HB7⟩
      · have td : decide (days < 1) = false := decide_eq_false (by omega)
        have td2 : decide (400 < days) = true := decide_eq_true hd
        clear hz2 hd
        go_enter Tryz.func7, Tryz.ntmps7
        go_upto_region 1 with (fail)
        refine name_wp ?_
        intro X0 hX
        have gbc : Blk X0 w.heap.size 27 (coA c m) := by rw [hX]; exact (blk_at (by simp)).alloc _
        have gbx : Blk X0 (w.heap.size + 1) 32 (#[.int .i64 x.k.kind, .int .i64 x.k.role, .int .i64 x.k.act, .int .i64 x.k.need, .slice x.A x.k.start.length x.cap, .int .i64 x.k.aft, .int .i64 x.k.grace, .bool x.k.bus, .bool x.k.fin, .int .i64 x.k.pause, .int .i64 x.k.resume, .int .i64 x.k.v.1, .int .i64 x.k.v.2, .int .i64 x.k.unit, .int .i64 x.k.to_, .bool x.k.waived]) := by rw [hX]; exact blk_at (by simp)
        have HB0 : Below w.heap.size w X0 := by rw [hX]; (repeat (first | with_reducible assumption | with_reducible exact Below.refl _ _ | with_reducible refine below_drewN ?_ _ | with_reducible refine Below.drew ?_ | with_reducible refine below_alloc ?_ _ | with_reducible refine Below.setCell ?_ (by first | omega | (simp; done) | (simp; omega)) _ | with_reducible refine below_then ?_ (by with_reducible assumption) | (refine below_then (a := World.drew _) ?_ (by with_reducible assumption))))
        clear hX
        obtain ⟨bx, ebx⟩ : ∃ b, w.heap.size + 1 = b := ⟨_, rfl⟩
        obtain ⟨bc, ebc⟩ : ∃ b, w.heap.size = b := ⟨_, rfl⟩
        have lbc : w.heap.size ≤ bc := by omega
        have lbx : w.heap.size ≤ bx := by omega
        have nbcbx : bc ≠ bx := by omega
        rw [ebx] at gbx ⊢
        rw [ebc] at gbc ⊢
        clear ebc ebx
        go_upto_region 2 with ((go_at_call 9; (with_reducible refine (HH.out _ HB0).mono ?_); rintro e w1 ⟨rfl, hbw1⟩))
        have HH1 := hbw1
        have HB1 := below_then HB0 HH1
        have gbc_1 := gbc.then_ HH1
        have gbx_1 := gbx.then_ HH1
        clear gbc gbx HB0 HH1
        go_upto_region 4 with (first | (refine wpList_row_w (by rfl) 27 _ rfl bc rfl 27 _ gbc_1 ⟨_, Tryz.underlying27⟩ (by kernel_rfl) ?_; simp only [Act.put, List.setIfInBounds_toArray, List.set_cons_succ, List.set_cons_zero]) | (go_at_call 10; (with_reducible refine (HS1.out _ HB1).mono ?_); rintro e w2 ⟨rfl, hbw2⟩; have c4 : w2.cell? ⟨bc, 4, none⟩ = some (.slice m.k c.cl.length m.kc) := (gbc_1.then_ hbw2).cell 4; have x4 : w2.cell? ⟨bx, 4, none⟩ = some (.slice x.A x.k.start.length x.cap) := (gbx_1.then_ hbw2).cell 4))
        have HH2 := hbw2
        have HB2 := below_then HB1 HH2
        have gbc_2 := gbc_1.then_ HH2
        have gbx_2 := gbx_1.then_ HH2
        clear gbc_1 gbx_1 HB1 HH2
        clear x4
        have hne := HNE.out
        go_upto_region 5 with (fail)
        rw [← Int.natCast_emod, HI.out]
        clear hne
        have hix := HIX.out
        have hrg := range_then HRG.out.1 HB2 HRG.out.2
        go_upto_region 6 with ((refine wpList_elem 32 el16 _ _ _ rfl rfl rfl rfl rfl rfl rfl rfl rfl b0 _ rfl (kL y) rfl hrg (by simp [Value.oneCell']) (by decide) (by simp) (by simp) ?_; simp only [Act.put, List.setIfInBounds_toArray, List.set_cons_succ, List.set_cons_zero]))
        refine name_wp ?_
        intro X5 hX
        have go : Blk X5 w2.heap.size 32 #[.int .i64 y.k.kind, .int .i64 y.k.role, .int .i64 y.k.act, .int .i64 y.k.need, .slice y.A y.k.start.length y.cap, .int .i64 y.k.aft, .int .i64 y.k.grace, .bool y.k.bus, .bool y.k.fin, .int .i64 y.k.pause, .int .i64 y.k.resume, .int .i64 y.k.v.1, .int .i64 y.k.v.2, .int .i64 y.k.unit, .int .i64 y.k.to_, .bool y.k.waived] := by rw [hX]; exact Blk.new _ _ _
        have hb5 : Below w2.heap.size w2 X5 := by rw [hX]; exact wa1 _ _
        clear hX hrg hix c4
        have HH3 := hb5
        have HB3 := below_then HB2 HH3
        have gbc_3 := gbc_2.then_ HH3
        have gbx_3 := gbx_2.then_ HH3
        clear gbc_2 gbx_2 HB2 HH3
        obtain ⟨bo, ebo⟩ : ∃ b, w2.heap.size = b := ⟨_, rfl⟩
        rw [ebo] at go ⊢
        clear ebo
        go_upto_region 7 with (first | (refine wpList_row_w (by rfl) 27 _ rfl bc rfl 27 _ gbc_3 ⟨_, Tryz.underlying27⟩ (by kernel_rfl) ?_; simp only [Act.put, List.setIfInBounds_toArray, List.set_cons_succ, List.set_cons_zero]) | (refine wpList_row_w (by rfl) 32 _ rfl bx rfl 32 _ (gbx_3.alloc _) ⟨_, Tryz.underlying32⟩ (by kernel_rfl) ?_; simp only [Act.put, List.setIfInBounds_toArray, List.set_cons_succ, List.set_cons_zero]) | (go_at_call 12; (with_reducible refine (HA1.out _ _ (below_then HB3 (wa1 _ _)) (Blk.new _ _ _)).mono ?_); rintro e w6 ⟨⟨ma, rfl, hca0⟩, hbw6⟩) | (refine wpList_store_all rfl 27 _ _ rfl w6.heap.size 27 [] coZ.toList [] (coA C1 ma).toList rfl rfl (Blk.new _ _ _) rfl (by kernel_rfl) (by simp [Value.oneCell']) ?_; intro u6 gbu6 Uu6))
        have hsu6 : Below w6.heap.size w6 u6 := (wa1 _ _).trans (Uu6.b _ (Nat.le_refl _))
        have HH4 := below_then (wa1 _ _) (below_then hbw6 hsu6)
        have HB4 := below_then HB3 HH4
        have gbc_4 := gbc_3.then_ HH4
        have gbx_4 := gbx_3.then_ HH4
        have go_4 := go.then_ HH4
        clear gbc_3 gbx_3 go HB3 HH4
        have hca := hca0.then_ hsu6
        obtain ⟨bu6, ebu6⟩ : ∃ b, w6.heap.size = b := ⟨_, rfl⟩
        rw [ebu6] at gbu6 ⊢
        clear ebu6 Uu6 hsu6 hbw6 hca0
        go_upto_region 9 with (first | (refine wpList_row_w (by rfl) 27 _ rfl bu6 rfl 27 _ gbu6 ⟨_, Tryz.underlying27⟩ (by kernel_rfl) ?_; simp only [Act.put, List.setIfInBounds_toArray, List.set_cons_succ, List.set_cons_zero]) | (refine wpList_row_w (by rfl) 32 _ rfl bo rfl 32 _ (go_4.alloc _) ⟨_, Tryz.underlying32⟩ (by kernel_rfl) ?_; simp only [Act.put, List.setIfInBounds_toArray, List.set_cons_succ, List.set_cons_zero]) | (go_at_call 12; (with_reducible refine (HK1.out _ _ ma (below_then HB4 (wa1 _ _)) (hca.then_ (wa1 _ _)) (Blk.new _ _ _)).mono ?_); rintro e w8 ⟨⟨mb, rfl, hcb0⟩, hbw8⟩) | (refine wpList_store_all rfl 27 _ _ rfl w8.heap.size 27 [] coZ.toList [] (coA c mb).toList rfl rfl (Blk.new _ _ _) rfl (by kernel_rfl) (by simp [Value.oneCell']) ?_; intro u8 gbu8 Uu8))
        have hsu8 : Below w8.heap.size w8 u8 := (wa1 _ _).trans (Uu8.b _ (Nat.le_refl _))
        have HH5 := below_then (wa1 _ _) (below_then hbw8 hsu8)
        have HB5 := below_then HB4 HH5
        have gbc_5 := gbc_4.then_ HH5
        have gbx_5 := gbx_4.then_ HH5
        have go_5 := go_4.then_ HH5
        have gbu6_5 := gbu6.then_ HH5
        have hca_5 := hca.then_ HH5
        clear gbc_4 gbx_4 go_4 gbu6 hca HB4 HH5
        have hcb := hcb0.then_ hsu8
        obtain ⟨bu8, ebu8⟩ : ∃ b, w8.heap.size = b := ⟨_, rfl⟩
        rw [ebu8] at gbu8 ⊢
        clear ebu8 Uu8 hsu8 hbw8 hcb0
        go_upto_region 11 with (first | (refine wpList_row_w (by rfl) 27 _ rfl bu8 rfl 27 _ gbu8 ⟨_, Tryz.underlying27⟩ (by kernel_rfl) ?_; simp only [Act.put, List.setIfInBounds_toArray, List.set_cons_succ, List.set_cons_zero]) | (refine wpList_row_w (by rfl) 27 _ rfl bc rfl 27 _ gbc_5 ⟨_, Tryz.underlying27⟩ (by kernel_rfl) ?_; simp only [Act.put, List.setIfInBounds_toArray, List.set_cons_succ, List.set_cons_zero]) | (go_at_call 15; (with_reducible refine (HQ.out _ mb HB5 hcb).mono ?_); rintro e w9 ⟨rfl, hbw9⟩))
        have HH6 := hbw9
        have HB6 := below_then HB5 HH6
        have gbc_6 := gbc_5.then_ HH6
        have gbx_6 := gbx_5.then_ HH6
        have go_6 := go_5.then_ HH6
        have gbu6_6 := gbu6_5.then_ HH6
        have hca_6 := hca_5.then_ HH6
        have gbu8_6 := gbu8.then_ HH6
        have hcb_6 := hcb.then_ HH6
        clear gbc_5 gbx_5 go_5 gbu6_5 hca_5 gbu8 hcb HB5 HH6
        go_upto_region 12 with (first | (refine wpList_row_w (by rfl) 27 _ rfl bc rfl 27 _ gbc_6 ⟨_, Tryz.underlying27⟩ (by kernel_rfl) ?_; simp only [Act.put, List.setIfInBounds_toArray, List.set_cons_succ, List.set_cons_zero]) | (go_at_call 12; (with_reducible refine (HA2.out _ _ (below_then HB6 (wa1 _ _)) (Blk.new _ _ _)).mono ?_); rintro e wb ⟨⟨md, rfl, hcd0⟩, hbwb⟩) | (refine wpList_store_all rfl 27 _ _ rfl wb.heap.size 27 [] coZ.toList [] (coA C2 md).toList rfl rfl (Blk.new _ _ _) rfl (by kernel_rfl) (by simp [Value.oneCell']) ?_; intro ub gbub Uub))
        have hsub : Below wb.heap.size wb ub := (wa1 _ _).trans (Uub.b _ (Nat.le_refl _))
        have HH7 := below_then (wa1 _ _) (below_then hbwb hsub)
        have HB7 := below_then HB6 HH7
        have gbc_7 := gbc_6.then_ HH7
        have gbx_7 := gbx_6.then_ HH7
        have go_7 := go_6.then_ HH7
        have gbu6_7 := gbu6_6.then_ HH7
        have hca_7 := hca_6.then_ HH7
        have gbu8_7 := gbu8_6.then_ HH7
        have hcb_7 := hcb_6.then_ HH7
        clear gbc_6 gbx_6 go_6 gbu6_6 hca_6 gbu8_6 hcb_6 HB6 HH7
        have hcd := hcd0.then_ hsub
        obtain ⟨bub, ebub⟩ : ∃ b, wb.heap.size = b := ⟨_, rfl⟩
        rw [ebub] at gbub ⊢
        clear ebub Uub hsub hbwb hcd0
        go_wp2_with (fail)
        go_ret
        exact ⟨rfl, HB7⟩
  · have t1 : (E1 == 0) = false := by rw [beq_eq_false_iff_ne]; exact hz1
    have t1' : (E1 != 0) = true := by rw [bne_iff_ne]; exact hz1
    clear hz1
    by_cases hz2 : E2 = 0
    · subst hz2
      replace HU2 := Lib.hid (HU2.out rfl)
      replace HK2 := Lib.hid (HK2.out rfl)
      go_enter Tryz.func7, Tryz.ntmps7
      go_upto_region 1 with (fail)
      refine name_wp ?_
      intro X0 hX
      have gbc : Blk X0 w.heap.size 27 (coA c m) := by rw [hX]; exact (blk_at (by simp)).alloc _
      have gbx : Blk X0 (w.heap.size + 1) 32 (#[.int .i64 x.k.kind, .int .i64 x.k.role, .int .i64 x.k.act, .int .i64 x.k.need, .slice x.A x.k.start.length x.cap, .int .i64 x.k.aft, .int .i64 x.k.grace, .bool x.k.bus, .bool x.k.fin, .int .i64 x.k.pause, .int .i64 x.k.resume, .int .i64 x.k.v.1, .int .i64 x.k.v.2, .int .i64 x.k.unit, .int .i64 x.k.to_, .bool x.k.waived]) := by rw [hX]; exact blk_at (by simp)
      have HB0 : Below w.heap.size w X0 := by rw [hX]; (repeat (first | with_reducible assumption | with_reducible exact Below.refl _ _ | with_reducible refine below_drewN ?_ _ | with_reducible refine Below.drew ?_ | with_reducible refine below_alloc ?_ _ | with_reducible refine Below.setCell ?_ (by first | omega | (simp; done) | (simp; omega)) _ | with_reducible refine below_then ?_ (by with_reducible assumption) | (refine below_then (a := World.drew _) ?_ (by with_reducible assumption))))
      clear hX
      obtain ⟨bx, ebx⟩ : ∃ b, w.heap.size + 1 = b := ⟨_, rfl⟩
      obtain ⟨bc, ebc⟩ : ∃ b, w.heap.size = b := ⟨_, rfl⟩
      have lbc : w.heap.size ≤ bc := by omega
      have lbx : w.heap.size ≤ bx := by omega
      have nbcbx : bc ≠ bx := by omega
      rw [ebx] at gbx ⊢
      rw [ebc] at gbc ⊢
      clear ebc ebx
      go_upto_region 2 with ((go_at_call 9; (with_reducible refine (HH.out _ HB0).mono ?_); rintro e w1 ⟨rfl, hbw1⟩))
      have HH1 := hbw1
      have HB1 := below_then HB0 HH1
      have gbc_1 := gbc.then_ HH1
      have gbx_1 := gbx.then_ HH1
      clear gbc gbx HB0 HH1
      go_upto_region 4 with (first | (refine wpList_row_w (by rfl) 27 _ rfl bc rfl 27 _ gbc_1 ⟨_, Tryz.underlying27⟩ (by kernel_rfl) ?_; simp only [Act.put, List.setIfInBounds_toArray, List.set_cons_succ, List.set_cons_zero]) | (go_at_call 10; (with_reducible refine (HS1.out _ HB1).mono ?_); rintro e w2 ⟨rfl, hbw2⟩; have c4 : w2.cell? ⟨bc, 4, none⟩ = some (.slice m.k c.cl.length m.kc) := (gbc_1.then_ hbw2).cell 4; have x4 : w2.cell? ⟨bx, 4, none⟩ = some (.slice x.A x.k.start.length x.cap) := (gbx_1.then_ hbw2).cell 4))
      have HH2 := hbw2
      have HB2 := below_then HB1 HH2
      have gbc_2 := gbc_1.then_ HH2
      have gbx_2 := gbx_1.then_ HH2
      clear gbc_1 gbx_1 HB1 HH2
      clear x4
      have hne := HNE.out
      go_upto_region 5 with (fail)
      rw [← Int.natCast_emod, HI.out]
      clear hne
      have hix := HIX.out
      have hrg := range_then HRG.out.1 HB2 HRG.out.2
      go_upto_region 6 with ((refine wpList_elem 32 el16 _ _ _ rfl rfl rfl rfl rfl rfl rfl rfl rfl b0 _ rfl (kL y) rfl hrg (by simp [Value.oneCell']) (by decide) (by simp) (by simp) ?_; simp only [Act.put, List.setIfInBounds_toArray, List.set_cons_succ, List.set_cons_zero]))
      refine name_wp ?_
      intro X5 hX
      have go : Blk X5 w2.heap.size 32 #[.int .i64 y.k.kind, .int .i64 y.k.role, .int .i64 y.k.act, .int .i64 y.k.need, .slice y.A y.k.start.length y.cap, .int .i64 y.k.aft, .int .i64 y.k.grace, .bool y.k.bus, .bool y.k.fin, .int .i64 y.k.pause, .int .i64 y.k.resume, .int .i64 y.k.v.1, .int .i64 y.k.v.2, .int .i64 y.k.unit, .int .i64 y.k.to_, .bool y.k.waived] := by rw [hX]; exact Blk.new _ _ _
      have hb5 : Below w2.heap.size w2 X5 := by rw [hX]; exact wa1 _ _
      clear hX hrg hix c4
      have HH3 := hb5
      have HB3 := below_then HB2 HH3
      have gbc_3 := gbc_2.then_ HH3
      have gbx_3 := gbx_2.then_ HH3
      clear gbc_2 gbx_2 HB2 HH3
      obtain ⟨bo, ebo⟩ : ∃ b, w2.heap.size = b := ⟨_, rfl⟩
      rw [ebo] at go ⊢
      clear ebo
      go_upto_region 7 with (first | (refine wpList_row_w (by rfl) 27 _ rfl bc rfl 27 _ gbc_3 ⟨_, Tryz.underlying27⟩ (by kernel_rfl) ?_; simp only [Act.put, List.setIfInBounds_toArray, List.set_cons_succ, List.set_cons_zero]) | (refine wpList_row_w (by rfl) 32 _ rfl bx rfl 32 _ (gbx_3.alloc _) ⟨_, Tryz.underlying32⟩ (by kernel_rfl) ?_; simp only [Act.put, List.setIfInBounds_toArray, List.set_cons_succ, List.set_cons_zero]) | (go_at_call 12; (with_reducible refine (HA1.out _ _ (below_then HB3 (wa1 _ _)) (Blk.new _ _ _)).mono ?_); rintro e w6 ⟨⟨ma, rfl, hca0⟩, hbw6⟩) | (refine wpList_store_all rfl 27 _ _ rfl w6.heap.size 27 [] coZ.toList [] (coA C1 ma).toList rfl rfl (Blk.new _ _ _) rfl (by kernel_rfl) (by simp [Value.oneCell']) ?_; intro u6 gbu6 Uu6))
      have hsu6 : Below w6.heap.size w6 u6 := (wa1 _ _).trans (Uu6.b _ (Nat.le_refl _))
      have HH4 := below_then (wa1 _ _) (below_then hbw6 hsu6)
      have HB4 := below_then HB3 HH4
      have gbc_4 := gbc_3.then_ HH4
      have gbx_4 := gbx_3.then_ HH4
      have go_4 := go.then_ HH4
      clear gbc_3 gbx_3 go HB3 HH4
      have hca := hca0.then_ hsu6
      obtain ⟨bu6, ebu6⟩ : ∃ b, w6.heap.size = b := ⟨_, rfl⟩
      rw [ebu6] at gbu6 ⊢
      clear ebu6 Uu6 hsu6 hbw6 hca0
      go_upto_region 12 with (first | (refine wpList_row_w (by rfl) 27 _ rfl bc rfl 27 _ gbc_4 ⟨_, Tryz.underlying27⟩ (by kernel_rfl) ?_; simp only [Act.put, List.setIfInBounds_toArray, List.set_cons_succ, List.set_cons_zero]) | (go_at_call 12; (with_reducible refine (HA2.out _ _ (below_then HB4 (wa1 _ _)) (Blk.new _ _ _)).mono ?_); rintro e wb ⟨⟨md, rfl, hcd0⟩, hbwb⟩) | (refine wpList_store_all rfl 27 _ _ rfl wb.heap.size 27 [] coZ.toList [] (coA C2 md).toList rfl rfl (Blk.new _ _ _) rfl (by kernel_rfl) (by simp [Value.oneCell']) ?_; intro ub gbub Uub))
      have hsub : Below wb.heap.size wb ub := (wa1 _ _).trans (Uub.b _ (Nat.le_refl _))
      have HH5 := below_then (wa1 _ _) (below_then hbwb hsub)
      have HB5 := below_then HB4 HH5
      have gbc_5 := gbc_4.then_ HH5
      have gbx_5 := gbx_4.then_ HH5
      have go_5 := go_4.then_ HH5
      have gbu6_5 := gbu6.then_ HH5
      have hca_5 := hca.then_ HH5
      clear gbc_4 gbx_4 go_4 gbu6 hca HB4 HH5
      have hcd := hcd0.then_ hsub
      obtain ⟨bub, ebub⟩ : ∃ b, wb.heap.size = b := ⟨_, rfl⟩
      rw [ebub] at gbub ⊢
      clear ebub Uub hsub hbwb hcd0
      have a5 : ub.cell? ⟨bo, 5, none⟩ = some (.int .i64 y.k.aft) := go_5.cell 5
      have lbo := go_5.lt
      go_upto_region 14 with (fail)
      go_upto_region 15 with (first | (refine wpList_row_w (by rfl) 27 _ rfl bub rfl 27 _ gbub ⟨_, Tryz.underlying27⟩ (by kernel_rfl) ?_; simp only [Act.put, List.setIfInBounds_toArray, List.set_cons_succ, List.set_cons_zero]) | (go_at_call 12; (with_reducible refine (HK2.out _ _ md (hcd.then_ (wa1 _ _)) (Blk.new _ _ _)).mono ?_); rintro e wk ⟨⟨mk, rfl, hck0⟩, hbwk⟩) | (refine wpList_store_all rfl 27 _ _ rfl wk.heap.size 27 [] coZ.toList [] (coA c mk).toList rfl rfl (Blk.new _ _ _) rfl (by kernel_rfl) (by simp [Value.oneCell']) ?_; intro uk gbuk Uuk))
      have hsuk : Below wk.heap.size wk uk := (wa1 _ _).trans (Uuk.b _ (Nat.le_refl _))
      have HH6 := below_then (wa1 _ _) (below_then hbwk hsuk)
      have HB6 := below_then HB5 HH6
      have gbc_6 := gbc_5.then_ HH6
      have gbx_6 := gbx_5.then_ HH6
      have go_6 := go_5.then_ HH6
      have gbu6_6 := gbu6_5.then_ HH6
      have hca_6 := hca_5.then_ HH6
      have gbub_6 := gbub.then_ HH6
      have hcd_6 := hcd.then_ HH6
      clear gbc_5 gbx_5 go_5 gbu6_5 hca_5 gbub hcd HB5 HH6
      have hck := hck0.then_ hsuk
      obtain ⟨buk, ebuk⟩ : ∃ b, wk.heap.size = b := ⟨_, rfl⟩
      rw [ebuk] at gbuk ⊢
      clear ebuk Uuk hsuk hbwk hck0
      have hdl := (List.getElem?_eq_some_iff.1 HU2.out.2.2).1
      obtain ⟨kb, ko, ek, _, hkc⟩ := con_cells hcd_6 (by omega)
      have hk5 := (con_cell hcd_6 hkc HU2.out.2.2).1
      simp only at hk5
      have d4 : uk.cell? ⟨bub, 4, none⟩ = some (.slice (some ⟨kb, ko, none⟩) C2.cl.length md.kc) := by rw [← ek]; exact gbub_6.cell 4
      have hix2 := fun W => idx_at (t := 25) (size := 16) (A := some ⟨kb, ko, none⟩) (cap := md.kc) (len := C2.cl.length) (k := i) rfl hdl (by kernel_rfl) (fun W => by kernel_rfl) W
      have td : (days == days) = true := beq_self_eq_true _
      clear ek hkc hdl a5 lbo
      go_wp2_with (first | (refine wpList_row_w (by rfl) 27 _ rfl buk rfl 27 _ gbuk ⟨_, Tryz.underlying27⟩ (by kernel_rfl) ?_; simp only [Act.put, List.setIfInBounds_toArray, List.set_cons_succ, List.set_cons_zero]) | (refine wpList_row_w (by rfl) 27 _ rfl bc rfl 27 _ gbc_6 ⟨_, Tryz.underlying27⟩ (by kernel_rfl) ?_; simp only [Act.put, List.setIfInBounds_toArray, List.set_cons_succ, List.set_cons_zero]) | (go_at_call 15; (with_reducible refine (HQ.out _ mk HB6 hck).mono ?_); rintro e wz ⟨rfl, hbwz⟩))
      go_ret
      exact ⟨rfl, below_then HB6 hbwz⟩
    · have t2 : (E2 != 0) = true := by rw [bne_iff_ne]; exact hz2
      clear hz2
      go_enter Tryz.func7, Tryz.ntmps7
      go_upto_region 1 with (fail)
      refine name_wp ?_
      intro X0 hX
      have gbc : Blk X0 w.heap.size 27 (coA c m) := by rw [hX]; exact (blk_at (by simp)).alloc _
      have gbx : Blk X0 (w.heap.size + 1) 32 (#[.int .i64 x.k.kind, .int .i64 x.k.role, .int .i64 x.k.act, .int .i64 x.k.need, .slice x.A x.k.start.length x.cap, .int .i64 x.k.aft, .int .i64 x.k.grace, .bool x.k.bus, .bool x.k.fin, .int .i64 x.k.pause, .int .i64 x.k.resume, .int .i64 x.k.v.1, .int .i64 x.k.v.2, .int .i64 x.k.unit, .int .i64 x.k.to_, .bool x.k.waived]) := by rw [hX]; exact blk_at (by simp)
      have HB0 : Below w.heap.size w X0 := by rw [hX]; (repeat (first | with_reducible assumption | with_reducible exact Below.refl _ _ | with_reducible refine below_drewN ?_ _ | with_reducible refine Below.drew ?_ | with_reducible refine below_alloc ?_ _ | with_reducible refine Below.setCell ?_ (by first | omega | (simp; done) | (simp; omega)) _ | with_reducible refine below_then ?_ (by with_reducible assumption) | (refine below_then (a := World.drew _) ?_ (by with_reducible assumption))))
      clear hX
      obtain ⟨bx, ebx⟩ : ∃ b, w.heap.size + 1 = b := ⟨_, rfl⟩
      obtain ⟨bc, ebc⟩ : ∃ b, w.heap.size = b := ⟨_, rfl⟩
      have lbc : w.heap.size ≤ bc := by omega
      have lbx : w.heap.size ≤ bx := by omega
      have nbcbx : bc ≠ bx := by omega
      rw [ebx] at gbx ⊢
      rw [ebc] at gbc ⊢
      clear ebc ebx
      go_upto_region 2 with ((go_at_call 9; (with_reducible refine (HH.out _ HB0).mono ?_); rintro e w1 ⟨rfl, hbw1⟩))
      have HH1 := hbw1
      have HB1 := below_then HB0 HH1
      have gbc_1 := gbc.then_ HH1
      have gbx_1 := gbx.then_ HH1
      clear gbc gbx HB0 HH1
      go_upto_region 4 with (first | (refine wpList_row_w (by rfl) 27 _ rfl bc rfl 27 _ gbc_1 ⟨_, Tryz.underlying27⟩ (by kernel_rfl) ?_; simp only [Act.put, List.setIfInBounds_toArray, List.set_cons_succ, List.set_cons_zero]) | (go_at_call 10; (with_reducible refine (HS1.out _ HB1).mono ?_); rintro e w2 ⟨rfl, hbw2⟩; have c4 : w2.cell? ⟨bc, 4, none⟩ = some (.slice m.k c.cl.length m.kc) := (gbc_1.then_ hbw2).cell 4; have x4 : w2.cell? ⟨bx, 4, none⟩ = some (.slice x.A x.k.start.length x.cap) := (gbx_1.then_ hbw2).cell 4))
      have HH2 := hbw2
      have HB2 := below_then HB1 HH2
      have gbc_2 := gbc_1.then_ HH2
      have gbx_2 := gbx_1.then_ HH2
      clear gbc_1 gbx_1 HB1 HH2
      clear x4
      have hne := HNE.out
      go_upto_region 5 with (fail)
      rw [← Int.natCast_emod, HI.out]
      clear hne
      have hix := HIX.out
      have hrg := range_then HRG.out.1 HB2 HRG.out.2
      go_upto_region 6 with ((refine wpList_elem 32 el16 _ _ _ rfl rfl rfl rfl rfl rfl rfl rfl rfl b0 _ rfl (kL y) rfl hrg (by simp [Value.oneCell']) (by decide) (by simp) (by simp) ?_; simp only [Act.put, List.setIfInBounds_toArray, List.set_cons_succ, List.set_cons_zero]))
      refine name_wp ?_
      intro X5 hX
      have go : Blk X5 w2.heap.size 32 #[.int .i64 y.k.kind, .int .i64 y.k.role, .int .i64 y.k.act, .int .i64 y.k.need, .slice y.A y.k.start.length y.cap, .int .i64 y.k.aft, .int .i64 y.k.grace, .bool y.k.bus, .bool y.k.fin, .int .i64 y.k.pause, .int .i64 y.k.resume, .int .i64 y.k.v.1, .int .i64 y.k.v.2, .int .i64 y.k.unit, .int .i64 y.k.to_, .bool y.k.waived] := by rw [hX]; exact Blk.new _ _ _
      have hb5 : Below w2.heap.size w2 X5 := by rw [hX]; exact wa1 _ _
      clear hX hrg hix c4
      have HH3 := hb5
      have HB3 := below_then HB2 HH3
      have gbc_3 := gbc_2.then_ HH3
      have gbx_3 := gbx_2.then_ HH3
      clear gbc_2 gbx_2 HB2 HH3
      obtain ⟨bo, ebo⟩ : ∃ b, w2.heap.size = b := ⟨_, rfl⟩
      rw [ebo] at go ⊢
      clear ebo
      go_upto_region 7 with (first | (refine wpList_row_w (by rfl) 27 _ rfl bc rfl 27 _ gbc_3 ⟨_, Tryz.underlying27⟩ (by kernel_rfl) ?_; simp only [Act.put, List.setIfInBounds_toArray, List.set_cons_succ, List.set_cons_zero]) | (refine wpList_row_w (by rfl) 32 _ rfl bx rfl 32 _ (gbx_3.alloc _) ⟨_, Tryz.underlying32⟩ (by kernel_rfl) ?_; simp only [Act.put, List.setIfInBounds_toArray, List.set_cons_succ, List.set_cons_zero]) | (go_at_call 12; (with_reducible refine (HA1.out _ _ (below_then HB3 (wa1 _ _)) (Blk.new _ _ _)).mono ?_); rintro e w6 ⟨⟨ma, rfl, hca0⟩, hbw6⟩) | (refine wpList_store_all rfl 27 _ _ rfl w6.heap.size 27 [] coZ.toList [] (coA C1 ma).toList rfl rfl (Blk.new _ _ _) rfl (by kernel_rfl) (by simp [Value.oneCell']) ?_; intro u6 gbu6 Uu6))
      have hsu6 : Below w6.heap.size w6 u6 := (wa1 _ _).trans (Uu6.b _ (Nat.le_refl _))
      have HH4 := below_then (wa1 _ _) (below_then hbw6 hsu6)
      have HB4 := below_then HB3 HH4
      have gbc_4 := gbc_3.then_ HH4
      have gbx_4 := gbx_3.then_ HH4
      have go_4 := go.then_ HH4
      clear gbc_3 gbx_3 go HB3 HH4
      have hca := hca0.then_ hsu6
      obtain ⟨bu6, ebu6⟩ : ∃ b, w6.heap.size = b := ⟨_, rfl⟩
      rw [ebu6] at gbu6 ⊢
      clear ebu6 Uu6 hsu6 hbw6 hca0
      go_upto_region 12 with (first | (refine wpList_row_w (by rfl) 27 _ rfl bc rfl 27 _ gbc_4 ⟨_, Tryz.underlying27⟩ (by kernel_rfl) ?_; simp only [Act.put, List.setIfInBounds_toArray, List.set_cons_succ, List.set_cons_zero]) | (go_at_call 12; (with_reducible refine (HA2.out _ _ (below_then HB4 (wa1 _ _)) (Blk.new _ _ _)).mono ?_); rintro e wb ⟨⟨md, rfl, hcd0⟩, hbwb⟩) | (refine wpList_store_all rfl 27 _ _ rfl wb.heap.size 27 [] coZ.toList [] (coA C2 md).toList rfl rfl (Blk.new _ _ _) rfl (by kernel_rfl) (by simp [Value.oneCell']) ?_; intro ub gbub Uub))
      have hsub : Below wb.heap.size wb ub := (wa1 _ _).trans (Uub.b _ (Nat.le_refl _))
      have HH5 := below_then (wa1 _ _) (below_then hbwb hsub)
      have HB5 := below_then HB4 HH5
      have gbc_5 := gbc_4.then_ HH5
      have gbx_5 := gbx_4.then_ HH5
      have go_5 := go_4.then_ HH5
      have gbu6_5 := gbu6.then_ HH5
      have hca_5 := hca.then_ HH5
      clear gbc_4 gbx_4 go_4 gbu6 hca HB4 HH5
      have hcd := hcd0.then_ hsub
      obtain ⟨bub, ebub⟩ : ∃ b, wb.heap.size = b := ⟨_, rfl⟩
      rw [ebub] at gbub ⊢
      clear ebub Uub hsub hbwb hcd0
      go_wp2_with (fail)
      go_ret
      exact ⟨rfl, HB5⟩
end Go.Proofs.YtplommmegkdhdaaGreatDoor
