/- The walk of ValidateDifferences. -/
import Derived.Test.YtginnonjdbpamaaGreatDoorZDf3
import Derived.Test.YtginnonjdbpamaaGreatDoorMb1
set_option maxHeartbeats 6400000
set_option maxRecDepth 100000
namespace Go.Proofs.YtginnonjdbpamaaGreatDoor
open Go.RowKit Go.Sort
theorem tmod_n5 {x : Int} {L : Nat} (hx : 0 ≤ x) (hL : 0 < L) : ∃ r : Nat, x.tmod (L : Int) = (r : Int) ∧ r < L := by
 obtain ⟨y, rfl⟩ := Int.eq_ofNat_of_zero_le hx
 exact ⟨y % L, by rw [Int.ofNat_tmod], Nat.mod_lt _ hL⟩
theorem differs_walk (c : Con) (m : Cm) (l : List Int) (A : Option Addr) (cap : Nat) (ra rb rd : Int) (w : World) (hL : Lw w) (hc : ContW w c m) (hl : LstM w eI 1 (fun y => I64 y) A l cap) (h_a : 0 ≤ ra ∧ ra ≤ 255) (h_b : 0 ≤ rb ∧ rb ≤ 255) (h_d : 0 ≤ rd ∧ rd ≤ 255) :
  Calls Tryz.prog 5 #[.agg (coA c m), .slice A l.length cap, .int .u8 ra, .int .u8 rb, .int .u8 rd] w fun e w' => e = .returned (.bool true) ∧ Below w.heap.size w w' := by
 have HH := Lib.hid (fun W (hb : Below w.heap.size w W) => head_any W (hL.below hb))
 cases hs1 : c.fewL l with
 | false =>
  have HS1 := Lib.hid (fun W (hb : Below w.heap.size w W) => few_at c m l A cap false hc hs1 W hb)
  clear hc hl hs1 hL
  go_enter Tryz.func5, Tryz.ntmps5
  go_upto_region 1 with (fail)
  refine name_wp ?_
  intro X0 hX
  have gbc : Blk X0 w.heap.size 27 (coA c m) := by rw [hX]; exact blk_at (by simp)
  have HB0 : Below w.heap.size w X0 := by rw [hX]; (repeat (first | exact Below.refl _ _ | refine below_alloc ?_ _))
  clear hX
  obtain ⟨bc, ebc⟩ : ∃ b, w.heap.size = b := ⟨_, rfl⟩
  have lbc : w.heap.size ≤ bc := by omega
  rw [ebc] at gbc ⊢
  clear ebc
  go_upto_region 2 with ((go_at_call 11; (with_reducible refine (HH.out _ HB0).mono ?_); rintro e w1 ⟨rfl, hbw1⟩))
  have HH1 := hbw1
  have HB1 := below_then HB0 HH1
  have gbc_1 := gbc.then_ HH1
  clear gbc HB0 HH1
  go_wp2_with (first | (refine wpList_row_w (by rfl) 27 _ rfl bc rfl 27 _ gbc_1 ⟨_, Tryz.underlying27⟩ (by kernel_rfl) ?_; simp only [Act.put, qzG, qzH, qzI]) | (go_at_call 12; (with_reducible refine (HS1.out _ HB1).mono ?_); rintro e w2 ⟨rfl, hbw2⟩))
  go_ret
  exact ⟨rfl, below_then HB1 hbw2⟩
 | true =>
 have HS1 := Lib.hid (fun W (hb : Below w.heap.size w W) => few_at c m l A cap true hc hs1 W hb)
 obtain ⟨hC, nl, hf8⟩ := fewL_cont hc hs1
 have hA := hl.2.2.2
 have nl2 : l.length ≤ 1000000 := by omega
 have HR := Lib.hid (fun W (hb : Below w.heap.size w W) => run_sl c m l A cap hC hA nl2 W hb)
 have HC := Lib.hid hC
 have HA := Lib.hid hA
 have HG := Lib.hid (fun (rw_ : List (Sta × Qm)) (Av : Option Addr) (capv : Nat) (V : Int × Bool) (hr : c.agr l (rw_.map (·.1)) = V) (hn : rw_.length ≤ 1000000) (W : World) (hb : Below w.heap.size w W) (hS : Stl W Av rw_) => agr_sl c m l A cap hC hA nl2 Av capv rw_ V hr hn W hb hS)
 obtain ⟨E, eE⟩ : ∃ E, c.runE l = E := ⟨_, rfl⟩
 rw [eE] at HR
 have nl3 : l.length ≤ 60 := nl
 by_cases h0 : E ≠ 0
 ·have h1 := h0
  clear hC hA hc hl hs1 hL nl nl2 nl3 hf8
  go_enter Tryz.func5, Tryz.ntmps5
  go_upto_region 1 with (fail)
  refine name_wp ?_
  intro X0 hX
  have gbc : Blk X0 w.heap.size 27 (coA c m) := by rw [hX]; exact blk_at (by simp)
  have HB0 : Below w.heap.size w X0 := by rw [hX]; (repeat (first | exact Below.refl _ _ | refine below_alloc ?_ _))
  clear hX
  obtain ⟨bc, ebc⟩ : ∃ b, w.heap.size = b := ⟨_, rfl⟩
  have lbc : w.heap.size ≤ bc := by omega
  rw [ebc] at gbc ⊢
  clear ebc
  go_upto_region 2 with ((go_at_call 11; (with_reducible refine (HH.out _ HB0).mono ?_); rintro e w1 ⟨rfl, hbw1⟩))
  have HH1 := hbw1
  have HB1 := below_then HB0 HH1
  have gbc_1 := gbc.then_ HH1
  clear gbc HB0 HH1
  go_upto_region 4 with (first | (refine wpList_row_w (by rfl) 27 _ rfl bc rfl 27 _ gbc_1 ⟨_, Tryz.underlying27⟩ (by kernel_rfl) ?_; simp only [Act.put, qzG, qzH, qzI]) | (go_at_call 12; (with_reducible refine (HS1.out _ HB1).mono ?_); rintro e w2 ⟨rfl, hbw2⟩))
  have HH2 := hbw2
  have HB2 := below_then HB1 HH2
  have gbc_2 := gbc_1.then_ HH2
  clear gbc_1 HB1 HH2
  go_upto_region 5 with (first | (refine wpList_row_w (by rfl) 27 _ rfl bc rfl 27 _ gbc_2 ⟨_, Tryz.underlying27⟩ (by kernel_rfl) ?_; simp only [Act.put, qzG, qzH, qzI]) | (go_at_call 13; (with_reducible refine (HR.out _ HB2).mono ?_); rintro e w3 ⟨⟨Av, capv, rows, rfl, hrr, hS, hcv, hnr⟩, hbw3⟩))
  have HH3 := hbw3
  have HB3 := below_then HB2 HH3
  have gbc_3 := gbc_2.then_ HH3
  clear gbc_2 HB2 HH3
  have z2 : (E == 0) = false := beq_eq_false_iff_ne.2 h0
  have z3 : (E != 0) = true := bne_iff_ne.2 h0
  clear hcv hnr hrr HR HG hS HH h0 h1 eE
  go_wp2
  go_ret
  exact ⟨rfl, HB3⟩
 obtain rfl : E = 0 := Decidable.byContradiction h0
 have HE := Lib.hid eE
 obtain ⟨n, hn, hnl⟩ := tmod_n5 (L := l.length + 1) h_a.1 (by omega)
 have hn' : ra.tmod ((l.length : Int) + 1) = (n : Int) := by rw [← hn]; simp
 have HNL := Lib.hid hnl
 have HNL3 := Lib.hid nl3
 have H_B := Lib.hid h_b
 have H_D := Lib.hid h_d
 have e0 : IntKind.i64.wrap ra = ra := wrap_small _ (by omega) (by omega)
 have e1 : IntKind.i64.wrap ((l.length : Int) + 1) = (l.length : Int) + 1 := wrap_small _ (by omega) (by omega)
 have e2 : ((l.length : Int) + 1 == 0) = false := by rw [beq_eq_false_iff_ne]; omega
 have e3 : IntKind.i64.wrap (n : Int) = (n : Int) := wrap_small _ (by omega) (by omega)
 clear hC hA hc hl hs1 hL nl nl2 nl3 hf8 eE h0 h_a h_b h_d hnl
 go_enter Tryz.func5, Tryz.ntmps5
 go_upto_region 1 with (fail)
 refine name_wp ?_
 intro X0 hX
 have gbc : Blk X0 w.heap.size 27 (coA c m) := by rw [hX]; exact blk_at (by simp)
 have HB0 : Below w.heap.size w X0 := by rw [hX]; (repeat (first | exact Below.refl _ _ | refine below_alloc ?_ _))
 clear hX
 obtain ⟨bc, ebc⟩ : ∃ b, w.heap.size = b := ⟨_, rfl⟩
 have lbc : w.heap.size ≤ bc := by omega
 rw [ebc] at gbc ⊢
 clear ebc
 go_upto_region 2 with ((go_at_call 11; (with_reducible refine (HH.out _ HB0).mono ?_); rintro e w1 ⟨rfl, hbw1⟩))
 have HH1 := hbw1
 have HB1 := below_then HB0 HH1
 have gbc_1 := gbc.then_ HH1
 clear gbc HB0 HH1
 go_upto_region 4 with (first | (refine wpList_row_w (by rfl) 27 _ rfl bc rfl 27 _ gbc_1 ⟨_, Tryz.underlying27⟩ (by kernel_rfl) ?_; simp only [Act.put, qzG, qzH, qzI]) | (go_at_call 12; (with_reducible refine (HS1.out _ HB1).mono ?_); rintro e w2 ⟨rfl, hbw2⟩))
 have HH2 := hbw2
 have HB2 := below_then HB1 HH2
 have gbc_2 := gbc_1.then_ HH2
 clear gbc_1 HB1 HH2
 go_upto_region 5 with (first | (refine wpList_row_w (by rfl) 27 _ rfl bc rfl 27 _ gbc_2 ⟨_, Tryz.underlying27⟩ (by kernel_rfl) ?_; simp only [Act.put, qzG, qzH, qzI]) | (go_at_call 13; (with_reducible refine (HR.out _ HB2).mono ?_); rintro e w3 ⟨⟨Av, capv, rows, rfl, hrr, hS, hcv, hnr⟩, hbw3⟩))
 have HH3 := hbw3
 have HB3 := below_then HB2 HH3
 have gbc_3 := gbc_2.then_ HH3
 clear gbc_2 HB2 HH3
 have hrl : rows.length = l.length + 1 := by have := congrArg List.length hrr.out; rw [List.length_map, runS_len HE.out] at this; exact this
 have HRR := hrr
 have HRL := Lib.hid hrl
 have HNR := hnr
 have HCV := hcv
 have HSS := Lib.hid hS
 have t1 : (((rows.length : Nat) : Int) != (l.length : Int) + 1) = false := by rw [bne_eq_false_iff_eq]; omega
 have hn2 : ra.tmod (rows.length : Int) = (n : Int) := by rw [hrl]; exact hn
 have e4 : ((rows.length : Int) == 0) = false := by rw [beq_eq_false_iff_ne]; omega
 have hne8 : rows ≠ [] := by intro h; rw [h] at hrl; simp at hrl
 have hnr2 := hnr.out
 clear hcv hnr hrr HR hn hrl
 obtain ⟨ri, hi, hz0, hz1, hz2⟩ := info_parts (show (Tryz.prog.info? 43).map (fun i => (i.zero, i.size, i.bytes)) = some (some (.agg #[.int .i64 0, .slice none 0 0, .slice none 0 0, .slice none 0 0]), 4, 80) by kernel_rfl)
 go_upto_region 9 with (at_builtin; go_loud (refine wpList_copyS rfl (.tmp 55) (.tmp 56) _ rfl w3.heap.size 43 ri _ 4 80 Tryz.underlying30 hi hz0 hz1 hz2 rfl (by omega) (by omega) eQ eQ_len one_sta w3.heap.size rfl (Blk.new _ _ _) (Nat.le_refl _) Av rows capv rows.length rfl rfl hnr2 w3.heap.size (hS.s.below (wa1 _ _)) ?_); intro v4 w4 hown4 hb4)
 obtain ⟨gt, ct, rfl⟩ := own_sl hown4 (by have := HRL.out; omega)
 obtain ⟨x, hx⟩ : ∃ x, rows[n]? = some x := ⟨_, qzJ (by have := HNL.out; have := HRL.out; omega)⟩
 have hsx : (c.runS l)[n]? = some x.1 := by rw [← HRR.out, List.getElem?_map, hx]; rfl
 obtain ⟨rr, hrr2⟩ : ∃ r, (reads c c.read0 l)[n]? = some r := ⟨_, qzJ (by rw [reads_len]; have := HNL.out; omega)⟩
 have hok := (run_rs HE.out hsx hrr2).ok
 have HSX := Lib.hid hsx
 have HHL : Hid (x.1.hol.length = c.hold.length) := hok.h
 have HML : Hid (x.1.marks.length = c.cl.length) := hok.m
 have HH0 : Hid (0 < x.1.hol.length) := by
  unfold Hid
  have h1 := hok.vc
  unfold Con.ok Con.framed at h1
  simp only [Bool.and_eq_true, decide_eq_true_eq] at h1
  rw [hok.h]
  exact h1.1.2.1.1.1.1.2
 have HB43 : Below w3.heap.size w3 w4 := (wa1 _ _).trans hb4
 have HB43H := Lib.hid HB43
 have HW3 := Lib.hid HB3
 have HBC3 : Hid (bc < w3.heap.size) := gbc_3.lt
 have HG3 : Hid (w3.heap.size ≤ gt) := hown4.ge
 have HG4 : Hid (gt < w4.heap.size) := by obtain ⟨cs, hb⟩ := hown4.tyB; exact hb.lt
 clear hrr2 hok hi hz0 hz1 hz2 hb4
 have HH4 := HB43
 have HB4 := below_then HB3 HH4
 have gbc_4 := gbc_3.then_ HH4
 have hS_4 := hS.then_ HH4
 clear gbc_3 hS HB3 HH4
 have hm := hS_4.r x (qzK hx)
 have HM := Lib.hid hm
 have HX := Lib.hid hx
 have c0 : w4.cell? ⟨gt, n * 4, none⟩ = some (.int .i64 x.1.day) := (hown4.getAt eQ_len rfl (k := n) (j := 0) hx (by decide)).1
 have c1 : w4.cell? ⟨gt, n * 4 + 1, none⟩ = some (.slice x.2.h x.1.hol.length x.2.hc) := (hown4.getAt eQ_len rfl (k := n) (j := 1) hx (by decide)).1
 have c2 : w4.cell? ⟨gt, n * 4 + 2, none⟩ = some (.slice x.2.u x.1.used.length x.2.uc) := (hown4.getAt eQ_len rfl (k := n) (j := 2) hx (by decide)).1
 have c3 : w4.cell? ⟨gt, n * 4 + 3, none⟩ = some (.slice x.2.m x.1.marks.length x.2.mc) := (hown4.getAt eQ_len rfl (k := n) (j := 3) hx (by decide)).1
 have hnr3 : n < rows.length := by have := HNL.out; have := HRL.out; omega
 have hi9 : ∀ W : World, (Instr.indexAt 30 (.slice (some ⟨gt, 0, none⟩) rows.length ct) (.int .i64 (n : Nat))).run Tryz.prog W = .ok (.pointer (some ⟨gt, n * 4, none⟩)) W := idx_own (t := 30) (size := 4) (g := gt) (n := rows.length) (cap := ct) (i := n) hnr3 (by kernel_rfl) (fun W => by kernel_rfl)
 have HI9 := Lib.hid hi9
 go_upto_region 10 with (refine wpList_store_all rfl 43 _ _ rfl w4.heap.size 43 [] zS.toList [] (stA x.1 x.2).toList rfl rfl (Blk.new _ _ _) rfl (by kernel_rfl) (by simp [Value.oneCell']) ?_; intro w5 gx ux)
 have gx : Blk w5 w4.heap.size 43 (stA x.1 x.2) := gx
 have hb5 : Below w4.heap.size w4 w5 := (wa1 _ _).trans (ux.b _ (Nat.le_refl _))
 have lbx : w4.heap.size ≤ w4.heap.size := Nat.le_refl _
 obtain ⟨bx, ebx⟩ : ∃ b, w4.heap.size = b := ⟨_, rfl⟩
 have lbx : w4.heap.size ≤ bx := by omega
 rw [ebx] at gx ⊢
 clear ebx ux c0 c1 c2 c3 hi9 hx hsx hm
 obtain ⟨ri, hi, hz0, hz1, hz2⟩ := info_parts (show (Tryz.prog.info? 3).map (fun i => (i.zero, i.size, i.bytes)) = some (some (.int .i64 0), 1, 8) by kernel_rfl)
 have hsq := (HM.out.then_ hb5)
 have nq := HM.out.nh
 have q1 : (w5.alloc (.cells #[] 3)).cell? ⟨bx, 1, none⟩ = some (.slice x.2.h x.1.hol.length x.2.hc) := (gx.alloc _).cell 1
 go_upto_region 11 with (at_builtin; go_loud (refine wpList_copyS rfl (.tmp 62) (.tmp 64) _ rfl w5.heap.size 3 ri _ 1 8 Tryz.underlying22 hi hz0 hz1 hz2 rfl (by omega) (by omega) eI eI_len one_int w5.heap.size rfl (Blk.new _ _ _) (Nat.le_refl _) x.2.h x.1.hol x.2.hc x.1.hol.length rfl rfl nq w5.heap.size (hsq.h.below (wa1 _ _)) ?_); intro vh v6w ownh hbq; obtain ⟨Ah, kh, rfl, hch, _⟩ := ownh.seg eI_len; have hbr : Below w5.heap.size w5 v6w := (wa1 _ _).trans hbq; have cz : v6w.cell? ⟨bx, 1, none⟩ = some (.slice x.2.h x.1.hol.length x.2.hc) := (gx.then_ hbr).cell 1; have fz : v6w.frozen? ⟨bx, 1, none⟩ = false := (gx.then_ hbr).frozen 1)
 refine name_wp ?_
 intro U6 hU
 have gxU6 : Blk U6 bx 43 #[.int .i64 x.1.day, .slice Ah x.1.hol.length kh, .slice x.2.u x.1.used.length x.2.uc, .slice x.2.m x.1.marks.length x.2.mc] := by rw [hU]; exact (gx.then_ hbr).set_ 1 (.slice Ah x.1.hol.length kh)
 have ownh_U6 : Own U6 w4.heap.size 3 1 eI (.slice Ah x.1.hol.length kh) x.1.hol := by rw [hU]; exact (ownh.mono_ (by have := hb5.size; omega)).setOther (gx.then_ hbr) (by decide) _
 have hbU6 : Below w4.heap.size w4 U6 := by rw [hU]; exact (hb5.trans (hbr.mono hb5.size)).setCell (p := ⟨bx, 1, none⟩) lbx _
 clear hU ownh hbq hbr cz fz gx hb5 hi hz0 hz1 hz2 hsq nq q1
 obtain ⟨ri, hi, hz0, hz1, hz2⟩ := info_parts (show (Tryz.prog.info? 4).map (fun i => (i.zero, i.size, i.bytes)) = some (some (.bool false), 1, 1) by kernel_rfl)
 have hsq := (HM.out.then_ hbU6)
 have nq := HM.out.nu
 have q2 : (U6.alloc (.cells #[] 4)).cell? ⟨bx, 2, none⟩ = some (.slice x.2.u x.1.used.length x.2.uc) := (gxU6.alloc _).cell 2
 go_upto_region 12 with (at_builtin; go_loud (refine wpList_copyS rfl (.tmp 67) (.tmp 69) _ rfl U6.heap.size 4 ri _ 1 1 Tryz.underlying40 hi hz0 hz1 hz2 rfl (by omega) (by omega) eB eB_len one_bool U6.heap.size rfl (Blk.new _ _ _) (Nat.le_refl _) x.2.u x.1.used x.2.uc x.1.used.length rfl rfl nq U6.heap.size (hsq.u.below (wa1 _ _)) ?_); intro vu v7w ownu hbq; obtain ⟨Au, ku, rfl, hcu, _⟩ := ownu.seg eB_len; have hbr : Below U6.heap.size U6 v7w := (wa1 _ _).trans hbq; have cz : v7w.cell? ⟨bx, 2, none⟩ = some (.slice x.2.u x.1.used.length x.2.uc) := (gxU6.then_ hbr).cell 2; have fz : v7w.frozen? ⟨bx, 2, none⟩ = false := (gxU6.then_ hbr).frozen 2)
 refine name_wp ?_
 intro U7 hU
 have gxU7 : Blk U7 bx 43 #[.int .i64 x.1.day, .slice Ah x.1.hol.length kh, .slice Au x.1.used.length ku, .slice x.2.m x.1.marks.length x.2.mc] := by rw [hU]; exact (gxU6.then_ hbr).set_ 2 (.slice Au x.1.used.length ku)
 have ownu_U7 : Own U7 w4.heap.size 4 1 eB (.slice Au x.1.used.length ku) x.1.used := by rw [hU]; exact (ownu.mono_ (by have := hbU6.size; omega)).setOther (gxU6.then_ hbr) (by decide) _
 have ownh_U7 : Own U7 w4.heap.size 3 1 eI (.slice Ah x.1.hol.length kh) x.1.hol := by rw [hU]; exact (ownh_U6.below hbr).setOther (gxU6.then_ hbr) (by decide) _
 clear ownh_U6
 have hbU7 : Below w4.heap.size w4 U7 := by rw [hU]; exact (hbU6.trans (hbr.mono hbU6.size)).setCell (p := ⟨bx, 2, none⟩) lbx _
 clear hU ownu hbq hbr cz fz gxU6 hbU6 hi hz0 hz1 hz2 hsq nq q2
 obtain ⟨ri, hi, hz0, hz1, hz2⟩ := info_parts (show (Tryz.prog.info? 46).map (fun i => (i.zero, i.size, i.bytes)) = some (some (.agg #[.int .i64 0, .int .i64 0, .int .i64 0, .int .i64 0, .bool false]), 5, 40) by kernel_rfl)
 have hsq := (HM.out.then_ hbU7)
 have nq := HM.out.nm
 have q3 : (U7.alloc (.cells #[] 46)).cell? ⟨bx, 3, none⟩ = some (.slice x.2.m x.1.marks.length x.2.mc) := (gxU7.alloc _).cell 3
 go_upto_region 13 with (at_builtin; go_loud (refine wpList_copyS rfl (.tmp 72) (.tmp 74) _ rfl U7.heap.size 46 ri _ 5 40 Tryz.underlying41 hi hz0 hz1 hz2 rfl (by omega) (by omega) eM eM_len one_mark U7.heap.size rfl (Blk.new _ _ _) (Nat.le_refl _) x.2.m x.1.marks x.2.mc x.1.marks.length rfl rfl nq U7.heap.size (hsq.m.below (wa1 _ _)) ?_); intro vm v8w ownm hbq; obtain ⟨Am, km, rfl, hcm, _⟩ := ownm.seg eM_len; have hbr : Below U7.heap.size U7 v8w := (wa1 _ _).trans hbq; have cz : v8w.cell? ⟨bx, 3, none⟩ = some (.slice x.2.m x.1.marks.length x.2.mc) := (gxU7.then_ hbr).cell 3; have fz : v8w.frozen? ⟨bx, 3, none⟩ = false := (gxU7.then_ hbr).frozen 3)
 refine name_wp ?_
 intro U8 hU
 have gxU8 : Blk U8 bx 43 #[.int .i64 x.1.day, .slice Ah x.1.hol.length kh, .slice Au x.1.used.length ku, .slice Am x.1.marks.length km] := by rw [hU]; exact (gxU7.then_ hbr).set_ 3 (.slice Am x.1.marks.length km)
 have ownm_U8 : Own U8 w4.heap.size 46 5 eM (.slice Am x.1.marks.length km) x.1.marks := by rw [hU]; exact (ownm.mono_ (by have := hbU7.size; omega)).setOther (gxU7.then_ hbr) (by decide) _
 have ownh_U8 : Own U8 w4.heap.size 3 1 eI (.slice Ah x.1.hol.length kh) x.1.hol := by rw [hU]; exact (ownh_U7.below hbr).setOther (gxU7.then_ hbr) (by decide) _
 clear ownh_U7
 have ownu_U8 : Own U8 w4.heap.size 4 1 eB (.slice Au x.1.used.length ku) x.1.used := by rw [hU]; exact (ownu_U7.below hbr).setOther (gxU7.then_ hbr) (by decide) _
 clear ownu_U7
 have hbU8 : Below w4.heap.size w4 U8 := by rw [hU]; exact (hbU7.trans (hbr.mono hbU7.size)).setCell (p := ⟨bx, 3, none⟩) lbx _
 clear hU ownm hbq hbr cz fz gxU7 hbU7 hi hz0 hz1 hz2 hsq nq q3
 have hXS : XS w4 U8 bx x.1 ⟨Ah, kh, Au, ku, Am, km⟩ := ⟨gxU8, ownh_U8, ownu_U8, ownm_U8, hbU8, lbx⟩
 have q1 : U8.cell? ⟨bx, 1, none⟩ = some (.slice Ah x.1.hol.length kh) := gxU8.cell 1
 have q3 : U8.cell? ⟨bx, 3, none⟩ = some (.slice Am x.1.marks.length km) := gxU8.cell 3
 have GB4 := Lib.hid gbc_4
 have gbU := gbc_4.then_ hbU8
 have k4 : U8.cell? ⟨bc, 4, none⟩ = some (.slice m.k c.cl.length m.kc) := gbU.cell 4
 have u1 : ((x.1.hol.length : Int) == 0) = false := by rw [beq_eq_false_iff_ne]; have := HH0.out; omega
 have u2 : ((x.1.marks.length : Int) != (c.cl.length : Int)) = false := by rw [bne_eq_false_iff_eq]; have := HML.out; omega
 have HWB := Lib.hid HB4
 have HXS := Lib.hid hXS
 have HGB := Lib.hid gbU
 have HST := Lib.hid hS_4
 have HO4 := Lib.hid hown4
 clear hXS gxU8 ownh_U8 ownu_U8 ownm_U8 gbU hown4 HB4 gbc_4 hS_4
 by_cases hm0 : x.1.marks.length = 0
 ·have u3 : ((x.1.marks.length : Int) == 0) = true := by rw [hm0]; rfl
  clear hm0
  go_wp2
  go_ret
  exact ⟨rfl, below_then HWB.out hbU8⟩
 have u3 : ((x.1.marks.length : Int) == 0) = false := by rw [beq_eq_false_iff_ne]; omega
 obtain ⟨pl, hpl, hplL⟩ := tmod_n5 (L := x.1.marks.length) H_B.out.1 (by omega)
 have e5 : IntKind.i64.wrap rb = rb := wrap_small _ (by have := H_B.out; omega) (by have := H_B.out; omega)
 have e6 : IntKind.i64.wrap (pl : Int) = (pl : Int) := wrap_small _ (by omega) (by have := HM.out.nm; omega)
 obtain ⟨gm, km2, eqm⟩ := own_sl HXS.out.om (by omega)
 obtain ⟨rfl, rfl⟩ : Am = some ⟨gm, 0, none⟩ ∧ km = km2 := by injection eqm with a1 _ a3; exact ⟨a1, a3⟩
 clear eqm
 obtain ⟨gh, kh2, eqh⟩ := own_sl HXS.out.oh HH0.out
 obtain ⟨rfl, rfl⟩ : Ah = some ⟨gh, 0, none⟩ ∧ kh = kh2 := by injection eqh with a1 _ a3; exact ⟨a1, a3⟩
 clear eqh
 have hi17 : ∀ W : World, (Instr.indexAt 41 (.slice (some ⟨gm, 0, none⟩) x.1.marks.length km) (.int .i64 (pl : Nat))).run Tryz.prog W = .ok (.pointer (some ⟨gm, pl * 5, none⟩)) W := idx_own (t := 41) (size := 5) (g := gm) (n := x.1.marks.length) (cap := km) (i := pl) hplL (by kernel_rfl) (fun W => by kernel_rfl)
 have HPL := Lib.hid hplL
 have HM0 := Lib.hid hm0
 clear hm0
 go_upto_region 17 with (fail)
 clear q1 k4
 have rg0 := cR q3
 refine wp_region_qt [0, 1, 2, 3, 4, 5, 6, 7, 8] [9] (by kernel_rfl) (by kernel_rfl) pO ?_
 simp only [opsAt, qzA, qzB, qzC, qzD, qzE, qzF]
 repeat (go_big_quiet_step (fail))
 refine wpQuiet_nil ?_
 intro Y hw2
 have hbY := qt_world hw2
 clear hw2 rg0
 clear q3 hi17 u1 u2 u3 hpl
 have HXY := Lib.hid (HXS.out.then_ hbY)
 have HBY := Lib.hid (hbU8.trans (hbY.mono hbU8.size))
 clear hbY hbU8 HXS
 obtain ⟨y, hy⟩ : ∃ y, x.1.marks[pl]? = some y := ⟨_, qzJ HPL.out⟩
 have HYY := Lib.hid hy
 obtain ⟨kd, hkd, hkdL⟩ := tmod_n5 (L := 6) H_D.out.1 (by decide)
 have hkd : rd.tmod 6 = (kd : Int) := hkd
 clear e0 e1 e2 e3 e4 e5 e6 t1 hn2 hne8 hnr2 hnr3 hplL hn'
 have QQ : ∃ q : Qm, q = ⟨some ⟨gh, 0, none⟩, kh, Au, ku, some ⟨gm, 0, none⟩, km⟩ := ⟨_, rfl⟩
 clear QQ
 by_cases hk0 : kd = 0
 ·subst hk0
  have hk6 : rd.tmod 6 = 0 := hkd
  clear hkd hkdL
  have c0 : Y.cell? ⟨bx, 0, none⟩ = some (.int .i64 x.1.day) := HXY.out.g.cell 0
  have f0 : Y.frozen? ⟨bx, 0, none⟩ = false := HXY.out.g.frozen 0
  go_upto_region 38 with (fail)
  refine name_wp ?_
  intro U hU
  have HXU : Hid (XS w4 U bx { x.1 with day := wrap64 (x.1.day + 1) } ⟨some ⟨gh, 0, none⟩, kh, Au, ku, some ⟨gm, 0, none⟩, km⟩) := by rw [hU]; exact HXY.out.day _
  clear hU c0 f0
  have hOW := HO4.out.below HXU.out.b
  have hi9 := HI9.out
  have gxU := HXU.out.g
  go_upto_region 39 with (first | (refine wpList_row_w (by rfl) 43 _ rfl bx rfl 43 _ gxU ⟨_, Tryz.underlying43⟩ (by kernel_rfl) ?_; simp only [Act.put, qzG, qzH, qzI]) | (refine wpList_store_el rfl 43 _ _ rfl hOW eQ_len rfl (k := n) (z := x) HX.out ({ x.1 with day := wrap64 (x.1.day + 1) }, ⟨some ⟨gh, 0, none⟩, kh, Au, ku, some ⟨gm, 0, none⟩, km⟩) rfl rfl (by kernel_rfl) (one_sta _) ?_; intro V hOV UV))
  have HAG := Lib.hid (dif_agr (A := A) (cap := cap) (R := ((n : Int), false)) HC.out HA.out (by have := HNL3.out; omega) HW3.out HB43H.out HSS.out HXU.out hOV UV HG3.out HG4.out (by simpa using HM.out.nh) (by first | exact HM.out.nu | (rw [hul.out]; exact HM.out.nu)) (by simpa using HM.out.nm) HNR.out (by rw [HRR.out]; exact dif_day HE.out HSX.out (wrap_ne _)))
  have gbV : Blk V bc 27 (coA c m) := (GB4.out.then_ HXU.out.b).upd UV (by have := HBC3.out; have := HG3.out; omega)
  clear hOW hi9 gxU hOV UV
  go_upto_region 40 with (first | (refine wpList_row_w (by rfl) 27 _ rfl bc rfl 27 _ gbV ⟨_, Tryz.underlying27⟩ (by kernel_rfl) ?_; simp only [Act.put, qzG, qzH, qzI]) | (go_at_call 14; (with_reducible refine HAG.out.mono ?_); rintro e wz ⟨rfl, hbz⟩))
  go_wp2
  go_ret
  exact ⟨ret_bool (by simp), hbz⟩
 by_cases hk1 : kd = 1
 ·subst hk1
  have hk6 : rd.tmod 6 = 1 := hkd
  clear hkd hkdL
  obtain ⟨ih, hih, hihL⟩ := tmod_n5 (L := x.1.hol.length) H_B.out.1 HH0.out
  obtain ⟨z, hz⟩ : ∃ z, x.1.hol[ih]? = some z := ⟨_, qzJ hihL⟩
  have HZ := Lib.hid hz
  have u1 : ((x.1.hol.length : Int) == 0) = false := by rw [beq_eq_false_iff_ne]; omega
  have e5 : IntKind.i64.wrap rb = rb := wrap_small _ (by have := H_B.out; omega) (by have := H_B.out; omega)
  have e6 : IntKind.i64.wrap (ih : Int) = (ih : Int) := wrap_small _ (by omega) (by have := HM.out.nh; omega)
  have q1 : Y.cell? ⟨bx, 1, none⟩ = some (.slice (some ⟨gh, 0, none⟩) x.1.hol.length kh) := HXY.out.g.cell 1
  have h0 : Y.cell? ⟨gh, ih, none⟩ = some (.int .i64 z) := by simpa [eI] using (HXY.out.oh.getAt eI_len rfl (k := ih) (j := 0) hz (by decide)).1
  have hi31 : ∀ W : World, (Instr.indexAt 22 (.slice (some ⟨gh, 0, none⟩) x.1.hol.length kh) (.int .i64 (ih : Nat))).run Tryz.prog W = .ok (.pointer (some ⟨gh, ih, none⟩)) W := fun W => by
   have h := idx_own (t := 22) (size := 1) (g := gh) (n := x.1.hol.length) (cap := kh) (i := ih) hihL (by kernel_rfl) (fun W => by kernel_rfl) W
   simpa using h
  clear hz
  go_upto_region 31 with (fail)
  have rg0 := cR q1
  have rg1 := cR h0
  refine wp_region_qt [0, 1, 2, 3, 4, 5, 6, 7, 8, 9] [10] (by kernel_rfl) (by kernel_rfl) pO ?_
  simp only [opsAt, qzA, qzB, qzC, qzD, qzE, qzF]
  repeat (go_big_quiet_step (fail))
  refine wpQuiet_nil ?_
  intro Z hw2
  have hbZ := qt_world hw2
  clear hw2 rg0 rg1
  have HXZ := Lib.hid (HXY.out.then_ hbZ)
  clear hbZ q1 h0 hi31
  have h1 : Z.cell? ⟨gh, ih, none⟩ = some (.int .i64 z) := by simpa [eI] using (HXZ.out.oh.getAt eI_len rfl (k := ih) (j := 0) HZ.out (by decide)).1
  have f1 : Z.frozen? ⟨gh, ih, none⟩ = false := by simpa [eI] using (HXZ.out.oh.getAt eI_len rfl (k := ih) (j := 0) HZ.out (by decide)).2
  go_upto_region 38 with (fail)
  refine name_wp ?_
  intro U hU
  have HXU : Hid (XS w4 U bx { x.1 with hol := x.1.hol.set ih (wrap64 (z + 1)) } ⟨some ⟨gh, 0, none⟩, kh, Au, ku, some ⟨gm, 0, none⟩, km⟩) := by rw [hU]; exact HXZ.out.hol rfl HZ.out _
  clear hU h1 f1 u1 e5 e6 hih hihL
  have hOW := HO4.out.below HXU.out.b
  have hi9 := HI9.out
  have gxU := HXU.out.g
  go_upto_region 39 with (first | (refine wpList_row_w (by rfl) 43 _ rfl bx rfl 43 _ gxU ⟨_, Tryz.underlying43⟩ (by kernel_rfl) ?_; simp only [Act.put, qzG, qzH, qzI]) | (refine wpList_store_el rfl 43 _ _ rfl hOW eQ_len rfl (k := n) (z := x) HX.out ({ x.1 with hol := x.1.hol.set ih (wrap64 (z + 1)) }, ⟨some ⟨gh, 0, none⟩, kh, Au, ku, some ⟨gm, 0, none⟩, km⟩) rfl rfl (by kernel_rfl) (one_sta _) ?_; intro V hOV UV))
  have HAG := Lib.hid (dif_agr (A := A) (cap := cap) (R := ((n : Int), false)) HC.out HA.out (by have := HNL3.out; omega) HW3.out HB43H.out HSS.out HXU.out hOV UV HG3.out HG4.out (by simpa using HM.out.nh) (by first | exact HM.out.nu | (rw [hul.out]; exact HM.out.nu)) (by simpa using HM.out.nm) HNR.out (by rw [HRR.out]; exact dif_hol HE.out HSX.out HZ.out (wrap_ne _)))
  have gbV : Blk V bc 27 (coA c m) := (GB4.out.then_ HXU.out.b).upd UV (by have := HBC3.out; have := HG3.out; omega)
  clear hOW hi9 gxU hOV UV
  go_upto_region 40 with (first | (refine wpList_row_w (by rfl) 27 _ rfl bc rfl 27 _ gbV ⟨_, Tryz.underlying27⟩ (by kernel_rfl) ?_; simp only [Act.put, qzG, qzH, qzI]) | (go_at_call 14; (with_reducible refine HAG.out.mono ?_); rintro e wz ⟨rfl, hbz⟩))
  go_wp2
  go_ret
  exact ⟨ret_bool (by simp), hbz⟩
 by_cases hk2 : kd = 2
 ·subst hk2
  have hk6 : rd.tmod 6 = 2 := hkd
  clear hkd hkdL
  have c0 : Y.cell? ⟨gm, pl * 5, none⟩ = some (.int .i64 y.st) := (HXY.out.om.getAt eM_len rfl (k := pl) (j := 0) HYY.out (by decide)).1
  have f0 : Y.frozen? ⟨gm, pl * 5, none⟩ = false := (HXY.out.om.getAt eM_len rfl (k := pl) (j := 0) HYY.out (by decide)).2
  go_upto_region 38 with (fail)
  refine name_wp ?_
  intro U hU
  have HXU : Hid (XS w4 U bx { x.1 with marks := x.1.marks.set pl { y with st := wrap64 (y.st + 1) } } ⟨some ⟨gh, 0, none⟩, kh, Au, ku, some ⟨gm, 0, none⟩, km⟩) := by rw [hU]; exact HXY.out.mark (j := 0) rfl HYY.out (by decide) rfl
  clear hU c0 f0
  have hOW := HO4.out.below HXU.out.b
  have hi9 := HI9.out
  have gxU := HXU.out.g
  go_upto_region 39 with (first | (refine wpList_row_w (by rfl) 43 _ rfl bx rfl 43 _ gxU ⟨_, Tryz.underlying43⟩ (by kernel_rfl) ?_; simp only [Act.put, qzG, qzH, qzI]) | (refine wpList_store_el rfl 43 _ _ rfl hOW eQ_len rfl (k := n) (z := x) HX.out ({ x.1 with marks := x.1.marks.set pl { y with st := wrap64 (y.st + 1) } }, ⟨some ⟨gh, 0, none⟩, kh, Au, ku, some ⟨gm, 0, none⟩, km⟩) rfl rfl (by kernel_rfl) (one_sta _) ?_; intro V hOV UV))
  have HAG := Lib.hid (dif_agr (A := A) (cap := cap) (R := ((n : Int), false)) HC.out HA.out (by have := HNL3.out; omega) HW3.out HB43H.out HSS.out HXU.out hOV UV HG3.out HG4.out (by simpa using HM.out.nh) (by first | exact HM.out.nu | (rw [hul.out]; exact HM.out.nu)) (by simpa using HM.out.nm) HNR.out (by rw [HRR.out]; exact dif_mark HE.out HSX.out HYY.out (fun e => wrap_ne y.st (by simp only [Mk.tri, Prod.mk.injEq] at e; first | exact e.1 | exact e.2.1 | exact e.2.2))))
  have gbV : Blk V bc 27 (coA c m) := (GB4.out.then_ HXU.out.b).upd UV (by have := HBC3.out; have := HG3.out; omega)
  clear hOW hi9 gxU hOV UV
  go_upto_region 40 with (first | (refine wpList_row_w (by rfl) 27 _ rfl bc rfl 27 _ gbV ⟨_, Tryz.underlying27⟩ (by kernel_rfl) ?_; simp only [Act.put, qzG, qzH, qzI]) | (go_at_call 14; (with_reducible refine HAG.out.mono ?_); rintro e wz ⟨rfl, hbz⟩))
  go_wp2
  go_ret
  exact ⟨ret_bool (by simp), hbz⟩
 by_cases hk3 : kd = 3
 ·subst hk3
  have hk6 : rd.tmod 6 = 3 := hkd
  clear hkd hkdL
  have c0 : Y.cell? ⟨gm, pl * 5 + 2, none⟩ = some (.int .i64 y.got) := (HXY.out.om.getAt eM_len rfl (k := pl) (j := 2) HYY.out (by decide)).1
  have f0 : Y.frozen? ⟨gm, pl * 5 + 2, none⟩ = false := (HXY.out.om.getAt eM_len rfl (k := pl) (j := 2) HYY.out (by decide)).2
  go_upto_region 38 with (fail)
  refine name_wp ?_
  intro U hU
  have HXU : Hid (XS w4 U bx { x.1 with marks := x.1.marks.set pl { y with got := wrap64 (y.got + 1) } } ⟨some ⟨gh, 0, none⟩, kh, Au, ku, some ⟨gm, 0, none⟩, km⟩) := by rw [hU]; exact HXY.out.mark (j := 2) rfl HYY.out (by decide) rfl
  clear hU c0 f0
  have hOW := HO4.out.below HXU.out.b
  have hi9 := HI9.out
  have gxU := HXU.out.g
  go_upto_region 39 with (first | (refine wpList_row_w (by rfl) 43 _ rfl bx rfl 43 _ gxU ⟨_, Tryz.underlying43⟩ (by kernel_rfl) ?_; simp only [Act.put, qzG, qzH, qzI]) | (refine wpList_store_el rfl 43 _ _ rfl hOW eQ_len rfl (k := n) (z := x) HX.out ({ x.1 with marks := x.1.marks.set pl { y with got := wrap64 (y.got + 1) } }, ⟨some ⟨gh, 0, none⟩, kh, Au, ku, some ⟨gm, 0, none⟩, km⟩) rfl rfl (by kernel_rfl) (one_sta _) ?_; intro V hOV UV))
  have HAG := Lib.hid (dif_agr (A := A) (cap := cap) (R := ((n : Int), false)) HC.out HA.out (by have := HNL3.out; omega) HW3.out HB43H.out HSS.out HXU.out hOV UV HG3.out HG4.out (by simpa using HM.out.nh) (by first | exact HM.out.nu | (rw [hul.out]; exact HM.out.nu)) (by simpa using HM.out.nm) HNR.out (by rw [HRR.out]; exact dif_mark HE.out HSX.out HYY.out (fun e => wrap_ne y.got (by simp only [Mk.tri, Prod.mk.injEq] at e; first | exact e.1 | exact e.2.1 | exact e.2.2))))
  have gbV : Blk V bc 27 (coA c m) := (GB4.out.then_ HXU.out.b).upd UV (by have := HBC3.out; have := HG3.out; omega)
  clear hOW hi9 gxU hOV UV
  go_upto_region 40 with (first | (refine wpList_row_w (by rfl) 27 _ rfl bc rfl 27 _ gbV ⟨_, Tryz.underlying27⟩ (by kernel_rfl) ?_; simp only [Act.put, qzG, qzH, qzI]) | (go_at_call 14; (with_reducible refine HAG.out.mono ?_); rintro e wz ⟨rfl, hbz⟩))
  go_wp2
  go_ret
  exact ⟨ret_bool (by simp), hbz⟩
 by_cases hk4 : kd = 4
 ·subst hk4
  have hk6 : rd.tmod 6 = 4 := hkd
  clear hkd hkdL
  have c0 : Y.cell? ⟨gm, pl * 5 + 3, none⟩ = some (.int .i64 y.brr) := (HXY.out.om.getAt eM_len rfl (k := pl) (j := 3) HYY.out (by decide)).1
  have f0 : Y.frozen? ⟨gm, pl * 5 + 3, none⟩ = false := (HXY.out.om.getAt eM_len rfl (k := pl) (j := 3) HYY.out (by decide)).2
  go_upto_region 38 with (fail)
  refine name_wp ?_
  intro U hU
  have HXU : Hid (XS w4 U bx { x.1 with marks := x.1.marks.set pl { y with brr := wrap64 (y.brr + 1) } } ⟨some ⟨gh, 0, none⟩, kh, Au, ku, some ⟨gm, 0, none⟩, km⟩) := by rw [hU]; exact HXY.out.mark (j := 3) rfl HYY.out (by decide) rfl
  clear hU c0 f0
  have hOW := HO4.out.below HXU.out.b
  have hi9 := HI9.out
  have gxU := HXU.out.g
  go_upto_region 39 with (first | (refine wpList_row_w (by rfl) 43 _ rfl bx rfl 43 _ gxU ⟨_, Tryz.underlying43⟩ (by kernel_rfl) ?_; simp only [Act.put, qzG, qzH, qzI]) | (refine wpList_store_el rfl 43 _ _ rfl hOW eQ_len rfl (k := n) (z := x) HX.out ({ x.1 with marks := x.1.marks.set pl { y with brr := wrap64 (y.brr + 1) } }, ⟨some ⟨gh, 0, none⟩, kh, Au, ku, some ⟨gm, 0, none⟩, km⟩) rfl rfl (by kernel_rfl) (one_sta _) ?_; intro V hOV UV))
  have HAG := Lib.hid (dif_agr (A := A) (cap := cap) (R := ((n : Int), false)) HC.out HA.out (by have := HNL3.out; omega) HW3.out HB43H.out HSS.out HXU.out hOV UV HG3.out HG4.out (by simpa using HM.out.nh) (by first | exact HM.out.nu | (rw [hul.out]; exact HM.out.nu)) (by simpa using HM.out.nm) HNR.out (by rw [HRR.out]; exact dif_mark HE.out HSX.out HYY.out (fun e => wrap_ne y.brr (by simp only [Mk.tri, Prod.mk.injEq] at e; first | exact e.1 | exact e.2.1 | exact e.2.2))))
  have gbV : Blk V bc 27 (coA c m) := (GB4.out.then_ HXU.out.b).upd UV (by have := HBC3.out; have := HG3.out; omega)
  clear hOW hi9 gxU hOV UV
  go_upto_region 40 with (first | (refine wpList_row_w (by rfl) 27 _ rfl bc rfl 27 _ gbV ⟨_, Tryz.underlying27⟩ (by kernel_rfl) ?_; simp only [Act.put, qzG, qzH, qzI]) | (go_at_call 14; (with_reducible refine HAG.out.mono ?_); rintro e wz ⟨rfl, hbz⟩))
  go_wp2
  go_ret
  exact ⟨ret_bool (by simp), hbz⟩
 obtain rfl : kd = 5 := by omega
 have hk6 : rd.tmod 6 = 5 := hkd
 clear hkd hkdL hk0 hk1 hk2 hk3 hk4
 have c1 : Y.cell? ⟨gm, pl * 5 + 1, none⟩ = some (.int .i64 y.left) := (HXY.out.om.getAt eM_len rfl (k := pl) (j := 1) HYY.out (by decide)).1
 have f1 : Y.frozen? ⟨gm, pl * 5 + 1, none⟩ = false := (HXY.out.om.getAt eM_len rfl (k := pl) (j := 1) HYY.out (by decide)).2
 go_upto_region 22 with (fail)
 refine name_wp ?_
 intro U1 hU1
 have HX1 : Hid (XS w4 U1 bx { x.1 with marks := x.1.marks.set pl { y with left := wrap64 (y.left + 1) } } ⟨some ⟨gh, 0, none⟩, kh, Au, ku, some ⟨gm, 0, none⟩, km⟩) := by rw [hU1]; exact HXY.out.mark (j := 1) rfl HYY.out (by decide) rfl
 clear hU1 c1 f1
 have hy1 : (x.1.marks.set pl { y with left := wrap64 (y.left + 1) })[pl]? = some { y with left := wrap64 (y.left + 1) } := List.getElem?_set_self HPL.out
 have HY1 := Lib.hid hy1
 have c4 : U1.cell? ⟨gm, pl * 5 + 4, none⟩ = some (.bool y.pau) := (HX1.out.om.getAt eM_len rfl (k := pl) (j := 4) hy1 (by decide)).1
 have f4 : U1.frozen? ⟨gm, pl * 5 + 4, none⟩ = false := (HX1.out.om.getAt eM_len rfl (k := pl) (j := 4) hy1 (by decide)).2
 clear hy1
 go_upto_region 23 with (fail)
 refine name_wp ?_
 intro U2 hU2
 have HX2 : Hid (XS w4 U2 bx { x.1 with marks := x.1.marks.set pl { y with left := wrap64 (y.left + 1), pau := !y.pau } } ⟨some ⟨gh, 0, none⟩, kh, Au, ku, some ⟨gm, 0, none⟩, km⟩) := by
  have h := HX1.out.mark (j := 4) (z := { y with left := wrap64 (y.left + 1), pau := !y.pau }) (u := .bool (!y.pau)) rfl HY1.out (by decide) rfl
  rw [List.set_set] at h
  unfold Hid
  rw [hU2]
  exact h
 clear hU2 c4 f4 HX1 HY1
 have hnu := HM.out.nu
 have HNU := Lib.hid hnu
 clear hnu
 go_upto_region 24 with (fail)
 go_loopw [20] (fun v WR => ∃ (j : Nat) (us : List Bool), v = .int .i64 j ∧ j ≤ us.length ∧ Hid (us.length = x.1.used.length) ∧ Hid (XS w4 WR bx { x.1 with used := us, marks := x.1.marks.set pl { y with left := wrap64 (y.left + 1), pau := !y.pau } } ⟨some ⟨gh, 0, none⟩, kh, Au, ku, some ⟨gm, 0, none⟩, km⟩)) (fun v _ => 2000000 - (intOf v).toNat)
 case atStart => exact ⟨0, x.1.used, rfl, by omega, rfl, HX2⟩
 case round =>
 clear HX2
 obtain ⟨j, us, rfl, hj, hul, HXR⟩ := hrel
 have q2 : wr.cell? ⟨bx, 2, none⟩ = some (.slice Au us.length ku) := HXR.out.g.cell 2
 have hju : j ≤ 1000000 := by have := HNU.out; have := hul.out; omega
 by_cases hlt : j < us.length
 ·have tl : decide ((j : Int) < (us.length : Int)) = true := decide_eq_true (by omega)
  obtain ⟨gu, ku2, equ⟩ := own_sl HXR.out.ou (show 0 < us.length by omega)
  obtain ⟨rfl, rfl⟩ : Au = some ⟨gu, 0, none⟩ ∧ ku = ku2 := by injection equ with a1 _ a3; exact ⟨a1, a3⟩
  clear equ
  obtain ⟨z, hz⟩ : ∃ z, us[j]? = some z := ⟨_, qzJ hlt⟩
  have HZ := Lib.hid hz
  have h0 : wr.cell? ⟨gu, j, none⟩ = some (.bool z) := by simpa [eB] using (HXR.out.ou.getAt eB_len rfl (k := j) (j := 0) hz (by decide)).1
  have hi26 : ∀ W : World, (Instr.indexAt 40 (.slice (some ⟨gu, 0, none⟩) us.length ku) (.int .i64 (j : Nat))).run Tryz.prog W = .ok (.pointer (some ⟨gu, j, none⟩)) W := fun W => by
   have h := idx_own (t := 40) (size := 1) (g := gu) (n := us.length) (cap := ku) (i := j) hlt (by kernel_rfl) (fun W => by kernel_rfl) W
   simpa using h
  clear hz
  go_upto_region 26 with (fail)
  have rg0 := cR q2
  have rg1 := cR h0
  refine wp_region_qt [0, 1, 2, 3, 4, 5, 6, 7, 8, 9] [10] (by kernel_rfl) (by kernel_rfl) pO ?_
  simp only [opsAt, qzA, qzB, qzC, qzD, qzE, qzF]
  repeat (go_big_quiet_step (fail))
  refine wpQuiet_nil ?_
  intro Z hw2
  have hbZ := qt_world hw2
  clear hw2 rg0 rg1
  have HXZ := Lib.hid (HXR.out.then_ hbZ)
  clear hbZ q2 h0 hi26 HXR
  have h1 : Z.cell? ⟨gu, j, none⟩ = some (.bool z) := by simpa [eB] using (HXZ.out.ou.getAt eB_len rfl (k := j) (j := 0) HZ.out (by decide)).1
  have f1 : Z.frozen? ⟨gu, j, none⟩ = false := by simpa [eB] using (HXZ.out.ou.getAt eB_len rfl (k := j) (j := 0) HZ.out (by decide)).2
  go_upto_region 25 with (fail)
  refine name_wp ?_
  intro U hU
  have HXU : Hid (XS w4 U bx { x.1 with used := us.set j (!z), marks := x.1.marks.set pl { y with left := wrap64 (y.left + 1), pau := !y.pau } } ⟨some ⟨gh, 0, none⟩, kh, some ⟨gu, 0, none⟩, ku, some ⟨gm, 0, none⟩, km⟩) := by rw [hU]; exact HXZ.out.use rfl HZ.out _
  clear hU h1 f1 HXZ
  go_wp2
  go_roundw
  case rel => exact ⟨j + 1, us.set j (!z), by simp, by simp; omega, by unfold Hid; rw [List.length_set]; exact hul.out, HXU⟩
  case measure => simp [intOf]; omega
 have tl : decide ((j : Int) < (us.length : Int)) = false := decide_eq_false (by omega)
 have HXU := HXR
 have hOW := HO4.out.below HXU.out.b
 have hi9 := HI9.out
 have gxU := HXU.out.g
 go_upto_region 39 with (first | (refine wpList_row_w (by rfl) 43 _ rfl bx rfl 43 _ gxU ⟨_, Tryz.underlying43⟩ (by kernel_rfl) ?_; simp only [Act.put, qzG, qzH, qzI]) | (refine wpList_store_el rfl 43 _ _ rfl hOW eQ_len rfl (k := n) (z := x) HX.out ({ x.1 with used := us, marks := x.1.marks.set pl { y with left := wrap64 (y.left + 1), pau := !y.pau } }, ⟨some ⟨gh, 0, none⟩, kh, Au, ku, some ⟨gm, 0, none⟩, km⟩) rfl rfl (by kernel_rfl) (one_sta _) ?_; intro V hOV UV))
 have HAG := Lib.hid (dif_agr (A := A) (cap := cap) (R := ((-1 : Int), true)) HC.out HA.out (by have := HNL3.out; omega) HW3.out HB43H.out HSS.out HXU.out hOV UV HG3.out HG4.out (by simpa using HM.out.nh) (by first | exact HM.out.nu | (rw [hul.out]; exact HM.out.nu)) (by simpa using HM.out.nm) HNR.out (by rw [HRR.out]; exact dif_same HE.out HSX.out us HYY.out rfl))
 have gbV : Blk V bc 27 (coA c m) := (GB4.out.then_ HXU.out.b).upd UV (by have := HBC3.out; have := HG3.out; omega)
 clear hOW hi9 gxU hOV UV
 go_upto_region 40 with (first | (refine wpList_row_w (by rfl) 27 _ rfl bc rfl 27 _ gbV ⟨_, Tryz.underlying27⟩ (by kernel_rfl) ?_; simp only [Act.put, qzG, qzH, qzI]) | (go_at_call 14; (with_reducible refine HAG.out.mono ?_); rintro e wz ⟨rfl, hbz⟩))
 go_wp2
 go_ret
 exact ⟨ret_bool (by simp), hbz⟩
end Go.Proofs.YtginnonjdbpamaaGreatDoor
