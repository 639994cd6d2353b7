/- The walk of ValidateSteps. -/
import Derived.Test.YtginnonjdbpamaaGreatDoorMb36
import Derived.Test.YtginnonjdbpamaaGreatDoorZVbE
import Derived.Test.YtginnonjdbpamaaGreatDoorZWs2
import Derived.Test.YtginnonjdbpamaaGreatDoorMb9
import Derived.Test.YtginnonjdbpamaaGreatDoorMb1
set_option maxHeartbeats 6400000
set_option maxRecDepth 100000
namespace Go.Proofs.YtginnonjdbpamaaGreatDoor
open Go.RowKit Go.Sort
theorem wrapN6 {n : Nat} (h : n ≤ 1000000) : IntKind.i64.wrap ((n : Int) + 1) = (n : Int) + 1 := wrap_small _ (by omega) (by omega)
theorem sta_new {W V : World} {t : TypeId} (h : V = W.alloc (.cells zS t)) : Blk V W.heap.size t zS ∧ Below W.heap.size W V := by
 subst h
 exact ⟨Blk.new _ _ _, wa1 _ _⟩
theorem cell_b {w w' : World} (hb : Below w.heap.size w w') {a : Addr} {v : Value} (hc : w.cell? a = some v) : w'.cell? a = some v := (hb.cell (World.block_lt_of_cell? w a hc)).trans hc
theorem tmod_n {x : Int} {L : Nat} (hx : 0 ≤ x) (hL : 0 < L) : ∃ r : Nat, x.tmod (L : Int) = (r : Int) ∧ r < L := by
 obtain ⟨y, rfl⟩ := Int.eq_ofNat_of_zero_le hx
 exact ⟨y % L, by rw [Int.ofNat_tmod], Nat.mod_lt _ hL⟩
theorem take_at6 {t : TypeId} {size : Nat} {A : Option Addr} {len cap i : Nat} (hi : i ≤ cap) (ht : Tryz.prog.underlying t = some (.slice (Tryz.prog.elem t))) (hs : ∀ W : World, (sizeOf (Tryz.prog.elem t)).run Tryz.prog W = .ok size W) (W : World) :
  (Instr.slice t (.slice A len cap) none (some (.int .i64 (i : Nat))) none).run Tryz.prog W = .ok (.slice A i cap) W := by
 rw [run_slice_h W t A len cap ht .i64 i (by omega) (by omega), hs]
 cases A with
 | none => simp [sliced, Result.andThen]
 | some p => simp [sliced, Result.andThen, Addr.add]
theorem take_seg6 {α : Type} {w : World} {C size : Nat} {enc : α → List Value} {A : Option Addr} {xs : List α} {k : Nat} (hs : Seg w C size enc A xs) : Seg w C size enc A (xs.take k) := fun j x hx => by
 rw [List.getElem?_take] at hx
 split at hx
 ·exact hs j x hx
 ·cases hx
theorem Stl.take {w : World} {A : Option Addr} {rows : List (Sta × Qm)} (h : Stl w A rows) (k : Nat) : Stl w A (rows.take k) := ⟨take_seg6 h.s, fun x hx => h.r x (List.mem_of_mem_take hx)⟩
theorem steps_walk (c : Con) (m : Cm) (l : List Int) (A : Option Addr) (cap : Nat) (a : Int) (w : World) (hL : Lw w) (hc : ContW w c m) (hl : LstM w eI 1 (fun y => I64 y) A l cap) (ha : 0 ≤ a ∧ a ≤ 255) :
  Calls Tryz.prog 8 #[.agg (coA c m), .slice A l.length cap, .int .u8 a] w fun e w' => e = .returned (.bool true) ∧ Below w.heap.size w w' := by
 have HH := Lib.hid (fun W (hb : Below w.heap.size w W) => head_any W (hL.below hb))
 cases hs1 : c.fewL l with
 | false =>
  have HS1 := Lib.hid (fun W (hb : Below w.heap.size w W) => few_at c m l A cap false hc hs1 W hb)
  clear hc hl hs1 hL
  go_enter Tryz.func8, Tryz.ntmps8
  go_upto_region 1 with (fail)
  refine name_wp ?_
  intro X0 hX
  have gbc : Blk X0 w.heap.size 27 (coA c m) := by rw [hX]; exact blk_at (by simp)
  have HB0 : Below w.heap.size w X0 := by rw [hX]; (repeat (first | exact Below.refl _ _ | refine below_alloc ?_ _))
  clear hX
  obtain ⟨bc, ebc⟩ : ∃ b, w.heap.size = b := ⟨_, rfl⟩
  have lbc : w.heap.size ≤ bc := by omega
  rw [ebc] at gbc ⊢
  clear ebc
  go_upto_region 2 with ((go_at_call 11; (with_reducible refine (HH.out _ HB0).mono ?_); rintro e w1 ⟨rfl, hbw1⟩))
  have HH1 := hbw1
  have HB1 := below_then HB0 HH1
  have gbc_1 := gbc.then_ HH1
  clear gbc HB0 HH1
  go_wp2_with (first | (refine wpList_row_w (by rfl) 27 _ rfl bc rfl 27 _ gbc_1 ⟨_, Tryz.underlying27⟩ (by kernel_rfl) ?_; simp only [Act.put, qzG, qzH, qzI]) | (go_at_call 12; (with_reducible refine (HS1.out _ HB1).mono ?_); rintro e w2 ⟨rfl, hbw2⟩))
  go_ret
  exact ⟨rfl, below_then HB1 hbw2⟩
 | true =>
 have HS1 := Lib.hid (fun W (hb : Below w.heap.size w W) => few_at c m l A cap true hc hs1 W hb)
 obtain ⟨hC, nl, hf8⟩ := fewL_cont hc hs1
 have hA := hl.2.2.2
 have nl2 : l.length ≤ 1000000 := by omega
 have HR := Lib.hid (fun W (hb : Below w.heap.size w W) => run_sl c m l A cap hC hA nl2 W hb)
 have HC := Lib.hid hC
 have HA := Lib.hid hA
 obtain ⟨E, eE⟩ : ∃ E, c.runE l = E := ⟨_, rfl⟩
 rw [eE] at HR
 have nl3 : l.length ≤ 60 := nl
 have hcap : l.length ≤ cap := hl.1
 by_cases h0 : E ≠ 0
 ·have h1 := h0
  clear hC hA hc hl hs1 hL nl nl2 nl3 hcap hf8
  go_enter Tryz.func8, Tryz.ntmps8
  go_upto_region 1 with (fail)
  refine name_wp ?_
  intro X0 hX
  have gbc : Blk X0 w.heap.size 27 (coA c m) := by rw [hX]; exact blk_at (by simp)
  have HB0 : Below w.heap.size w X0 := by rw [hX]; (repeat (first | exact Below.refl _ _ | refine below_alloc ?_ _))
  clear hX
  obtain ⟨bc, ebc⟩ : ∃ b, w.heap.size = b := ⟨_, rfl⟩
  have lbc : w.heap.size ≤ bc := by omega
  rw [ebc] at gbc ⊢
  clear ebc
  go_upto_region 2 with ((go_at_call 11; (with_reducible refine (HH.out _ HB0).mono ?_); rintro e w1 ⟨rfl, hbw1⟩))
  have HH1 := hbw1
  have HB1 := below_then HB0 HH1
  have gbc_1 := gbc.then_ HH1
  clear gbc HB0 HH1
  go_upto_region 4 with (first | (refine wpList_row_w (by rfl) 27 _ rfl bc rfl 27 _ gbc_1 ⟨_, Tryz.underlying27⟩ (by kernel_rfl) ?_; simp only [Act.put, qzG, qzH, qzI]) | (go_at_call 12; (with_reducible refine (HS1.out _ HB1).mono ?_); rintro e w2 ⟨rfl, hbw2⟩))
  have HH2 := hbw2
  have HB2 := below_then HB1 HH2
  have gbc_2 := gbc_1.then_ HH2
  clear gbc_1 HB1 HH2
  go_upto_region 5 with (first | (refine wpList_row_w (by rfl) 27 _ rfl bc rfl 27 _ gbc_2 ⟨_, Tryz.underlying27⟩ (by kernel_rfl) ?_; simp only [Act.put, qzG, qzH, qzI]) | (go_at_call 13; (with_reducible refine (HR.out _ HB2).mono ?_); rintro e w3 ⟨⟨Av, capv, rows, rfl, hrr, hS, hcv, hnr⟩, hbw3⟩))
  have HH3 := hbw3
  have HB3 := below_then HB2 HH3
  have gbc_3 := gbc_2.then_ HH3
  clear gbc_2 HB2 HH3
  have z2 : (E == 0) = false := beq_eq_false_iff_ne.2 h0
  have z3 : (E != 0) = true := bne_iff_ne.2 h0
  have z4 : ((rows.length : Int) == 0) = true := by
   have hz := (runS_nil hrr.out).2 (by rw [eE]; exact h0)
   rw [hz]; rfl
  have z5 : (rows.length : Int) = 0 := (runS_nil hrr.out).2 (by rw [eE]; exact h0)
  have HZ := Lib.hid z5
  have HZ4 := Lib.hid z4
  clear z5 hcv hnr hrr HR hS HH h0 h1 eE
  go_wp2
  go_ret
  exact ⟨ret_bool (by have h := HZ.out; simp), HB3⟩
 obtain rfl : E = 0 := Decidable.byContradiction h0
 have HE := Lib.hid eE
 obtain ⟨n, hn, hnl⟩ := tmod_n (L := l.length + 1) ha.1 (by omega)
 have hn' : a.tmod ((l.length : Int) + 1) = (n : Int) := by rw [← hn]; simp
 obtain ⟨hT, hTS⟩ := run_take HE.out (n := n) (by omega)
 have hln : (l.take n).length = n := by rw [List.length_take]; omega
 have HRT := Lib.hid (fun W (hb : Below w.heap.size w W) => by
  have h := run_sl c m (l.take n) A cap hC (take_seg6 hA) (by omega) W hb
  rw [hln] at h
  exact h)
 obtain ⟨E2, eE2⟩ : ∃ E, c.runE (l.take n) = E := ⟨_, rfl⟩
 rw [eE2] at HRT
 have z12 : (E2 != 0) = false := by rw [← eE2, hT]; rfl
 have HST := Lib.hid (fun W (hb : Below w.heap.size w W) => start0_any c m W (hC.then_ hb))
 obtain ⟨E3, eE3⟩ : ∃ E, c.startE = E := ⟨_, rfl⟩
 rw [eE3] at HST
 have z14 : (E3 != 0) = false := by rw [← eE3, (run_first HE.out).1]; rfl
 clear eE2 eE3
 obtain ⟨FS, eFS⟩ : ∃ s, c.startS = s := ⟨_, rfl⟩
 rw [eFS] at HST
 have HFS := Lib.hid eFS
 have HSP := Lib.hid (fun (s : Sta) (q : Qm) (x : Int) W (hb : Below w.heap.size w W) (hS : Stm W s q) => step_any c m s q x W (hC.then_ hb) hS)
 have HTS := Lib.hid hTS
 have HNL := Lib.hid hnl
 have HNL3 := Lib.hid nl3
 have e0 : IntKind.i64.wrap a = a := wrap_small _ (by omega) (by omega)
 have e1 : IntKind.i64.wrap ((l.length : Int) + 1) = (l.length : Int) + 1 := wrapN6 (by omega)
 have e2 : ((l.length : Int) + 1 == 0) = false := by rw [beq_eq_false_iff_ne]; omega
 have e3 : IntKind.i64.wrap (n : Int) = (n : Int) := wrap_small _ (by omega) (by omega)
 have e4 : IntKind.i64.wrap ((n : Int) + 1) = (n : Int) + 1 := wrapN6 (by omega)
 have hs1 : ∀ W : World, (Instr.slice 22 (.slice A l.length cap) none (some (.int .i64 (n : Nat))) none).run Tryz.prog W = .ok (.slice A n cap) W := fun W => take_at6 (size := 1) (by omega) (by kernel_rfl) (fun W => by kernel_rfl) W
 clear hC hc hl hL nl nl2 nl3 hcap hf8 eE h0 ha hn hT hTS hln eFS hnl hA
 go_enter Tryz.func8, Tryz.ntmps8
 go_upto_region 1 with (fail)
 refine name_wp ?_
 intro X0 hX
 have gbc : Blk X0 w.heap.size 27 (coA c m) := by rw [hX]; exact blk_at (by simp)
 have HB0 : Below w.heap.size w X0 := by rw [hX]; (repeat (first | exact Below.refl _ _ | refine below_alloc ?_ _))
 clear hX
 obtain ⟨bc, ebc⟩ : ∃ b, w.heap.size = b := ⟨_, rfl⟩
 have lbc : w.heap.size ≤ bc := by omega
 rw [ebc] at gbc ⊢
 clear ebc
 go_upto_region 2 with ((go_at_call 11; (with_reducible refine (HH.out _ HB0).mono ?_); rintro e w1 ⟨rfl, hbw1⟩))
 have HH1 := hbw1
 have HB1 := below_then HB0 HH1
 have gbc_1 := gbc.then_ HH1
 clear gbc HB0 HH1
 go_upto_region 4 with (first | (refine wpList_row_w (by rfl) 27 _ rfl bc rfl 27 _ gbc_1 ⟨_, Tryz.underlying27⟩ (by kernel_rfl) ?_; simp only [Act.put, qzG, qzH, qzI]) | (go_at_call 12; (with_reducible refine (HS1.out _ HB1).mono ?_); rintro e w2 ⟨rfl, hbw2⟩))
 have HH2 := hbw2
 have HB2 := below_then HB1 HH2
 have gbc_2 := gbc_1.then_ HH2
 clear gbc_1 HB1 HH2
 go_upto_region 5 with (first | (refine wpList_row_w (by rfl) 27 _ rfl bc rfl 27 _ gbc_2 ⟨_, Tryz.underlying27⟩ (by kernel_rfl) ?_; simp only [Act.put, qzG, qzH, qzI]) | (go_at_call 13; (with_reducible refine (HR.out _ HB2).mono ?_); rintro e w3 ⟨⟨Av, capv, rows, rfl, hrr, hS, hcv, hnr⟩, hbw3⟩))
 have HH3 := hbw3
 have HB3 := below_then HB2 HH3
 have gbc_3 := gbc_2.then_ HH3
 clear gbc_2 HB2 HH3
 have hrl : rows.length = l.length + 1 := by have := congrArg List.length hrr.out; rw [List.length_map, runS_len HE.out] at this; exact this
 have HRR := hrr
 have HRL := Lib.hid hrl
 have HNR := hnr
 have HCV := hcv
 have HSS := Lib.hid hS
 clear hcv hnr hrr hrl hS HR
 go_upto_region 8 with (fail)
 obtain ⟨k0, k1, k2, k3, k4, k5, k6⟩ := coC (c := c) (m := m) gbc_3 rfl
 have rg0 := cR k0
 have rg1 := cR k1
 have rg2 := cR k2
 have rg3 := cR k3
 have rg4 := cR k4
 have rg5 := cR k5
 have rg6 := cR k6
 refine wp_region_qt [0, 1, 2, 3] [4, 5, 6, 7, 8, 9] (by kernel_rfl) (by kernel_rfl) pO ?_
 simp only [opsAt, qzA, qzB, qzC, qzD, qzE, qzF]
 repeat (go_big_quiet_step (fail))
 refine wpQuiet_nil ?_
 intro Z hw2
 have hbZ := qt_world hw2
 clear hw2 rg0 rg1 rg2 rg3 rg4 rg5 rg6
 clear k0 k1 k2 k3 k4 k5 k6 hs1
 have HH4 := hbZ
 have HB4 := below_then HB3 HH4
 have gbc_4 := gbc_3.then_ HH4
 clear gbc_3 HB3 HH4
 go_upto_region 9 with ((go_at_call 13; (with_reducible refine (HRT.out _ HB4).mono ?_); rintro e w4 ⟨⟨At, capt, rowt, rfl, hrt, hSt, hct, hnt⟩, hbw4⟩))
 have hSs := (HSS.out.then_ hbZ).then_ hbw4
 have HH5 := hbw4
 have HB5 := below_then HB4 HH5
 have gbc_5 := gbc_4.then_ HH5
 clear gbc_4 HB4 HH5
 go_upto_region 10 with (first | (refine wpList_row_w (by rfl) 27 _ rfl bc rfl 27 _ gbc_5 ⟨_, Tryz.underlying27⟩ (by kernel_rfl) ?_; simp only [Act.put, qzG, qzH, qzI]) | (go_at_call 24; (with_reducible refine (HST.out _ HB5).mono ?_); rintro e w5 ⟨⟨q0, rfl, hq0, _, _⟩, hbw5⟩) | (refine wpList_store_all rfl 43 _ _ rfl w5.heap.size 43 [] zS.toList [] (stA FS q0).toList rfl rfl (Blk.new _ _ _) rfl (by kernel_rfl) (by simp [Value.oneCell']) ?_; intro u5 gbu5 Uu5))
 have hsu5 : Below w5.heap.size w5 u5 := (wa1 _ _).trans (Uu5.b _ (Nat.le_refl _))
 have HH6 := below_then hbw5 hsu5
 have HB6 := below_then HB5 HH6
 have gbc_6 := gbc_5.then_ HH6
 have hSt_6 := hSt.then_ HH6
 have hSs_6 := hSs.then_ HH6
 clear gbc_5 hSt hSs HB5 HH6
 have hQ0 := hq0.then_ hsu5
 obtain ⟨bu5, ebu5⟩ : ∃ b, w5.heap.size = b := ⟨_, rfl⟩
 rw [ebu5] at gbu5 ⊢
 clear ebu5 Uu5 hsu5 hbw5 hq0
 have hrt2 : rowt.map (·.1) = (rows.take (n + 1)).map (·.1) := by rw [hrt.out, HTS.out, ← HRR.out, List.map_take]
 have hn1 : rowt.length = n + 1 := by have := congrArg List.length hrt2; rw [List.length_map, List.length_map, List.length_take] at this; have := HRL.out; have := HNL.out; omega
 have hln : (rows.take (n + 1)).length = n + 1 := by rw [List.length_take]; have := HRL.out; have := HNL.out; omega
 have HSTT : Hid (∀ W, Below u5.heap.size u5 W → Calls Tryz.prog 25 #[.slice At (n + 1) capt, .slice Av (n + 1) capv] W fun e w' => e = .returned (.bool true) ∧ Below W.heap.size W w') := fun W hb => by
  have h := states_any rowt (rows.take (n + 1)) At Av capt capv W (hSt_6.then_ hb) ((hSs_6.then_ hb).take (n + 1)) (by rw [hn1]; have := HNL.out; have := HNL3.out; omega)
  rw [hn1, hln, decide_eq_true hrt2] at h
  exact h
 obtain ⟨x0, hx0⟩ : ∃ x, rows[0]? = some x := ⟨_, qzJ (by have := HRL.out; omega)⟩
 have hx0s : x0.1 = FS := by
  have h := (run_first HE.out).2
  rw [← HRR.out, List.getElem?_map, hx0, HFS.out] at h
  exact Option.some.inj h
 obtain ⟨b7, o7, eA7, _, hc7⟩ := segAt hSs_6.s hx0
 have hlt7 : 0 < rows.length := by have := HRL.out; omega
 have hix7 : ∀ W : World, (Instr.indexAt 30 (.slice Av rows.length capv) (.int .i64 0)).run Tryz.prog W = .ok (.pointer (some ⟨b7, o7, none⟩)) W := fun W => by
  have h := idx_at (t := 30) (size := 4) (cap := capv) (len := rows.length) (k := 0) eA7 hlt7 (by kernel_rfl) (fun W => by kernel_rfl) W
  simpa using h
 have s0 : u5.cell? ⟨b7, o7, none⟩ = some (.int .i64 x0.1.day) := by simpa using hc7 0 _ rfl
 have s1 : u5.cell? ⟨b7, o7 + 1, none⟩ = some (.slice x0.2.h x0.1.hol.length x0.2.hc) := by simpa using hc7 1 _ rfl
 have s2 : u5.cell? ⟨b7, o7 + 2, none⟩ = some (.slice x0.2.u x0.1.used.length x0.2.uc) := by simpa using hc7 2 _ rfl
 have s3 : u5.cell? ⟨b7, o7 + 3, none⟩ = some (.slice x0.2.m x0.1.marks.length x0.2.mc) := by simpa using hc7 3 _ rfl
 obtain ⟨f0, f1, f2, f3⟩ := stC (c := FS) (m := q0) gbu5 rfl
 have HSM1 : Hid (∀ W, Below u5.heap.size u5 W → Calls Tryz.prog 23 #[.agg #[.int .i64 FS.day, .slice q0.h FS.hol.length q0.hc, .slice q0.u FS.used.length q0.uc, .slice q0.m FS.marks.length q0.mc], .agg #[.int .i64 x0.1.day, .slice x0.2.h x0.1.hol.length x0.2.hc, .slice x0.2.u x0.1.used.length x0.2.uc, .slice x0.2.m x0.1.marks.length x0.2.mc]] W fun e w' => e = .returned (.bool true) ∧ Below W.heap.size W w') := fun W hb => by
  have h := same_any FS x0.1 q0 x0.2 W (hQ0.then_ hb) ((hSs_6.then_ hb).r x0 (qzK hx0))
  rw [decide_eq_true hx0s.symm] at h
  exact h
 have hs2 : ∀ W : World, (Instr.slice 30 (.slice Av rows.length capv) none (some (.int .i64 ((n : Int) + 1))) none).run Tryz.prog W = .ok (.slice Av (n + 1) capv) W := fun W => by
  have h := take_at6 (t := 30) (A := Av) (len := rows.length) (cap := capv) (i := n + 1) (size := 4) (by have := HRL.out; have := HCV.out; have := HNL.out; omega) (by kernel_rfl) (fun W => by kernel_rfl) W
  simpa using h
 have t1 : (((rows.length : Nat) : Int) != (l.length : Int) + 1) = false := by rw [bne_eq_false_iff_eq]; have := HRL.out; omega
 rw [hn1]
 clear hrt hrt2 hln hx0 hx0s eA7 hc7 hct hnt hn1
 go_upto_region 10 with (fail)
 have rg0 := cR s0
 have rg1 := cR s1
 have rg2 := cR s2
 have rg3 := cR s3
 have rg4 := cR f0
 have rg5 := cR f1
 have rg6 := cR f2
 have rg7 := cR f3
 refine wp_region_qt [0, 1, 2, 3, 4, 5, 6, 7, 8, 9, 10, 11, 12, 13, 14, 15, 16, 17, 18, 19, 20, 21, 22, 23, 24, 25, 26, 27, 28, 29, 30] [] (by kernel_rfl) (by kernel_rfl) pO ?_
 simp only [opsAt, qzA, qzB, qzC, qzD, qzE, qzF]
 repeat (go_big_quiet_step ((first | (go_at_call 25; with_reducible exact qt_call (fun W' hW' => HSTT.out W' hW') _ _) | (go_at_call 23; with_reducible exact qt_call (fun W' hW' => HSM1.out W' hW') _ _))))
 refine wpQuiet_nil ?_
 intro Y hw2
 have hbY := qt_world hw2
 clear hw2 rg0 rg1 rg2 rg3 rg4 rg5 rg6 rg7
 refine wpList_done ?_
 clear s0 s1 s2 s3 f0 f1 f2 f3 HSTT HSM1 hs2 hix7 t1
 clear hSt_6 hQ0 gbu5
 have HH7 := hbY
 have HB7 := below_then HB6 HH7
 have gbc_7 := gbc_6.then_ HH7
 have hSs_7 := hSs_6.then_ HH7
 clear gbc_6 hSs_6 HB6 HH7
 go_upto_region 13 with (fail)
 have GC := Lib.hid gbc_7
 have GS := Lib.hid hSs_7
 have GB := Lib.hid HB7
 have GA : Hid (Seg Y Y.heap.size 1 eI A l) := (HA.out.below HB7).more HB7.size
 clear gbc_7 hSs_7 HB7
 go_loopw [15] (fun y WR => ∃ j : Nat, j ≤ l.length ∧ y = .int .i64 j ∧ Hid (Below Y.heap.size Y WR)) (fun y _ => 2000000 - (intOf y).toNat)
 case atStart => exact ⟨0, by omega, rfl, Below.refl _ _⟩
 case round =>
  obtain ⟨j, hj, rfl, hB⟩ := hrel
  by_cases hlt : j < l.length
  ·have tj : decide ((j : Int) < (l.length : Int)) = true := decide_eq_true (by omega)
   obtain ⟨x, hx⟩ : ∃ x, rows[j]? = some x := ⟨_, qzJ (by have := HRL.out; omega)⟩
   obtain ⟨y, hy⟩ : ∃ y, rows[j + 1]? = some y := ⟨_, qzJ (by have := HRL.out; omega)⟩
   obtain ⟨z, hz⟩ : ∃ z, l[j]? = some z := ⟨_, qzJ hlt⟩
   obtain ⟨hst, hnx⟩ := run_step HE.out (i := j) (s := x.1) (x := z) (by rw [← HRR.out, List.getElem?_map, hx]; rfl) hz
   have hyx : y.1 = x.1.stepS c z := by
    rw [← HRR.out, List.getElem?_map, hy] at hnx
    exact Option.some.inj hnx
   have hSw := GS.out.then_ hB.out
   have hAw : Seg wr wr.heap.size 1 eI A l := (GA.out.below hB.out).more hB.out.size
   have gcw := GC.out.then_ hB.out
   have HBw := Lib.hid (below_then GB.out hB.out)
   obtain ⟨b7, o7, eA7, _, hc7⟩ := segAt hSw.s hx
   obtain ⟨b8, o8, eA8, _, hc8⟩ := segAt hSw.s hy
   obtain ⟨b9, o9, eA9, _, hc9⟩ := segAt hAw hz
   have hl7 : j < rows.length := by have := HRL.out; omega
   have hl8 : j + 1 < rows.length := by have := HRL.out; omega
   have hix7 := fun W => idx_at (t := 30) (size := 4) (cap := capv) (len := rows.length) eA7 hl7 (by kernel_rfl) (fun W => by kernel_rfl) W
   have hix9 : ∀ W : World, (Instr.indexAt 22 (.slice A l.length cap) (.int .i64 (j : Nat))).run Tryz.prog W = .ok (.pointer (some ⟨b9, o9 + j, none⟩)) W := fun W => by
    have h := idx_at (t := 22) (size := 1) (cap := cap) (len := l.length) eA9 hlt (by kernel_rfl) (fun W => by kernel_rfl) W
    simpa using h
   have hix8 : ∀ W : World, (Instr.indexAt 30 (.slice Av rows.length capv) (.int .i64 ((j : Int) + 1))).run Tryz.prog W = .ok (.pointer (some ⟨b8, o8 + (j + 1) * 4, none⟩)) W := fun W => by
    have h := idx_at (t := 30) (size := 4) (cap := capv) (len := rows.length) (k := j + 1) eA8 hl8 (by kernel_rfl) (fun W => by kernel_rfl) W
    simpa using h
   have s0 : wr.cell? ⟨b7, o7 + j * 4, none⟩ = some (.int .i64 x.1.day) := by simpa using hc7 0 _ rfl
   have s1 : wr.cell? ⟨b7, o7 + j * 4 + 1, none⟩ = some (.slice x.2.h x.1.hol.length x.2.hc) := hc7 1 _ rfl
   have s2 : wr.cell? ⟨b7, o7 + j * 4 + 2, none⟩ = some (.slice x.2.u x.1.used.length x.2.uc) := hc7 2 _ rfl
   have s3 : wr.cell? ⟨b7, o7 + j * 4 + 3, none⟩ = some (.slice x.2.m x.1.marks.length x.2.mc) := hc7 3 _ rfl
   have r0 : wr.cell? ⟨b8, o8 + (j + 1) * 4, none⟩ = some (.int .i64 y.1.day) := by simpa using hc8 0 _ rfl
   have r1 : wr.cell? ⟨b8, o8 + (j + 1) * 4 + 1, none⟩ = some (.slice y.2.h y.1.hol.length y.2.hc) := hc8 1 _ rfl
   have r2 : wr.cell? ⟨b8, o8 + (j + 1) * 4 + 2, none⟩ = some (.slice y.2.u y.1.used.length y.2.uc) := hc8 2 _ rfl
   have r3 : wr.cell? ⟨b8, o8 + (j + 1) * 4 + 3, none⟩ = some (.slice y.2.m y.1.marks.length y.2.mc) := hc8 3 _ rfl
   have z0 : wr.cell? ⟨b9, o9 + j, none⟩ = some (.int .i64 z) := by simpa using hc9 0 _ rfl
   have hmx := hSw.r x (qzK hx)
   have hmy := Lib.hid (hSw.r y (qzK hy))
   obtain ⟨E4, eE4⟩ : ∃ E, x.1.stepE c z = E := ⟨_, rfl⟩
   have HS9 : Hid (∀ W, Below wr.heap.size wr W → Calls Tryz.prog 26 #[.agg #[.int .i64 c.par, .slice m.h c.hold.length m.hc, .slice m.u c.un.length m.uc, .slice m.a c.ac.length m.ac, .slice m.k c.cl.length m.kc, .int .i64 c.days, .slice m.o c.off.length m.oc], .agg #[.int .i64 x.1.day, .slice x.2.h x.1.hol.length x.2.hc, .slice x.2.u x.1.used.length x.2.uc, .slice x.2.m x.1.marks.length x.2.mc], .int .i64 z] W fun e w' => RetS W y.1 E4 e w') := fun W hb => by
    have h := HSP.out x.1 x.2 z W (below_then HBw.out hb) (hmx.then_ hb)
    rw [← hyx, eE4] at h
    exact h
   have z17 : (E4 != 0) = false := by rw [← eE4, hst]; rfl
   clear eE4
   have e5 : IntKind.i64.wrap ((j : Int) + 1) = (j : Int) + 1 := wrapN6 (by have := HNL3.out; omega)
   have h60 := HNL3.out
   clear hx hy hz hst hnx hyx hSw hAw eA7 eA8 eA9 hc7 hc8 hc9 hmx
   go_upto_region 15 with (fail)
   go_cut [16, 17] from 94 to 106 (fun v16 v17 W => ∃ q mm, v16 = .pointer (some ⟨q, 0, none⟩) ∧ v17 = .int .i64 E4 ∧ Blk W q 43 (stA y.1 mm) ∧ Stm W y.1 mm ∧ Below wr.heap.size wr W)
   case first =>
    refine wp_region_hb (fun w' => Hid (Below wr.heap.size wr w')) [0, 1, 2, 3, 4, 5, 6, 7, 8, 9, 10, 11, 12, 13, 14] [15] (by kernel_rfl) (by kernel_rfl) pO (Lib.hid (Below.drew (Below.refl _ _))) (fun hdir hsel hpan hHeld => ?_)
    refine wpHB_take (i := 0) (oi := ⟨some 95, _, _, _, _, _⟩) hdir hsel hpan rfl (by kernel_rfl) (by kernel_rfl) (by kernel_rfl) (yieldsIf_row (by rfl) 27 _ rfl bc rfl 27 _ (fun w hw => (gcw.then_ hw.out)) ⟨_, Tryz.underlying27⟩ (by kernel_rfl)) (by assumption) ?_
    try simp only [Act.put, qzG, qzI, qzH]
    refine wpHB_take (i := 1) (oi := ⟨some 96, _, _, _, _, _⟩) hdir hsel hpan rfl (by kernel_rfl) (by kernel_rfl) (by kernel_rfl) (Or.inl ⟨by rfl, fun _ _ => by rfl⟩) (by assumption) ?_
    try simp only [Act.put, qzG, qzI, qzH]
    refine wpHB_take (i := 2) (oi := ⟨some 97, _, _, _, _, _⟩) hdir hsel hpan rfl (by kernel_rfl) (by kernel_rfl) (by kernel_rfl) (Or.inl ⟨by rfl, fun _ _ => by rfl⟩) (by assumption) ?_
    try simp only [Act.put, qzG, qzI, qzH]
    refine wpHB_take (i := 3) (oi := ⟨some 98, _, _, _, _, _⟩) (v := .pointer (some ⟨b7, o7 + j * 4, none⟩)) hdir hsel hpan rfl (by kernel_rfl) (by kernel_rfl) (by kernel_rfl) (Or.inl ⟨by rfl, fun w hw => by have hc := hix7 w; go_simp⟩) (by assumption) ?_
    try simp only [Act.put, qzG, qzI, qzH]
    refine wpHB_take (i := 4) (oi := ⟨some 99, _, _, _, _, _⟩) (v := .agg #[.int .i64 x.1.day, .slice x.2.h x.1.hol.length x.2.hc, .slice x.2.u x.1.used.length x.2.uc, .slice x.2.m x.1.marks.length x.2.mc]) hdir hsel hpan rfl (by kernel_rfl) (by kernel_rfl) (by kernel_rfl) (Or.inl ⟨by rfl, fun w hw => by have c0 := cell_b hw.out s0; have c1 := cell_b hw.out s1; have c2 := cell_b hw.out s2; have c3 := cell_b hw.out s3; go_simp⟩) (by assumption) ?_
    try simp only [Act.put, qzG, qzI, qzH]
    refine wpHB_take (i := 5) (oi := ⟨some 100, _, _, _, _, _⟩) hdir hsel hpan rfl (by kernel_rfl) (by kernel_rfl) (by kernel_rfl) (Or.inl ⟨by rfl, fun _ _ => by rfl⟩) (by assumption) ?_
    try simp only [Act.put, qzG, qzI, qzH]
    refine wpHB_take (i := 6) (oi := ⟨some 101, _, _, _, _, _⟩) hdir hsel hpan rfl (by kernel_rfl) (by kernel_rfl) (by kernel_rfl) (Or.inl ⟨by rfl, fun _ _ => by rfl⟩) (by assumption) ?_
    try simp only [Act.put, qzG, qzI, qzH]
    refine wpHB_take (i := 7) (oi := ⟨some 102, _, _, _, _, _⟩) (v := .pointer (some ⟨b9, o9 + j, none⟩)) hdir hsel hpan rfl (by kernel_rfl) (by kernel_rfl) (by kernel_rfl) (Or.inl ⟨by rfl, fun w hw => by have hc := hix9 w; go_simp⟩) (by assumption) ?_
    try simp only [Act.put, qzG, qzI, qzH]
    refine wpHB_take (i := 8) (oi := ⟨some 103, _, _, _, _, _⟩) (v := .int .i64 z) hdir hsel hpan rfl (by kernel_rfl) (by kernel_rfl) (by kernel_rfl) (Or.inl ⟨by rfl, fun w hw => by have hc := cell_b hw.out z0; go_simp⟩) (by assumption) ?_
    try simp only [Act.put, qzG, qzI, qzH]
    refine wpHB_ready (rs := [9, 13]) (by kernel_rfl) (by simp) ?_
    refine AllHB.cons (by kernel_rfl) (o := ⟨some 104, _, _, _, _, _⟩) rfl (fun K hK => ?_) ?_
    ·go_simp
     (go_at_call 26; (with_reducible refine (HS9.out _ hHeld.out).mono ?_); rintro e wa ⟨⟨m2, rfl, hsa, hoa, hta⟩, hba⟩)
     have hq : Stq _ wa y.1 m2 := ⟨hsa, hoa, hta⟩
     clear hsa hoa hta
     try (replace gp := gp.then_ hba)
     refine hK.out _ _ (Lib.hid (below_then hHeld.out hba)) (fun hHeld2 => ?_)
     clear hK K hHeld
     have hHeld := hHeld2
     clear hHeld2
     try simp only [Act.put, qzG, qzI, qzH]
     refine wpHB_take (i := 10) (oi := ⟨some 94, _, _, _, _, _⟩) hdir hsel hpan rfl (by kernel_rfl) (by kernel_rfl) (by kernel_rfl) (Or.inl ⟨by rfl, fun _ _ => by rfl⟩) (by assumption) ?_
     try simp only [Act.put, qzG, qzI, qzH]
     refine wpHB_take (i := 11) (oi := ⟨some 105, _, _, _, _, _⟩) hdir hsel hpan rfl (by kernel_rfl) (by kernel_rfl) (by kernel_rfl) (Or.inl ⟨by rfl, fun _ _ => by rfl⟩) (by assumption) ?_
     try simp only [Act.put, qzG, qzI, qzH]
     refine wpHB_take (i := 12) (oi := ⟨some 106, _, _, _, _, _⟩) hdir hsel hpan rfl (by kernel_rfl) (by kernel_rfl) (by kernel_rfl) (Or.inl ⟨by rfl, fun _ _ => by rfl⟩) (by assumption) ?_
     try simp only [Act.put, qzG, qzI, qzH]
     refine wpHB_ready (rs := [13]) (by kernel_rfl) (by simp) ?_
     refine AllHB.cons (by kernel_rfl) (o := ⟨some 16, _, _, _, _, _⟩) rfl (fun K hK => ?_) AllHB.nil
     go_simp
     have lla := hHeld.out.size
     refine name_k ?_
     intro Vp hVp
     obtain ⟨gp, hbp⟩ : _ ∧ _ := (by first | exact sta_new hVp | exact sta_new (W := wr.drew) hVp)
     try (replace hq := hq.then_ hbp)
     clear hVp
     refine hK.out _ _ (Lib.hid (below_then hHeld.out hbp)) (fun hHeld2 => ?_)
     clear hK K hHeld
     have hHeld := hHeld2
     clear hHeld2
     try simp only [Act.put, qzG, qzI, qzH]
     refine wpHB_ready (rs := [14]) (by kernel_rfl) (by simp) ?_
     refine AllHB.cons (by kernel_rfl) (o := ⟨none, _, _, _, _, _⟩) rfl (fun K hK => ?_) AllHB.nil
     rw [if_pos (by rfl)]
     refine wp_store_all 43 _ _ rfl _ 43 [] zS.toList [] (stA y.1 m2).toList rfl rfl gp rfl (by kernel_rfl) (by simp [Value.oneCell']) ?_
     intro w8 g8 U8
     refine hK.out _ _ (Lib.hid (hHeld.out.trans (U8.b _ lla))) (fun hHeld2 => ?_)
     clear hK K hHeld
     have hHeld := hHeld2
     clear hHeld2
     try simp only [Act.put]
     refine wpHB_tail (by kernel_rfl) (by kernel_rfl) ?_
     clear hdir hsel hpan
     simp only [opsAt, qzA, qzB, qzC, qzD, qzE, qzF]
     go_wp2
     go_meet
     case rel => exact ⟨_, m2, rfl, rfl, g8, (hq.updT U8 gp (by decide)).m, hHeld.out⟩
    refine AllHB.cons (by kernel_rfl) (o := ⟨some 16, _, _, _, _, _⟩) rfl (fun K hK => ?_) ?_
    ·go_simp
     have lla := hHeld.out.size
     refine name_k ?_
     intro Vp hVp
     obtain ⟨gp, hbp⟩ : _ ∧ _ := (by first | exact sta_new hVp | exact sta_new (W := wr.drew) hVp)
     try (replace hq := hq.then_ hbp)
     clear hVp
     refine hK.out _ _ (Lib.hid (below_then hHeld.out hbp)) (fun hHeld2 => ?_)
     clear hK K hHeld
     have hHeld := hHeld2
     clear hHeld2
     try simp only [Act.put, qzG, qzI, qzH]
     refine wpHB_ready (rs := [9]) (by kernel_rfl) (by simp) ?_
     refine AllHB.cons (by kernel_rfl) (o := ⟨some 104, _, _, _, _, _⟩) rfl (fun K hK => ?_) AllHB.nil
     go_simp
     (go_at_call 26; (with_reducible refine (HS9.out _ hHeld.out).mono ?_); rintro e wa ⟨⟨m2, rfl, hsa, hoa, hta⟩, hba⟩)
     have hq : Stq _ wa y.1 m2 := ⟨hsa, hoa, hta⟩
     clear hsa hoa hta
     try (replace gp := gp.then_ hba)
     refine hK.out _ _ (Lib.hid (below_then hHeld.out hba)) (fun hHeld2 => ?_)
     clear hK K hHeld
     have hHeld := hHeld2
     clear hHeld2
     try simp only [Act.put, qzG, qzI, qzH]
     refine wpHB_take (i := 10) (oi := ⟨some 94, _, _, _, _, _⟩) hdir hsel hpan rfl (by kernel_rfl) (by kernel_rfl) (by kernel_rfl) (Or.inl ⟨by rfl, fun _ _ => by rfl⟩) (by assumption) ?_
     try simp only [Act.put, qzG, qzI, qzH]
     refine wpHB_take (i := 11) (oi := ⟨some 105, _, _, _, _, _⟩) hdir hsel hpan rfl (by kernel_rfl) (by kernel_rfl) (by kernel_rfl) (Or.inl ⟨by rfl, fun _ _ => by rfl⟩) (by assumption) ?_
     try simp only [Act.put, qzG, qzI, qzH]
     refine wpHB_take (i := 12) (oi := ⟨some 106, _, _, _, _, _⟩) hdir hsel hpan rfl (by kernel_rfl) (by kernel_rfl) (by kernel_rfl) (Or.inl ⟨by rfl, fun _ _ => by rfl⟩) (by assumption) ?_
     try simp only [Act.put, qzG, qzI, qzH]
     refine wpHB_ready (rs := [14]) (by kernel_rfl) (by simp) ?_
     refine AllHB.cons (by kernel_rfl) (o := ⟨none, _, _, _, _, _⟩) rfl (fun K hK => ?_) AllHB.nil
     rw [if_pos (by rfl)]
     refine wp_store_all 43 _ _ rfl _ 43 [] zS.toList [] (stA y.1 m2).toList rfl rfl gp rfl (by kernel_rfl) (by simp [Value.oneCell']) ?_
     intro w8 g8 U8
     refine hK.out _ _ (Lib.hid (hHeld.out.trans (U8.b _ lla))) (fun hHeld2 => ?_)
     clear hK K hHeld
     have hHeld := hHeld2
     clear hHeld2
     try simp only [Act.put]
     refine wpHB_tail (by kernel_rfl) (by kernel_rfl) ?_
     clear hdir hsel hpan
     simp only [opsAt, qzA, qzB, qzC, qzD, qzE, qzF]
     go_wp2
     go_meet
     case rel => exact ⟨_, m2, rfl, rfl, g8, (hq.updT U8 gp (by decide)).m, hHeld.out⟩
    exact AllHB.nil
   obtain ⟨bq, mq, rfl, rfl, gq, hmq, hbq⟩ := hcut
   obtain ⟨Wq, rfl⟩ : ∃ W, W = wc := ⟨_, rfl⟩
   have f0 : Wq.cell? ⟨bq, 0, none⟩ = some (.int .i64 y.1.day) := gq.cell 0
   have f1 : Wq.cell? ⟨bq, 1, none⟩ = some (.slice mq.h y.1.hol.length mq.hc) := gq.cell 1
   have f2 : Wq.cell? ⟨bq, 2, none⟩ = some (.slice mq.u y.1.used.length mq.uc) := gq.cell 2
   have f3 : Wq.cell? ⟨bq, 3, none⟩ = some (.slice mq.m y.1.marks.length mq.mc) := gq.cell 3
   have p0 := cell_b hbq r0
   have p1 := cell_b hbq r1
   have p2 := cell_b hbq r2
   have p3 := cell_b hbq r3
   have HSM2 : Hid (∀ W, Below Wq.heap.size Wq W → Calls Tryz.prog 23 #[.agg #[.int .i64 y.1.day, .slice mq.h y.1.hol.length mq.hc, .slice mq.u y.1.used.length mq.uc, .slice mq.m y.1.marks.length mq.mc], .agg #[.int .i64 y.1.day, .slice y.2.h y.1.hol.length y.2.hc, .slice y.2.u y.1.used.length y.2.uc, .slice y.2.m y.1.marks.length y.2.mc]] W fun e w' => e = .returned (.bool true) ∧ Below W.heap.size W w') := fun W hb => by
    have h := same_any y.1 y.1 mq y.2 W (hmq.then_ hb) ((hmy.out.then_ hbq).then_ hb)
    rw [decide_eq_true rfl] at h
    exact h
   have hB2 := Lib.hid (below_then hB.out hbq)
   clear gq hmq hbq s0 s1 s2 s3 r0 r1 r2 r3 z0 hix7 hix9 gcw
   go_upto_region 16 with (fail)
   have rg0 := cR f0
   have rg1 := cR f1
   have rg2 := cR f2
   have rg3 := cR f3
   have rg4 := cR p0
   have rg5 := cR p1
   have rg6 := cR p2
   have rg7 := cR p3
   refine wp_region_qt [0, 1, 2, 3, 4, 5, 6, 7, 8, 9, 10, 11] [] (by kernel_rfl) (by kernel_rfl) pO ?_
   simp only [opsAt, qzA, qzB, qzC, qzD, qzE, qzF]
   repeat (go_big_quiet_step ((go_at_call 23; with_reducible exact qt_call (fun W' hW' => HSM2.out W' hW') _ _)))
   refine wpQuiet_nil ?_
   intro V hw2
   have hbV := qt_world hw2
   clear hw2 rg0 rg1 rg2 rg3 rg4 rg5 rg6 rg7
   refine wpList_done ?_
   go_wp2
   go_roundw
   case rel => exact ⟨j + 1, by omega, by simp, below_then hB2.out hbV⟩
   case measure => simp [intOf]; omega
  have tj : decide ((j : Int) < (l.length : Int)) = false := decide_eq_false (by omega)
  go_wp2
  go_ret
  exact ⟨rfl, below_then GB.out hB.out⟩
end Go.Proofs.YtginnonjdbpamaaGreatDoor
