/- The walk of ValidateBreach. -/
import Derived.Test.YtginnonjdbpamaaGreatDoorMb37
import Derived.Test.YtginnonjdbpamaaGreatDoorZWm1
namespace Go.Proofs.YtginnonjdbpamaaGreatDoor
open Go.RowKit Go.Sort
theorem wrapN_ {n : Nat} (h : n ≤ 1000000) : IntKind.i64.wrap ((n : Int) + 1) = (n : Int) + 1 := wrap_small _ (by omega) (by omega)
def foF (p : Int) (k : Cla) (o : Out) : Bool := k.fin && o.st == 4 && o.brr == p
theorem takeb_any {l : List Bool} {i : Nat} {b : Bool} (h : l[i]? = some b) : (l.take (i + 1)).any id = ((l.take i).any id || b) := by
 rw [List.take_add_one, h]
 simp
theorem failed_eq (c : Con) (oc : List Out) (p : Int) : failed c oc p = (List.zipWith (foF p) c.cl oc).any id := rfl
theorem oc_len {c : Con} {l : List Int} (h : c.runE l = 0) : (c.follow l).oc.length = c.cl.length := by
 obtain ⟨s, hs⟩ : ∃ s, (c.runS l)[l.length]? = some s := ⟨_, List.getElem?_eq_getElem (by rw [runS_len h]; omega)⟩
 exact (run_rs h hs (reads_last c l c.read0)).inv.len
set_option maxRecDepth 100000 in
set_option maxHeartbeats 6400000 in
theorem breach_walk (c : Con) (m : Cm) (l : List Int) (A : Option Addr) (cap : Nat) (p : Int) (w : World) (hL : Lw w) (hc : ContW w c m) (hl : LstM w eI 1 (fun y => I64 y) A l cap) :
  Calls Tryz.prog 6 #[.agg (coA c m), .slice A l.length cap, .int .i64 p] w fun e w' => e = .returned (.bool true) ∧ Below w.heap.size w w' := by
 have HH := Lib.hid (fun W (hb : Below w.heap.size w W) => head_any W (hL.below hb))
 cases hs1 : c.fewL l with
 | false =>
  have HS1 := Lib.hid (fun W (hb : Below w.heap.size w W) => few_at c m l A cap false hc hs1 W hb)
  clear hc hl hs1 hL
  go_enter Tryz.func6, Tryz.ntmps6
  go_upto_region 1 with (fail)
  refine name_wp ?_
  intro X0 hX
  have gbc : Blk X0 w.heap.size 27 (coA c m) := by rw [hX]; exact blk_at (by simp)
  have HB0 : Below w.heap.size w X0 := by rw [hX]; (repeat (first | exact Below.refl _ _ | refine below_alloc ?_ _))
  clear hX
  obtain ⟨bc, ebc⟩ : ∃ b, w.heap.size = b := ⟨_, rfl⟩
  have lbc : w.heap.size ≤ bc := by omega
  rw [ebc] at gbc ⊢
  clear ebc
  go_upto_region 2 with ((go_at_call 11; (with_reducible refine (HH.out _ HB0).mono ?_); rintro e w1 ⟨rfl, hbw1⟩))
  have HH1 := hbw1
  have HB1 := below_then HB0 HH1
  have gbc_1 := gbc.then_ HH1
  clear gbc HB0 HH1
  go_wp2_with (first | (refine wpList_row_w (by rfl) 27 _ rfl bc rfl 27 _ gbc_1 ⟨_, Tryz.underlying27⟩ (by kernel_rfl) ?_; simp only [Act.put, List.setIfInBounds_toArray, List.set_cons_succ, List.set_cons_zero]) | (go_at_call 12; (with_reducible refine (HS1.out _ HB1).mono ?_); rintro e w2 ⟨rfl, hbw2⟩))
  go_ret
  exact ⟨rfl, below_then HB1 hbw2⟩
 | true =>
 have HS1 := Lib.hid (fun W (hb : Below w.heap.size w W) => few_at c m l A cap true hc hs1 W hb)
 obtain ⟨hC, nl, hf8⟩ := fewL_cont hc hs1
 have hA := hl.2.2.2
 have nl2 : l.length ≤ 1000000 := by omega
 have HR := Lib.hid (fun W (hb : Below w.heap.size w W) => run_sl c m l A cap hC hA nl2 W hb)
 have HC := Lib.hid hC
 have HA := Lib.hid hA
 have HO := Lib.hid (fun W (hb : Below w.heap.size w W) => out_sl c m l A cap hC hA nl2 W hb)
 have HBR := Lib.hid (fun (s : Sta) (q : Qm) (W : World) (hb : Below w.heap.size w W) (hS : Stm W s q) => breach_any c m s q p W (hC.then_ hb) hS)
 obtain ⟨E, eE⟩ : ∃ E, c.runE l = E := ⟨_, rfl⟩
 rw [eE] at HR HO
 have nl3 : l.length ≤ 60 := nl
 have ncl : c.cl.length ≤ 8 := (fewC hf8).2.2.2.1
 clear hC hA hc hl hs1 hL nl nl2 hf8
 have HLL := Lib.hid nl3
 have HCL := Lib.hid ncl
 clear nl3 ncl
 by_cases h0 : E ≠ 0
 ·have h1 := h0
  go_enter Tryz.func6, Tryz.ntmps6
  go_upto_region 1 with (fail)
  refine name_wp ?_
  intro X0 hX
  have gbc : Blk X0 w.heap.size 27 (coA c m) := by rw [hX]; exact blk_at (by simp)
  have HB0 : Below w.heap.size w X0 := by rw [hX]; (repeat (first | exact Below.refl _ _ | refine below_alloc ?_ _))
  clear hX
  obtain ⟨bc, ebc⟩ : ∃ b, w.heap.size = b := ⟨_, rfl⟩
  have lbc : w.heap.size ≤ bc := by omega
  rw [ebc] at gbc ⊢
  clear ebc
  go_upto_region 2 with ((go_at_call 11; (with_reducible refine (HH.out _ HB0).mono ?_); rintro e w1 ⟨rfl, hbw1⟩))
  have HH1 := hbw1
  have HB1 := below_then HB0 HH1
  have gbc_1 := gbc.then_ HH1
  clear gbc HB0 HH1
  go_upto_region 4 with (first | (refine wpList_row_w (by rfl) 27 _ rfl bc rfl 27 _ gbc_1 ⟨_, Tryz.underlying27⟩ (by kernel_rfl) ?_; simp only [Act.put, List.setIfInBounds_toArray, List.set_cons_succ, List.set_cons_zero]) | (go_at_call 12; (with_reducible refine (HS1.out _ HB1).mono ?_); rintro e w2 ⟨rfl, hbw2⟩))
  have HH2 := hbw2
  have HB2 := below_then HB1 HH2
  have gbc_2 := gbc_1.then_ HH2
  clear gbc_1 HB1 HH2
  go_upto_region 5 with (first | (refine wpList_row_w (by rfl) 27 _ rfl bc rfl 27 _ gbc_2 ⟨_, Tryz.underlying27⟩ (by kernel_rfl) ?_; simp only [Act.put, List.setIfInBounds_toArray, List.set_cons_succ, List.set_cons_zero]) | (go_at_call 13; (with_reducible refine (HR.out _ HB2).mono ?_); rintro e w3 ⟨⟨Av, capv, rows, rfl, hrr, hS, hcv, hnr⟩, hbw3⟩))
  have HH3 := hbw3
  have HB3 := below_then HB2 HH3
  have gbc_3 := gbc_2.then_ HH3
  clear gbc_2 HB2 HH3
  go_upto_region 6 with (first | (refine wpList_row_w (by rfl) 27 _ rfl bc rfl 27 _ gbc_3 ⟨_, Tryz.underlying27⟩ (by kernel_rfl) ?_; simp only [Act.put, List.setIfInBounds_toArray, List.set_cons_succ, List.set_cons_zero]) | (go_at_call 16; (with_reducible refine (HO.out _ HB3).mono ?_); rintro e w4 ⟨⟨Bo, no, co, rfl, hoo⟩, hbw4⟩))
  have hS_ := hS.then_ hbw4
  have HH4 := hbw4
  have HB4 := below_then HB3 HH4
  have gbc_4 := gbc_3.then_ HH4
  clear gbc_3 HB3 HH4
  have z2 : (E == 0) = false := beq_eq_false_iff_ne.2 h0
  have z3 : (E != 0) = true := bne_iff_ne.2 h0
  clear hcv hnr hrr HR HO hS HH HBR h0 h1 hoo
  go_wp2
  go_ret
  exact ⟨rfl, HB4⟩
 obtain rfl : E = 0 := Decidable.byContradiction h0
 have HE := Lib.hid eE
 clear eE h0
 go_enter Tryz.func6, Tryz.ntmps6
 go_upto_region 1 with (fail)
 refine name_wp ?_
 intro X0 hX
 have gbc : Blk X0 w.heap.size 27 (coA c m) := by rw [hX]; exact blk_at (by simp)
 have HB0 : Below w.heap.size w X0 := by rw [hX]; (repeat (first | exact Below.refl _ _ | refine below_alloc ?_ _))
 clear hX
 obtain ⟨bc, ebc⟩ : ∃ b, w.heap.size = b := ⟨_, rfl⟩
 have lbc : w.heap.size ≤ bc := by omega
 rw [ebc] at gbc ⊢
 clear ebc
 go_upto_region 2 with ((go_at_call 11; (with_reducible refine (HH.out _ HB0).mono ?_); rintro e w1 ⟨rfl, hbw1⟩))
 have HH1 := hbw1
 have HB1 := below_then HB0 HH1
 have gbc_1 := gbc.then_ HH1
 clear gbc HB0 HH1
 go_upto_region 4 with (first | (refine wpList_row_w (by rfl) 27 _ rfl bc rfl 27 _ gbc_1 ⟨_, Tryz.underlying27⟩ (by kernel_rfl) ?_; simp only [Act.put, List.setIfInBounds_toArray, List.set_cons_succ, List.set_cons_zero]) | (go_at_call 12; (with_reducible refine (HS1.out _ HB1).mono ?_); rintro e w2 ⟨rfl, hbw2⟩))
 have HH2 := hbw2
 have HB2 := below_then HB1 HH2
 have gbc_2 := gbc_1.then_ HH2
 clear gbc_1 HB1 HH2
 go_upto_region 5 with (first | (refine wpList_row_w (by rfl) 27 _ rfl bc rfl 27 _ gbc_2 ⟨_, Tryz.underlying27⟩ (by kernel_rfl) ?_; simp only [Act.put, List.setIfInBounds_toArray, List.set_cons_succ, List.set_cons_zero]) | (go_at_call 13; (with_reducible refine (HR.out _ HB2).mono ?_); rintro e w3 ⟨⟨Av, capv, rows, rfl, hrr, hS, hcv, hnr⟩, hbw3⟩))
 have HH3 := hbw3
 have HB3 := below_then HB2 HH3
 have gbc_3 := gbc_2.then_ HH3
 clear gbc_2 HB2 HH3
 go_upto_region 6 with (first | (refine wpList_row_w (by rfl) 27 _ rfl bc rfl 27 _ gbc_3 ⟨_, Tryz.underlying27⟩ (by kernel_rfl) ?_; simp only [Act.put, List.setIfInBounds_toArray, List.set_cons_succ, List.set_cons_zero]) | (go_at_call 16; (with_reducible refine (HO.out _ HB3).mono ?_); rintro e w4 ⟨⟨Bo, no, co, rfl, hoo⟩, hbw4⟩))
 have hS_ := hS.then_ hbw4
 have HH4 := hbw4
 have HB4 := below_then HB3 HH4
 have gbc_4 := gbc_3.then_ HH4
 clear gbc_3 HB3 HH4
 obtain ⟨hno, hso, hco⟩ := hoo.out (by simp)
 have hrl : rows.length = l.length + 1 := by have := congrArg List.length hrr.out; rw [List.length_map, runS_len HE.out] at this; exact this
 have hol : (c.follow l).oc.length = c.cl.length := oc_len HE.out
 rw [hol] at hno
 subst hno
 have HRR := hrr
 have HRL := Lib.hid hrl
 have HNR := hnr
 have HCO := Lib.hid hco
 obtain ⟨L, eL⟩ : ∃ L, (c.follow l).oc.map (·.1) = L := ⟨_, rfl⟩
 rw [eL] at hso
 have HEL := Lib.hid eL
 have HSO := Lib.hid hso
 have hLl : Hid (L.length = c.cl.length) := by unfold Hid; rw [← HEL.out, List.length_map]; exact oc_len HE.out
 have HSS := Lib.hid hS_
 clear hoo hcv hnr hrr hrl hol hco hso eL HR HO HH hS hS_
 have e1 : IntKind.i64.wrap ((l.length : Int) + 1) = (l.length : Int) + 1 := wrapN_ (n := l.length) (by have := HLL.out; omega)
 have t1 : (((rows.length : Nat) : Int) != (l.length : Int) + 1) = false := by rw [bne_eq_false_iff_eq]; have := HRL.out; omega
 have k4 : w4.cell? ⟨bc, 4, none⟩ = some (.slice m.k c.cl.length m.kc) := gbc_4.cell 4
 go_upto_region 10 with (fail)
 go_loopw [12, 13] (fun v y WR => ∃ j : Nat, j ≤ c.cl.length ∧ y = .int .i64 j ∧ v = .bool (((List.zipWith (foF p) c.cl L).take j).any id) ∧ w4 = WR) (fun _ y _ => 2000000 - (intOf y).toNat)
 case atStart => exact ⟨0, by omega, rfl, by simp, rfl⟩
 case round =>
  obtain ⟨j, hj, rfl, rfl, rfl⟩ := hrel
  by_cases hlt : j < c.cl.length
  ·have tj : decide ((j : Int) < (c.cl.length : Int)) = true := decide_eq_true (by omega)
   obtain ⟨k, hk⟩ : ∃ k, c.cl[j]? = some k := ⟨_, List.getElem?_eq_getElem hlt⟩
   obtain ⟨o, ho⟩ : ∃ o, L[j]? = some o := ⟨_, List.getElem?_eq_getElem (by have := hLl.out; omega)⟩
   obtain ⟨kx, hkx, hkk⟩ := km_at HC.out.e hk
   obtain ⟨b5, o5, eA5, _, hc5⟩ := segAt (HC.out.then_ HB4).k hkx
   have hix5 := fun W => idx_at (t := 25) (size := 16) (cap := m.kc) (len := c.cl.length) eA5 hlt (by kernel_rfl) (fun W => by kernel_rfl) W
   have f8 : w4.cell? ⟨b5, o5 + j * 16 + 8, none⟩ = some (.bool kx.k.fin) := hc5 8 _ rfl
   obtain ⟨b6, o6, eA6, _, hc6⟩ := segAt HSO.out ho
   have hix6 := fun W => idx_at (t := 37) (size := 5) (cap := co) (len := c.cl.length) eA6 hlt (by kernel_rfl) (fun W => by kernel_rfl) W
   have m0 : w4.cell? ⟨b6, o6 + j * 5, none⟩ = some (.int .i64 o.st) := hc6 0 _ rfl
   have m4 : w4.cell? ⟨b6, o6 + j * 5 + 4, none⟩ = some (.int .i64 o.brr) := hc6 4 _ rfl
   have hz : Hid (((List.zipWith (foF p) c.cl L).take (j + 1)).any id = (((List.zipWith (foF p) c.cl L).take j).any id || (kx.k.fin && o.st == 4 && o.brr == p))) := by
    unfold Hid
    refine takeb_any ?_
    rw [List.getElem?_zipWith, hk, ho, hkk]
    rfl
   obtain ⟨v, ev⟩ : ∃ v, ((List.zipWith (foF p) c.cl L).take j).any id = v := ⟨_, rfl⟩
   obtain ⟨f, ef⟩ : ∃ f, kx.k.fin = f := ⟨_, rfl⟩
   obtain ⟨g, eg⟩ : ∃ g, (o.st == 4) = g := ⟨_, rfl⟩
   obtain ⟨h, eh⟩ : ∃ h, (o.brr == p) = h := ⟨_, rfl⟩
   rw [ef] at f8 hz
   rw [ev, eg, eh] at hz
   rw [ev]
   have hwr2 := wrapN_ (n := j) (by have := HCL.out; omega)
   have hle : j + 1 ≤ c.cl.length := by omega
   clear hk ho hkx hkk eA5 hc5 eA6 hc6 ev ef
   cases v
   case true =>
    go_wp2
    go_roundw
    case rel => exact ⟨j + 1, hle, by simp, by simp [hz.out], by trivial⟩
    case measure => have := HCL.out; simp [intOf]; omega
   cases f
   case false =>
    go_wp2
    go_roundw
    case rel => exact ⟨j + 1, hle, by simp, by simp [hz.out], by trivial⟩
    case measure => have := HCL.out; simp [intOf]; omega
   cases g
   case false =>
    go_wp2
    go_roundw
    case rel => exact ⟨j + 1, hle, by simp, by simp [hz.out], by trivial⟩
    case measure => have := HCL.out; simp [intOf]; omega
   cases h
   all_goals (go_wp2; go_roundw; (case rel => exact ⟨j + 1, hle, by simp, by simp [hz.out], by trivial⟩); (case measure => have := HCL.out; simp [intOf]; omega))
  have tj : decide ((j : Int) < (c.cl.length : Int)) = false := decide_eq_false (by omega)
  obtain rfl : j = c.cl.length := by omega
  have hall : Hid (((List.zipWith (foF p) c.cl L).take c.cl.length).any id = failed c L p) := by
   unfold Hid
   rw [failed_eq, List.take_of_length_le (by rw [List.length_zipWith]; omega)]
  obtain ⟨x, hx⟩ : ∃ x, rows[l.length]? = some x := ⟨_, List.getElem?_eq_getElem (by have := HRL.out; omega)⟩
  have hsx : Hid ((c.runS l)[l.length]? = some x.1) := by unfold Hid; rw [← HRR.out, List.getElem?_map, hx]; rfl
  have hbl := breach_law HE.out hsx.out p
  rw [HEL.out, ← hall.out] at hbl
  obtain ⟨v, ev⟩ : ∃ v, ((List.zipWith (foF p) c.cl L).take c.cl.length).any id = v := ⟨_, rfl⟩
  rw [ev] at hbl ⊢
  obtain ⟨b7, o7, eA7, _, hc7⟩ := segAt HSS.out.s hx
  have hlt7 : l.length < rows.length := by have := HRL.out; omega
  have hix7 := fun W => idx_at (t := 30) (size := 4) (cap := capv) (len := rows.length) eA7 hlt7 (by kernel_rfl) (fun W => by kernel_rfl) W
  have s0 : w4.cell? ⟨b7, o7 + l.length * 4, none⟩ = some (.int .i64 x.1.day) := hc7 0 _ rfl
  have s1 : w4.cell? ⟨b7, o7 + l.length * 4 + 1, none⟩ = some (.slice x.2.h x.1.hol.length x.2.hc) := hc7 1 _ rfl
  have s2 : w4.cell? ⟨b7, o7 + l.length * 4 + 2, none⟩ = some (.slice x.2.u x.1.used.length x.2.uc) := hc7 2 _ rfl
  have s3 : w4.cell? ⟨b7, o7 + l.length * 4 + 3, none⟩ = some (.slice x.2.m x.1.marks.length x.2.mc) := hc7 3 _ rfl
  have k0 : w4.cell? ⟨bc, 0, none⟩ = some (.int .i64 c.par) := gbc_4.cell 0
  have k1 : w4.cell? ⟨bc, 1, none⟩ = some (.slice m.h c.hold.length m.hc) := gbc_4.cell 1
  have k2 : w4.cell? ⟨bc, 2, none⟩ = some (.slice m.u c.un.length m.uc) := gbc_4.cell 2
  have k3 : w4.cell? ⟨bc, 3, none⟩ = some (.slice m.a c.ac.length m.ac) := gbc_4.cell 3
  have k5 : w4.cell? ⟨bc, 5, none⟩ = some (.int .i64 c.days) := gbc_4.cell 5
  have k6 : w4.cell? ⟨bc, 6, none⟩ = some (.slice m.o c.off.length m.oc) := gbc_4.cell 6
  obtain ⟨z, ez⟩ : ∃ z, decide (0 ≤ p) = z := ⟨_, rfl⟩
  rw [ez] at hbl
  have HVM : Hid (∀ W, Below w4.heap.size w4 W → Calls Tryz.prog 17 #[.agg #[.int .i64 c.par, .slice m.h c.hold.length m.hc, .slice m.u c.un.length m.uc, .slice m.a c.ac.length m.ac, .slice m.k c.cl.length m.kc, .int .i64 c.days, .slice m.o c.off.length m.oc], .agg #[.int .i64 x.1.day, .slice x.2.h x.1.hol.length x.2.hc, .slice x.2.u x.1.used.length x.2.uc, .slice x.2.m x.1.marks.length x.2.mc], .int .i64 p] W fun e w' => e = .returned (.bool (v && z)) ∧ Below W.heap.size W w') := fun W hb => by
   rw [← hbl]
   exact HBR.out x.1 x.2 W (below_then HB4 hb) ((HSS.out.r x (List.mem_of_getElem? hx)).then_ hb)
  have HBW := Lib.hid HB4
  clear hx hsx hbl ev eA7 hc7 gbc_4
  go_upto_region 13 with (fail)
  cases v
  all_goals
   have rg0 := cell_regrown s0
   have rg1 := cell_regrown s1
   have rg2 := cell_regrown s2
   have rg3 := cell_regrown s3
   have rg4 := cell_regrown k0
   have rg5 := cell_regrown k1
   have rg6 := cell_regrown k2
   have rg7 := cell_regrown k3
   have rg8 := cell_regrown k4
   have rg9 := cell_regrown k5
   have rg10 := cell_regrown k6
   refine wp_region_qt [0, 1, 2, 3, 4, 5, 6, 7, 8, 9, 10, 11, 12, 13, 14, 15, 16] [17] (by kernel_rfl) (by kernel_rfl) (by repeat (first | with_reducible refine panOk_then ?_ | with_reducible refine panOk_block ?_ | exact panOk_body)) ?_
   simp only [opsAt, List.getElem?_toArray, List.getElem?_cons_succ, List.getElem?_cons_zero, Option.toList_some, List.cons_append, List.nil_append]
   repeat (go_big_quiet_step ((go_at_call 17; with_reducible exact qt_call (fun W' hW' => HVM.out W' hW') _ _)))
   refine wpQuiet_nil ?_
   intro Z hw2
   have hbZ := qt_world hw2
   clear hw2 rg0 rg1 rg2 rg3 rg4 rg5 rg6 rg7 rg8 rg9 rg10
   go_wp2
   go_ret
   exact ⟨ret_bool (by simp), below_then HBW.out hbZ⟩
end Go.Proofs.YtginnonjdbpamaaGreatDoor
