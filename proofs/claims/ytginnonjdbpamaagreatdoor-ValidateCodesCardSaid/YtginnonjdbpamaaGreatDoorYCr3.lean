/- The walk of the reference's Encode. -/
import Derived.Test.YtginnonjdbpamaaGreatDoorYCr2
import Derived.Test.YtginnonjdbpamaaGreatDoorMc5
import Derived.Test.YtginnonjdbpamaaGreatDoorMc1
set_option maxHeartbeats 6400000
set_option maxRecDepth 100000
namespace Go.Proofs.YtginnonjdbpamaaGreatDoor
open Go.RowKit
theorem xFg (s : Sta) (q : Qm) (w : World) (hS : Stm w s q) (hI : s.I64) (nh : s.hol.length ≤ 5000) (nu : s.used.length ≤ 5000) (nm : s.marks.length ≤ 5000) :
  Calls Tryz.prog 22 #[.agg (stA s q)] w fun e w' => e = .returned (.string (tBy s.text)) ∧ Below w.heap.size w w' := by
 obtain ⟨T, hT⟩ : ∃ T, s.text = T := ⟨_, rfl⟩
 have HTX := qzL hT
 rw [hT]
 have HS := qzL hS
 have HI := qzL hI
 have HD := qzL xCj
 have ld := xBq hI.day
 have hday := hI.day
 clear hS hI hT
 go_enter Tryz.func22, Tryz.ntmps22
 go_upto_region 1 with (fail)
 refine xAf ?_
 intro X hX
 have gs : Blk X w.heap.size 43 (stA s q) := by rw [hX]; exact Blk.new _ _ _
 have HB : Hid (Below w.heap.size w X) := by rw [hX]; exact wa1 _ _
 obtain ⟨bs, ebs⟩ : ∃ b, w.heap.size = b := ⟨_, rfl⟩
 rw [ebs] at gs ⊢
 clear hX ebs
 have GS := qzL gs
 have s0 : X.cell? ⟨bs, 0, none⟩ = some (.int .i64 s.day) := gs.cell 0
 have S1 : ∀ W, (Op.stringOp .add (tBy (Lib.itoa s.day)) ⟨#[59]⟩).run Tryz.prog W = .ok (.string (tBy ((Lib.itoa s.day) ++ [59]))) W := fun W => sadd (Lib.itoa s.day) [59] (by simp only [List.length_cons, List.length_nil]; omega) W
 go_upto_region 2 with (go_at_call 46; (with_reducible refine (HD.out _ _ hday).mono ?_); rintro e w5 ⟨rfl, hb5⟩)
 obtain ⟨P1, hP1⟩ : ∃ P, Lib.itoa s.day ++ [59] = P := ⟨_, rfl⟩
 have l1 : P1.length ≤ 30 := by rw [← hP1]; simp only [List.length_append, List.length_cons, List.length_nil]; omega
 have HP1 := qzL hP1
 rw [hP1]
 have HB5 := qzL hb5
 clear hP1 s0 gs S1 hday ld hb5
 go_upto_region 3 with (fail)
 go_loopw [3, 4] (fun v y WR => ∃ i : Nat, v = .string (tBy (P1 ++ holT (s.hol.take i))) ∧ y = .int .i64 i ∧ i ≤ s.hol.length ∧ Hid (Below X.heap.size X WR)) (fun _ y _ => 20000 - (intOf y).toNat)
 case atStart => exact ⟨0, by simp [holT], rfl, by omega, HB5⟩
 case round =>
  clear HB5
  obtain ⟨i, rfl, rfl, hi', hbr⟩ := hrel
  have hlen : (P1 ++ holT (s.hol.take i)).length ≤ 200000 := by
   have := holT_len (l := s.hol.take i) fun n hn => HI.out.hol n (List.mem_of_mem_take hn)
   rw [List.length_append]
   rw [List.length_take] at this
   omega
  have gr := GS.out.then_ hbr.out
  have sc : wr.cell? ⟨bs, 1, none⟩ = some (.slice q.h s.hol.length q.hc) := gr.cell 1
  by_cases hlt : i < s.hol.length
  case pos =>
   have tl : decide ((i : Int) < (s.hol.length : Int)) = true := qzO (by omega)
   obtain ⟨n, hn⟩ : ∃ n, s.hol[i]? = some n := ⟨_, qzJ hlt⟩
   obtain ⟨b0, o0, eA0, hb0, hc0⟩ := xAx ((HS.out.then_ (xAa HB.out hbr.out)).h) hn
   have hix := fun W => xAq (t := 22) (size := 1) (cap := q.hc) eA0 hlt (by kernel_rfl) (fun W => by kernel_rfl) W
   have hnJ := HI.out.hol n (qzK hn)
   have ln := xBq hnJ
   have d0 : wr.cell? ⟨b0, o0 + i, none⟩ = some (.int .i64 n) := by simpa using hc0 0 _ rfl
   simp only [Nat.mul_one] at hix
   obtain ⟨zs, hzs⟩ : ∃ zs, P1 ++ holT (s.hol.take i) = zs := ⟨_, rfl⟩
   have HSN : Hid (tBy (P1 ++ holT (s.hol.take (i + 1))) = tBy ((zs ++ Lib.itoa n) ++ [44])) := by
    unfold Hid
    rw [← hzs, List.take_add_one, hn]
    simp [holT]
   rw [hzs] at hlen ⊢
   have S1 := fun W => sadd zs (Lib.itoa n) (by omega) W
   obtain ⟨x, hx⟩ : ∃ x, zs ++ Lib.itoa n = x := ⟨_, rfl⟩
   have lx : x.length ≤ 300000 := by rw [← hx, List.length_append]; omega
   rw [hx] at S1 HSN
   clear hx
   have S2 : ∀ W, (Op.stringOp .add (tBy x) ⟨#[44]⟩).run Tryz.prog W = .ok (.string (tBy (x ++ [44]))) W := fun W => sadd x [44] (by simp only [List.length_cons, List.length_nil]; omega) W
   clear hc0 eA0 hn hzs gr
   go_wp2_with (go_at_call 46; (with_reducible refine (HD.out _ _ hnJ).mono ?_); rintro e w5 ⟨rfl, hb5⟩)
   have hbn := qzL (xAa hbr.out hb5)
   go_roundw
   case rel => exact ⟨i + 1, by rw [HSN.out], by simp, by omega, hbn⟩
   case measure => simp [intOf]; omega
  obtain rfl : i = s.hol.length := by omega
  have tl : decide (((s.hol.length : Nat) : Int) < ((s.hol.length : Nat) : Int)) = false := qzN (by omega)
  rw [List.take_length] at hlen ⊢
  obtain ⟨zs, hzs⟩ : ∃ z, P1 ++ holT s.hol = z := ⟨_, rfl⟩
  rw [hzs] at hlen ⊢
  have S1 : ∀ W, (Op.stringOp .add (tBy zs) ⟨#[59]⟩).run Tryz.prog W = .ok (.string (tBy (zs ++ [59]))) W := fun W => sadd zs [59] (by simp only [List.length_cons, List.length_nil]; omega) W
  clear gr
  go_upto_region 8 with (fail)
  obtain ⟨P2, hP2⟩ : ∃ P, zs ++ [59] = P := ⟨_, rfl⟩
  have HP2 : Hid ((P1 ++ holT s.hol) ++ [59] = P2) := by unfold Hid; rw [hzs, hP2]
  have l2 : P2.length ≤ 200001 := by rw [← hP2, List.length_append, List.length_singleton]; omega
  rw [hP2]
  clear hzs
  have HB5 := hbr
  clear hbr
  clear hP2 S1 hlen tl hlt sc
  go_loopw [3, 5] (fun v y WR => ∃ i : Nat, v = .string (tBy (P2 ++ useT (s.used.take i))) ∧ y = .int .i64 i ∧ i ≤ s.used.length ∧ Hid (Below X.heap.size X WR)) (fun _ y _ => 20000 - (intOf y).toNat)
  case atStart => exact ⟨0, by simp [useT], rfl, by omega, HB5⟩
  case round =>
   clear HB5
   obtain ⟨i, rfl, rfl, hi', hbr⟩ := hrel
   have hlen : (P2 ++ useT (s.used.take i)).length ≤ 300000 := by
    unfold useT
    rw [List.length_append, List.length_map, List.length_take]
    omega
   have gr := GS.out.then_ hbr.out
   have sc : wr.cell? ⟨bs, 2, none⟩ = some (.slice q.u s.used.length q.uc) := gr.cell 2
   by_cases hlt : i < s.used.length
   case pos =>
    have tl : decide ((i : Int) < (s.used.length : Int)) = true := qzO (by omega)
    obtain ⟨n, hn⟩ : ∃ n, s.used[i]? = some n := ⟨_, qzJ hlt⟩
    obtain ⟨b0, o0, eA0, hb0, hc0⟩ := xAx ((HS.out.then_ (xAa HB.out hbr.out)).u) hn
    have hix := fun W => xAq (t := 40) (size := 1) (cap := q.uc) eA0 hlt (by kernel_rfl) (fun W => by kernel_rfl) W
    have d0 : wr.cell? ⟨b0, o0 + i, none⟩ = some (.bool n) := by simpa using hc0 0 _ rfl
    simp only [Nat.mul_one] at hix
    obtain ⟨zs, hzs⟩ : ∃ zs, P2 ++ useT (s.used.take i) = zs := ⟨_, rfl⟩
    have HSN : Hid (tBy (P2 ++ useT (s.used.take (i + 1))) = tBy (zs ++ [if n then 49 else 48])) := by
     unfold Hid
     rw [← hzs, List.take_add_one, hn]
     simp [useT]
    rw [hzs] at hlen ⊢
    clear hc0 eA0 hn hzs gr
    have hbn := hbr
    cases n with
    | true =>
     have S1 : ∀ W, (Op.stringOp .add (tBy zs) ⟨#[49]⟩).run Tryz.prog W = .ok (.string (tBy (zs ++ [49]))) W := fun W => sadd zs [49] (by simp only [List.length_cons, List.length_nil]; omega) W
     go_wp2
     go_roundw
     case rel => exact ⟨i + 1, by rw [HSN.out]; rfl, by simp, by omega, hbn⟩
     case measure => simp [intOf]; omega
    | false =>
     have S1 : ∀ W, (Op.stringOp .add (tBy zs) ⟨#[48]⟩).run Tryz.prog W = .ok (.string (tBy (zs ++ [48]))) W := fun W => sadd zs [48] (by simp only [List.length_cons, List.length_nil]; omega) W
     go_wp2
     go_roundw
     case rel => exact ⟨i + 1, by rw [HSN.out]; rfl, by simp, by omega, hbn⟩
     case measure => simp [intOf]; omega
   obtain rfl : i = s.used.length := by omega
   have tl : decide (((s.used.length : Nat) : Int) < ((s.used.length : Nat) : Int)) = false := qzN (by omega)
   rw [List.take_length] at hlen ⊢
   obtain ⟨zs, hzs⟩ : ∃ z, P2 ++ useT s.used = z := ⟨_, rfl⟩
   rw [hzs] at hlen ⊢
   have S1 : ∀ W, (Op.stringOp .add (tBy zs) ⟨#[59]⟩).run Tryz.prog W = .ok (.string (tBy (zs ++ [59]))) W := fun W => sadd zs [59] (by simp only [List.length_cons, List.length_nil]; omega) W
   clear gr
   go_upto_region 15 with (fail)
   obtain ⟨P3, hP3⟩ : ∃ P, zs ++ [59] = P := ⟨_, rfl⟩
   have HP3 : Hid ((P2 ++ useT s.used) ++ [59] = P3) := by unfold Hid; rw [hzs, hP3]
   have l3 : P3.length ≤ 300001 := by rw [← hP3, List.length_append, List.length_singleton]; omega
   rw [hP3]
   clear hzs
   have HB5 := hbr
   clear hbr
   clear hP3 S1 hlen tl hlt sc
   go_loopw [3, 6] (fun v y WR => ∃ i : Nat, v = .string (tBy (P3 ++ mkT (s.marks.take i))) ∧ y = .int .i64 i ∧ i ≤ s.marks.length ∧ Hid (Below X.heap.size X WR)) (fun _ y _ => 20000 - (intOf y).toNat)
   case atStart => exact ⟨0, by simp [mkT], rfl, by omega, HB5⟩
   case round =>
    clear HB5
    obtain ⟨i, rfl, rfl, hi', hbr⟩ := hrel
    have hlen : (P3 ++ mkT (s.marks.take i)).length ≤ 760000 := by
     have := mkT_len (l := s.marks.take i) fun n hn => HI.out.marks n (List.mem_of_mem_take hn)
     rw [List.length_append]
     rw [List.length_take] at this
     omega
    have gr := GS.out.then_ hbr.out
    have sc : wr.cell? ⟨bs, 3, none⟩ = some (.slice q.m s.marks.length q.mc) := gr.cell 3
    by_cases hlt : i < s.marks.length
    case pos =>
     have tl : decide ((i : Int) < (s.marks.length : Int)) = true := qzO (by omega)
     obtain ⟨n, hn⟩ : ∃ n, s.marks[i]? = some n := ⟨_, qzJ hlt⟩
     obtain ⟨b0, o0, eA0, hb0, hc0⟩ := xAx ((HS.out.then_ (xAa HB.out hbr.out)).m) hn
     have hix := fun W => xAq (t := 41) (size := 5) (cap := q.mc) eA0 hlt (by kernel_rfl) (fun W => by kernel_rfl) W
     have hnJ := HI.out.marks n (qzK hn)
     have hrg : wr.rangeAt b0 (o0 + i * 5) (mL n) := fun j v hv => hc0 j v hv
     have k1 := xBq hnJ.st
     have k2 := xBq hnJ.left
     have k3 := xBq hnJ.got
     have k4 := xBq hnJ.brr
     obtain ⟨zs, hzs⟩ : ∃ zs, P3 ++ mkT (s.marks.take i) = zs := ⟨_, rfl⟩
     have HSN : Hid (tBy (P3 ++ mkT (s.marks.take (i + 1))) = tBy (((((((zs ++ Lib.itoa n.st) ++ [46]) ++ Lib.itoa n.left) ++ [46]) ++ Lib.itoa n.got) ++ [46]) ++ Lib.itoa n.brr ++ ((if n.pau then [112] else []) ++ [44]))) := by
      unfold Hid
      rw [← hzs, List.take_add_one, hn]
      simp [mkT, Mk.text]
     rw [hzs] at hlen ⊢
     have HQ1 := qzL (fun W => xCj n.st W hnJ.st)
     have HQ2 := qzL (fun W => xCj n.left W hnJ.left)
     have HQ3 := qzL (fun W => xCj n.got W hnJ.got)
     have HQ4 := qzL (fun W => xCj n.brr W hnJ.brr)
     clear hc0 eA0 hn hzs hnJ
     go_upto_region 18 with ((refine xAo 46 elM _ _ _ rfl rfl rfl rfl rfl rfl rfl rfl rfl b0 _ rfl (mL n) rfl hrg (by simp [Value.oneCell']) (by decide) (by simp) (by simp) ?_; simp only [Act.put, qzG, qzH, qzI]))
     refine xAf ?_
     intro V hV
     have gm : Blk V wr.heap.size 46 (mA n) := by rw [hV]; exact Blk.new _ _ _
     have HBV : Hid (Below X.heap.size X V) := by rw [hV]; exact xAa hbr.out (wa1 _ _)
     obtain ⟨bm, ebm⟩ : ∃ b, wr.heap.size = b := ⟨_, rfl⟩
     rw [ebm] at gm ⊢
     have GM := qzL gm
     clear hV ebm hrg hix hb0 hbr gr sc tl gm
     have m0 : V.cell? ⟨bm, 0, none⟩ = some (.int .i64 n.st) := GM.out.cell 0
     have m1 : V.cell? ⟨bm, 1, none⟩ = some (.int .i64 n.left) := GM.out.cell 1
     have m2 : V.cell? ⟨bm, 2, none⟩ = some (.int .i64 n.got) := GM.out.cell 2
     have m3 : V.cell? ⟨bm, 3, none⟩ = some (.int .i64 n.brr) := GM.out.cell 3
     have E0 := fun W => sadd zs (Lib.itoa n.st) (by omega) W
     obtain ⟨x0, hx0⟩ : ∃ x, zs ++ Lib.itoa n.st = x := ⟨_, rfl⟩
     have lx0 : x0.length ≤ 760000 + 22 * 0 + 21 := by rw [← hx0, List.length_append]; omega
     rw [hx0] at E0 HSN
     have D1 : ∀ W, (Op.stringOp .add (tBy x0) ⟨#[46]⟩).run Tryz.prog W = .ok (.string (tBy (x0 ++ [46]))) W := fun W => sadd x0 [46] (by simp only [List.length_cons, List.length_nil]; omega) W
     obtain ⟨y1, hy1⟩ : ∃ y, x0 ++ [46] = y := ⟨_, rfl⟩
     have ly1 : y1.length ≤ 760000 + 22 * 1 := by rw [← hy1, List.length_append, List.length_singleton]; omega
     rw [hy1] at D1 HSN
     have E1 := fun W => sadd y1 (Lib.itoa n.left) (by omega) W
     obtain ⟨x1, hx1⟩ : ∃ x, y1 ++ Lib.itoa n.left = x := ⟨_, rfl⟩
     have lx1 : x1.length ≤ 760000 + 22 * 1 + 21 := by rw [← hx1, List.length_append]; omega
     rw [hx1] at E1 HSN
     have D2 : ∀ W, (Op.stringOp .add (tBy x1) ⟨#[46]⟩).run Tryz.prog W = .ok (.string (tBy (x1 ++ [46]))) W := fun W => sadd x1 [46] (by simp only [List.length_cons, List.length_nil]; omega) W
     obtain ⟨y2, hy2⟩ : ∃ y, x1 ++ [46] = y := ⟨_, rfl⟩
     have ly2 : y2.length ≤ 760000 + 22 * 2 := by rw [← hy2, List.length_append, List.length_singleton]; omega
     rw [hy2] at D2 HSN
     have E2 := fun W => sadd y2 (Lib.itoa n.got) (by omega) W
     obtain ⟨x2, hx2⟩ : ∃ x, y2 ++ Lib.itoa n.got = x := ⟨_, rfl⟩
     have lx2 : x2.length ≤ 760000 + 22 * 2 + 21 := by rw [← hx2, List.length_append]; omega
     rw [hx2] at E2 HSN
     have D3 : ∀ W, (Op.stringOp .add (tBy x2) ⟨#[46]⟩).run Tryz.prog W = .ok (.string (tBy (x2 ++ [46]))) W := fun W => sadd x2 [46] (by simp only [List.length_cons, List.length_nil]; omega) W
     obtain ⟨y3, hy3⟩ : ∃ y, x2 ++ [46] = y := ⟨_, rfl⟩
     have ly3 : y3.length ≤ 760000 + 22 * 3 := by rw [← hy3, List.length_append, List.length_singleton]; omega
     rw [hy3] at D3 HSN
     have E3 := fun W => sadd y3 (Lib.itoa n.brr) (by omega) W
     obtain ⟨x3, hx3⟩ : ∃ x, y3 ++ Lib.itoa n.brr = x := ⟨_, rfl⟩
     have lx3 : x3.length ≤ 760000 + 22 * 3 + 21 := by rw [← hx3, List.length_append]; omega
     rw [hx3] at E3 HSN
     clear hx0 hx1 hx2 hx3 hy1 hy2 hy3
     have rg0 := cR m0
     have rg1 := cR m1
     have rg2 := cR m2
     have rg3 := cR m3
     refine xAe [0, 1, 2, 3, 4, 5, 6, 7, 8, 9, 10, 11, 12, 13, 14, 15, 16, 17, 18, 19] [20] (by kernel_rfl) (by kernel_rfl) pO ?_
     simp only [xAm, qzA, qzB, qzC, qzD, qzE, qzF]
     repeat (go_big_quiet_step ((go_at_call 46; first | with_reducible exact xAp (fun W' _ => HQ1.out W') _ _ | with_reducible exact xAp (fun W' _ => HQ2.out W') _ _ | with_reducible exact xAp (fun W' _ => HQ3.out W') _ _ | with_reducible exact xAp (fun W' _ => HQ4.out W') _ _)))
     refine wpQuiet_nil ?_
     intro Z hw2
     have hbZ := xAh hw2
     clear hw2 rg0 rg1 rg2 rg3
     clear E0 E1 E2 E3 D1 D2 D3 m0 m1 m2 m3 HQ1 HQ2 HQ3 HQ4
     have m4 : Z.cell? ⟨bm, 4, none⟩ = some (.bool n.pau) := (GM.out.then_ hbZ).cell 4
     have hbn := qzL (xAa HBV.out hbZ)
     obtain ⟨pv, hpv⟩ : ∃ p, n.pau = p := ⟨_, rfl⟩
     rw [hpv] at HSN m4
     clear hbZ HBV GM hpv
     cases pv with
     | true =>
      have S1 : ∀ W, (Op.stringOp .add (tBy x3) ⟨#[112]⟩).run Tryz.prog W = .ok (.string (tBy (x3 ++ [112]))) W := fun W => sadd x3 [112] (by simp only [List.length_cons, List.length_nil]; omega) W
      obtain ⟨x5, hx5⟩ : ∃ x, x3 ++ [112] = x := ⟨_, rfl⟩
      have lx5 : x5.length ≤ 800000 := by rw [← hx5, List.length_append, List.length_singleton]; omega
      rw [hx5] at S1
      have HX5 := qzL hx5
      clear hx5
      have S2 : ∀ W, (Op.stringOp .add (tBy x5) ⟨#[44]⟩).run Tryz.prog W = .ok (.string (tBy (x5 ++ [44]))) W := fun W => sadd x5 [44] (by simp only [List.length_cons, List.length_nil]; omega) W
      go_wp2
      go_roundw
      case rel => exact ⟨i + 1, by rw [HSN.out, ← HX5.out]; simp, by simp, by omega, hbn⟩
      case measure => simp [intOf]; omega
     | false =>
      have S1 : ∀ W, (Op.stringOp .add (tBy x3) ⟨#[44]⟩).run Tryz.prog W = .ok (.string (tBy (x3 ++ [44]))) W := fun W => sadd x3 [44] (by simp only [List.length_cons, List.length_nil]; omega) W
      go_wp2
      go_roundw
      case rel => exact ⟨i + 1, by rw [HSN.out]; rfl, by simp, by omega, hbn⟩
      case measure => simp [intOf]; omega
    obtain rfl : i = s.marks.length := by omega
    have tl : decide (((s.marks.length : Nat) : Int) < ((s.marks.length : Nat) : Int)) = false := qzN (by omega)
    rw [List.take_length] at hlen ⊢
    have hfin : P3 ++ mkT s.marks = T := by
     rw [← HTX.out, ← HP3.out, ← HP2.out, ← HP1.out]
     unfold Sta.text
     simp
    rw [hfin]
    clear hfin hlen tl hlt gr
    go_wp2
    go_ret
    exact ⟨rfl, xAa HB.out hbr.out⟩
end Go.Proofs.YtginnonjdbpamaaGreatDoor
