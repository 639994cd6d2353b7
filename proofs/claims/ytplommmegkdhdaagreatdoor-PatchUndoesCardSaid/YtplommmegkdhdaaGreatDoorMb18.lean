/- Contracts of functions and plain laws, joined: Px1. -/
import Derived.Test.YtplommmegkdhdaaGreatDoorMb15
import Derived.Test.YtplommmegkdhdaaGreatDoorMb16
import Derived.Test.YtplommmegkdhdaaGreatDoorMb11
/- The walk of patch.Parse. -/
namespace Go.Proofs.YtplommmegkdhdaaGreatDoor
open Go.RowKit

def ParR (w0 : World) (sb : Rs) (kd dy za zb zc zd ze zf zg zh zi zj zk zl : Int) (bu fi wv : Bool) (cl : List Int) (st : List (Int × Int)) (x : Ending) (w' : World) : Prop :=
  ((sb.bad = true ∨ sb.rest ≠ [] → x = .returned (.tuple #[.agg paZ, .int .i64 6])) ∧
      (¬ (sb.bad = true ∨ sb.rest ≠ []) → ∃ (A1 A2 : Option Addr) (k1 k2 : Nat), x = .returned (.tuple #[.agg (pcs kd (.slice A1 cl.length k1) za zb zc zd (.slice A2 st.length k2) ze zf bu fi zg zh zi zj zk zl wv dy), .int .i64 0]) ∧ cl.length ≤ k1 ∧ st.length ≤ k2 ∧ Seg w' w'.heap.size 1 eI A1 cl ∧ Seg w' w'.heap.size 2 eS A2 st)) ∧ Below w0.heap.size w0 w'
theorem cut_patch (t : List UInt8) : Ending.returned (.tuple #[.string ⟨(Lib.trimPrefix (bA t).data.toList (⟨#[112, 97, 116, 99, 104]⟩ : ByteArray).data.toList).toArray⟩, .bool (Lib.hasPrefix (bA t).data.toList (⟨#[112, 97, 116, 99, 104]⟩ : ByteArray).data.toList)]) = .returned (.tuple #[.string (bA (parseR t).rest), .bool (!(parseR t).bad)]) := by
  show Ending.returned (.tuple #[.string ⟨(Lib.trimPrefix t pword).toArray⟩, .bool (Lib.hasPrefix t pword)]) = _
  unfold parseR Lib.trimPrefix Lib.hasPrefix
  cases h : pword.isPrefixOf t
  · rfl
  · rfl
theorem parseR_len (t : List UInt8) : (parseR t).rest.length ≤ t.length := by
  unfold parseR
  split
  · simp
  · exact Nat.le_refl _
theorem zero_cond : (Tryz.prog.info? 76).map (fun i => (i.zero, i.size, i.bytes)) = some (some (.agg #[.int .i64 0, .int .i64 0]), 2, 16) := by kernel_rfl
theorem one_cond (y : Int × Int) : ∀ u ∈ eS y, u.oneCell' = true := by
  intro u hu
  simp only [eS, List.mem_cons, List.not_mem_nil, or_false] at hu
  rcases hu with rfl | rfl <;> rfl
theorem many_len (n : Nat) (s : Rs) : (Rs.many n s).1.length = n := by
  induction n with
  | zero => rfl
  | succ n ih => simp only [Rs.many, List.length_append, ih, List.length_singleton]
theorem pairs_len (n : Nat) (s : Rs) : (Rs.pairs n s).1.length = n := by
  induction n with
  | zero => rfl
  | succ n ih => simp only [Rs.pairs, List.length_append, ih, List.length_singleton]
theorem zero_int : (Tryz.prog.info? 3).map (fun i => (i.zero, i.size, i.bytes)) = some (some (.int .i64 0), 1, 8) := by kernel_rfl
theorem one_intT (y : Int) : ∀ u ∈ eI y, u.oneCell' = true := by
  intro u hu
  simp only [eI, List.mem_cons, List.not_mem_nil, or_false] at hu
  rw [hu]; rfl
theorem name_k {K : Act → World → Prop} {a : Act} {w : World} (h : ∀ V, V = w → K a V) : K a w := h _ rfl
set_option maxRecDepth 100000 in
set_option maxHeartbeats 6400000 in
theorem parse_key (w0 : World) (hL : Lw w0) (t : List UInt8) (ht : t.length ≤ 1000000)
    (s0 s1 s2 s3 s4 t1 t2 t3 t4 t5 s5 s6 s7 u1 u2 u3 u4 u5 s8 s9 sa sb : Rs) (kd dy za zb zc zd ze zf zg zh zi zj zk zl f1 f2 f3 : Int) (N M : Nat) (bu fi wv : Bool) (cl : List Int) (st : List (Int × Int))
    (h0 : parseR t = s0) (E1 : Hid (s0.num = (kd, s1))) (E2 : Hid (s1.num = (dy, s2))) (E3 : Hid (s2.upTo 400 = ((N : Int), s3))) (hN : N ≤ 400) (E4 : Hid (Rs.many N s3 = (cl, s4)))
    (Ea : Hid (s4.num = (za, t1))) (Eb : Hid (t1.num = (zb, t2))) (Ec : Hid (t2.num = (zc, t3))) (Ed : Hid (t3.num = (zd, t4))) (Ee : Hid (t4.num = (ze, t5))) (Ef : Hid (t5.num = (zf, s5)))
    (E5 : Hid (s5.upTo 1 = (f1, s6))) (B5 : Hid ((f1 == 1) = bu)) (E6 : Hid (s6.upTo 1 = (f2, s7))) (B6 : Hid ((f2 == 1) = fi))
    (Eg : Hid (s7.num = (zg, u1))) (Eh : Hid (u1.num = (zh, u2))) (Ei : Hid (u2.num = (zi, u3))) (Ej : Hid (u3.num = (zj, u4))) (Ek : Hid (u4.num = (zk, u5))) (El : Hid (u5.num = (zl, s8)))
    (E8 : Hid (s8.upTo 1 = (f3, s9))) (B8 : Hid ((f3 == 1) = wv)) (E9 : Hid (s9.upTo 8 = ((M : Int), sa))) (hM : M ≤ 8) (Eq : Hid (Rs.pairs M sa = (st, sb))) :
    Calls Tryz.prog 16 #[.string (bA t)] w0 fun x w' => ParR w0 sb kd dy za zb zc zd ze zf zg zh zi zj zk zl bu fi wv cl st x w' := by
  have HL := Lib.hid hL
  obtain ⟨ri, hi, hz0, hz1, hz2⟩ := info_parts zero_int
  obtain ⟨rc, hc, hy0, hy1, hy2⟩ := info_parts zero_cond
  have HCUT : ∀ W : World, Calls Tryz.prog 31 #[.string (bA t), .string ⟨#[112, 97, 116, 99, 104]⟩] W fun e w' => e = .returned (.tuple #[.string (bA s0.rest), .bool (!s0.bad)]) ∧ W = w' := fun W => by
    refine (Tryz.strings_CutPrefix (bA t) ⟨#[112, 97, 116, 99, 104]⟩ W).mono ?_
    rintro e w' ⟨h1, h2⟩
    refine ⟨?_, h2.symm⟩
    rw [h1, ← h0]
    exact cut_patch t
  have h0l : s0.rest.length ≤ 1000000 := by rw [← h0]; exact Nat.le_trans (parseR_len t) ht
  have HCUT := Lib.hid HCUT
  have hrd : rdA s0 = #[.string (bA s0.rest), .bool (!(!s0.bad))] := by rw [Bool.not_not]
  have HRD := Lib.hid hrd
  have H0L := Lib.hid h0l
  clear hL h0 hrd h0l ht
  go_enter Tryz.func16, Tryz.ntmps16
  go_upto_region 2 with (go_at_call 31; (with_reducible refine (HCUT.out _).mono ?_); rintro e w1 ⟨rfl, rfl⟩)
  go_upto_region 6 with (fail)
  refine name_wp ?_
  intro Y hY
  have gA : Blk Y w0.heap.size 34 paZ := by rw [hY]; exact (((blk_at (by simp)).alloc _).alloc _).alloc _
  have gR : Blk Y (w0.heap.size + 1) 83 (rdA s0) := by rw [hY]; exact ((blk_at (by simp)).alloc _).alloc _
  have gX : Blk Y (w0.heap.size + 2) 81 #[.pointer (some ⟨w0.heap.size + 1, 0, none⟩)] := by rw [hY]; exact (blk_at (by simp)).alloc _
  have gP : Blk Y (w0.heap.size + 3) 34 paZ := by rw [hY]; exact blk_at (by simp)
  have hbY : Below w0.heap.size w0 Y := by rw [hY]; (repeat (first | with_reducible assumption | with_reducible exact Below.refl _ _ | with_reducible refine below_drewN ?_ _ | with_reducible refine Below.drew ?_ | with_reducible refine below_alloc ?_ _ | with_reducible refine Below.setCell ?_ (by first | omega | (simp; done) | (simp; omega)) _ | with_reducible refine below_then ?_ (by with_reducible assumption) | (refine below_then (a := World.drew _) ?_ (by with_reducible assumption))))
  clear hY HRD
  obtain ⟨P, eP⟩ : ∃ b, w0.heap.size + 3 = b := ⟨_, rfl⟩
  obtain ⟨X, eX⟩ : ∃ b, w0.heap.size + 2 = b := ⟨_, rfl⟩
  obtain ⟨R, eR⟩ : ∃ b, w0.heap.size + 1 = b := ⟨_, rfl⟩
  obtain ⟨A, eA⟩ : ∃ b, w0.heap.size = b := ⟨_, rfl⟩
  have D : Hid (Ds w0 A R X P) := ⟨by omega, by omega, by omega, by omega, by omega, by omega, by omega, by omega, by omega⟩
  obtain ⟨B, eB⟩ : ∃ b, P + 1 = b := ⟨_, rfl⟩
  have HR : Hid (R < B) := by unfold Hid; omega
  have HPB : Hid (P < B) := by unfold Hid; omega
  have HB0 : Hid (w0.heap.size ≤ B) := by unfold Hid; omega
  have HA0 : Hid (A < B) := by unfold Hid; omega
  have HX0 : Hid (X < B) := by unfold Hid; omega
  rw [eP] at gP ⊢
  rw [eX] at gX ⊢
  rw [eR] at gR gX ⊢
  rw [eA] at gA ⊢
  have HS : Hid (PsW w0 Y A R X P (pcs 0 (.slice none 0 0) 0 0 0 0 (.slice none 0 0) 0 0 false false 0 0 0 0 0 0 false 0) s0 ∧ B ≤ Y.heap.size) := ⟨⟨gA, gR, gX, gP, hbY, H0L.out⟩, by have := gP.lt; omega⟩
  clear gA gR gX gP hbY H0L HCUT eA eR eX eP eB
  go_upto_region 7 with (go_at_call 32; (with_reducible refine (HS.out.1.num HL.out D.out E1.out).mono ?_); rintro e w1 ⟨rfl, hp1, hk1⟩; have cc0 : w1.cell? ⟨P, 0, none⟩ = some (.int .i64 0) := hp1.p.cell 0; have zz0 : w1.frozen? ⟨P, 0, none⟩ = false := hp1.p.frozen 0; have lP := hp1.p.lt)
  refine name_wp ?_
  intro Y0 hY
  have HT : Hid (PsW w0 Y0 A R X P (pcs kd (.slice none 0 0) 0 0 0 0 (.slice none 0 0) 0 0 false false 0 0 0 0 0 0 false 0) s1 ∧ B ≤ Y0.heap.size) := by rw [hY]; exact ⟨hp1.set D.out 0 _ rfl, by simpa using Nat.le_trans (HS.out.2) hk1.size⟩
  clear hY hp1 hk1 cc0 zz0 lP HS
  have HS := HT
  clear HT
  go_upto_region 8 with (go_at_call 32; (with_reducible refine (HS.out.1.num HL.out D.out E2.out).mono ?_); rintro e w1 ⟨rfl, hp1, hk1⟩; have cc18 : w1.cell? ⟨P, 18, none⟩ = some (.int .i64 0) := hp1.p.cell 18; have zz18 : w1.frozen? ⟨P, 18, none⟩ = false := hp1.p.frozen 18; have lP := hp1.p.lt)
  refine name_wp ?_
  intro Y1 hY
  have HT : Hid (PsW w0 Y1 A R X P (pcs kd (.slice none 0 0) 0 0 0 0 (.slice none 0 0) 0 0 false false 0 0 0 0 0 0 false dy) s2 ∧ B ≤ Y1.heap.size) := by rw [hY]; exact ⟨hp1.set D.out 18 _ rfl, by simpa using Nat.le_trans (HS.out.2) hk1.size⟩
  clear hY hp1 hk1 cc18 zz18 lP HS
  have HS := HT
  clear HT
  have cx : Y1.cell? ⟨X, 0, none⟩ = some (.pointer (some ⟨R, 0, none⟩)) := HS.out.1.x.cell 0
  go_upto_region 9 with (go_at_call 34; (with_reducible refine (HS.out.1.up HL.out D.out 400 E3.out).mono ?_); rintro e w1 ⟨rfl, hp1, hk1⟩)
  clear cx
  have HT : Hid (PsW w0 w1 A R X P (pcs kd (.slice none 0 0) 0 0 0 0 (.slice none 0 0) 0 0 false false 0 0 0 0 0 0 false dy) s3 ∧ B ≤ w1.heap.size) := ⟨hp1, Nat.le_trans (HS.out.2) hk1.size⟩
  clear hp1 hk1 HS
  have HS := HT
  clear HT
  obtain ⟨Y2, rfl⟩ : ∃ W, W = w1 := ⟨_, rfl⟩
  go_loopw [37] (fun y WR => ∃ (i : Nat) (v : Value), i ≤ N ∧ y = .int .i64 i ∧ Hid (PsW w0 WR A R X P (pcs kd v 0 0 0 0 (.slice none 0 0) 0 0 false false 0 0 0 0 0 0 false dy) (Rs.many i s3).2 ∧ Own WR B 3 1 eI v (Rs.many i s3).1 ∧ B ≤ WR.heap.size)) (fun y _ => 2000000 - (intOf y).toNat)
  case atStart => exact ⟨0, .slice none 0 0, by omega, rfl, ⟨HS.out.1, Own.nil _ _ _ _ _, HS.out.2⟩⟩
  case round =>
    clear HS
    obtain ⟨i, v, hi', rfl, HW⟩ := hrel
    obtain ⟨q, r, eq⟩ : ∃ q r, (Rs.many i s3).2.num = (q, r) := ⟨_, _, rfl⟩
    have HE := Lib.hid eq
    clear eq
    by_cases hlt : i < N
    · have tn : decide ((i : Int) < (N : Int)) = true := decide_eq_true (by omega)
      have hwi := wrap_small (n := i) (by omega)
      have HW1 : Hid (Rs.many (i + 1) s3 = ((Rs.many i s3).1 ++ [q], r)) := by unfold Hid; simp only [Rs.many, HE.out]
      have hlen : (Rs.many i s3).1.length ≤ 1000000 := by rw [many_len]; omega
      go_upto_region 10 with (fail)
      refine wp_region_hb (fun w' => Hid (Blk w' P 34 (pcs kd v 0 0 0 0 (.slice none 0 0) 0 0 false false 0 0 0 0 0 0 false dy))) [0, 1, 2, 3, 4] [5, 6, 7] (by kernel_rfl) (by kernel_rfl) (by repeat (first | with_reducible refine panOk_then ?_ | with_reducible refine panOk_block ?_ | exact panOk_body)) (Lib.hid HW.out.1.p) (fun hdir hsel hpan hHeld => ?_)
      refine wpHB_take (i := 0) (oi := ⟨some 39, _, _, _, _, _⟩) hdir hsel hpan rfl (by kernel_rfl) (by kernel_rfl) (by kernel_rfl) (Or.inl ⟨by rfl, fun _ _ => by rfl⟩) (by assumption) ?_
      try simp only [Act.put, List.setIfInBounds_toArray, List.set_cons_zero, List.set_cons_succ]
      refine wpHB_take (i := 1) (oi := ⟨some 40, _, _, _, _, _⟩) (v := v) hdir hsel hpan rfl (by kernel_rfl) (by kernel_rfl) (by kernel_rfl) (Or.inl ⟨by rfl, fun w hw => by have hc := (hw.out).cell 1; go_simp⟩) (by assumption) ?_
      try simp only [Act.put, List.setIfInBounds_toArray, List.set_cons_zero, List.set_cons_succ]
      refine wpHB_take (i := 2) (oi := ⟨some 41, _, _, _, _, _⟩) hdir hsel hpan rfl (by kernel_rfl) (by kernel_rfl) (by kernel_rfl) (Or.inl ⟨by rfl, fun _ _ => by rfl⟩) (by assumption) ?_
      try simp only [Act.put, List.setIfInBounds_toArray, List.set_cons_zero, List.set_cons_succ]
      refine wpHB_ready (rs := [3]) (by kernel_rfl) (by simp) ?_
      refine AllHB.cons (by kernel_rfl) (o := ⟨some 42, _, _, _, _, _⟩) rfl (fun K hK => ?_) AllHB.nil
      go_simp
      (go_at_call 32; (with_reducible refine (((HW.out.1.then_ (Below.drew (Below.refl _ _)))).num HL.out D.out HE.out).mono ?_); rintro e wa ⟨rfl, hpa, hka⟩)
      refine hK.out _ _ (Lib.hid hpa.p) (fun hHeld2 => ?_)
      clear hK K hHeld
      have hHeld := hHeld2
      clear hHeld2
      try simp only [Act.put, List.setIfInBounds_toArray, List.set_cons_zero, List.set_cons_succ]
      refine wpHB_ready (rs := [4]) (by kernel_rfl) (by simp) ?_
      refine AllHB.cons (by kernel_rfl) (o := ⟨some 43, _, _, _, _, _⟩) rfl (fun K hK => ?_) AllHB.nil
      go_simp
      refine name_k ?_
      intro Vb hVb
      have gb : Blk Vb wa.heap.size 3 (eI q).toArray := by rw [hVb]; exact Blk.new _ _ _
      have hbb : Below wa.heap.size wa Vb := by rw [hVb]; exact wa1 _ _
      have hpb := hpa.then_ hbb
      have hOb := (Own.kp (W := wr.drew) HW.out.2.1 hka HR.out).below hbb
      have lBb : B ≤ Vb.heap.size := Nat.le_trans HW.out.2.2 (Nat.le_trans hka.size hbb.size)
      refine hK.out _ _ (Lib.hid hpb.p) (fun hHeld2 => ?_)
      clear hK K hHeld
      have hHeld := hHeld2
      clear hHeld2
      try simp only [Act.put, List.setIfInBounds_toArray, List.set_cons_zero, List.set_cons_succ]
      refine wpHB_tail (by kernel_rfl) (by kernel_rfl) ?_
      clear hdir hsel hpan
      simp only [opsAt, List.getElem?_toArray, List.getElem?_cons_succ, List.getElem?_cons_zero, Option.toList_some, List.cons_append, List.nil_append]
      at_builtin
      go_loud (refine wpList_app _ rfl (.tmp 40) (.tmp 43) _ rfl B 3 ri _ 1 8 Tryz.underlying22 hi hz0 hz1 hz2 rfl (by omega) (by omega) eI eI_len one_intT _ (Rs.many i s3).1 rfl hOb hlen wa.heap.size 1 q rfl gb lBb ?_)
      intro v4 w4 hO4 hb4 hg4
      have hp4 := hpb.grown hOb (by decide) (by decide) (by decide) hg4 (hb4.mono HB0.out)
      have cc : w4.cell? ⟨P, 1, none⟩ = some v := hp4.p.cell 1
      have zz : w4.frozen? ⟨P, 1, none⟩ = false := hp4.p.frozen 1
      have lP := hp4.p.lt
      obtain ⟨A4, n4, c4, rfl⟩ := own_open hO4
      have HF : Hid (∀ W, W = w4.setCell ⟨P, 1, none⟩ (.slice A4 n4 c4) → (PsW w0 W A R X P (pcs kd (.slice A4 n4 c4) 0 0 0 0 (.slice none 0 0) 0 0 false false 0 0 0 0 0 0 false dy) (Rs.many (i + 1) s3).2 ∧ Own W B 3 1 eI (.slice A4 n4 c4) (Rs.many (i + 1) s3).1 ∧ B ≤ W.heap.size)) := fun W hW => by rw [hW, HW1.out]; exact ⟨hp4.set D.out 1 _ rfl, hO4.setBelow (p := ⟨P, 1, none⟩) HPB.out _, by simpa using Nat.le_trans lBb hb4.size⟩
      clear hO4 hb4 hg4 hp4 gb lBb hOb hpb hbb hpa hka hVb
      go_wp2
      first | exact ⟨⟨i + 1, _, by omega, rfl, HF.out _ rfl⟩, by simp [intOf]; omega⟩ | (go_roundw; (case rel => exact ⟨i + 1, _, by omega, rfl, HF.out _ rfl⟩); (case measure => simp [intOf]; omega))
    · have tn : decide ((i : Int) < (N : Int)) = false := decide_eq_false (by omega)
      obtain rfl : i = N := by omega
      rw [E4.out] at HW
      clear HE tn hlt hi'
      have HS : Hid (PsW w0 wr A R X P (pcs kd v 0 0 0 0 (.slice none 0 0) 0 0 false false 0 0 0 0 0 0 false dy) s4 ∧ Own wr B 3 1 eI v cl ∧ B ≤ wr.heap.size) := HW
      clear HW
      go_upto_region 13 with (fail)
      refine wp_region_hb (fun w' => True) [0, 1, 2, 3, 4, 5, 6, 7, 8, 9, 10, 11, 12, 13, 14, 15, 16, 17, 18, 19, 20] [] (by kernel_rfl) (by kernel_rfl) (by repeat (first | with_reducible refine panOk_then ?_ | with_reducible refine panOk_block ?_ | exact panOk_body)) trivial (fun hdir hsel hpan hHeld => ?_)
      refine wpHB_take (i := 0) (oi := ⟨some 48, _, _, _, _, _⟩) hdir hsel hpan rfl (by kernel_rfl) (by kernel_rfl) (by kernel_rfl) (Or.inl ⟨by rfl, fun _ _ => by rfl⟩) (by assumption) ?_
      try simp only [Act.put, List.setIfInBounds_toArray, List.set_cons_zero, List.set_cons_succ]
      refine wpHB_take (i := 1) (oi := ⟨some 49, _, _, _, _, _⟩) hdir hsel hpan rfl (by kernel_rfl) (by kernel_rfl) (by kernel_rfl) (Or.inl ⟨by rfl, fun _ _ => by rfl⟩) (by assumption) ?_
      try simp only [Act.put, List.setIfInBounds_toArray, List.set_cons_zero, List.set_cons_succ]
      refine wpHB_take (i := 2) (oi := ⟨some 50, _, _, _, _, _⟩) hdir hsel hpan rfl (by kernel_rfl) (by kernel_rfl) (by kernel_rfl) (Or.inl ⟨by rfl, fun _ _ => by rfl⟩) (by assumption) ?_
      try simp only [Act.put, List.setIfInBounds_toArray, List.set_cons_zero, List.set_cons_succ]
      refine wpHB_take (i := 3) (oi := ⟨some 51, _, _, _, _, _⟩) hdir hsel hpan rfl (by kernel_rfl) (by kernel_rfl) (by kernel_rfl) (Or.inl ⟨by rfl, fun _ _ => by rfl⟩) (by assumption) ?_
      try simp only [Act.put, List.setIfInBounds_toArray, List.set_cons_zero, List.set_cons_succ]
      refine wpHB_take (i := 4) (oi := ⟨some 52, _, _, _, _, _⟩) hdir hsel hpan rfl (by kernel_rfl) (by kernel_rfl) (by kernel_rfl) (Or.inl ⟨by rfl, fun _ _ => by rfl⟩) (by assumption) ?_
      try simp only [Act.put, List.setIfInBounds_toArray, List.set_cons_zero, List.set_cons_succ]
      refine wpHB_take (i := 5) (oi := ⟨some 53, _, _, _, _, _⟩) hdir hsel hpan rfl (by kernel_rfl) (by kernel_rfl) (by kernel_rfl) (Or.inl ⟨by rfl, fun _ _ => by rfl⟩) (by assumption) ?_
      try simp only [Act.put, List.setIfInBounds_toArray, List.set_cons_zero, List.set_cons_succ]
      refine wpHB_take (i := 6) (oi := ⟨some 54, _, _, _, _, _⟩) hdir hsel hpan rfl (by kernel_rfl) (by kernel_rfl) (by kernel_rfl) (Or.inl ⟨by rfl, fun _ _ => by rfl⟩) (by assumption) ?_
      try simp only [Act.put, List.setIfInBounds_toArray, List.set_cons_zero, List.set_cons_succ]
      refine wpHB_take (i := 7) (oi := ⟨some 55, _, _, _, _, _⟩) hdir hsel hpan rfl (by kernel_rfl) (by kernel_rfl) (by kernel_rfl) (Or.inl ⟨by rfl, fun _ _ => by rfl⟩) (by assumption) ?_
      try simp only [Act.put, List.setIfInBounds_toArray, List.set_cons_zero, List.set_cons_succ]
      refine wpHB_take (i := 8) (oi := ⟨some 56, _, _, _, _, _⟩) hdir hsel hpan rfl (by kernel_rfl) (by kernel_rfl) (by kernel_rfl) (Or.inl ⟨by rfl, fun _ _ => by rfl⟩) (by assumption) ?_
      try simp only [Act.put, List.setIfInBounds_toArray, List.set_cons_zero, List.set_cons_succ]
      refine wpHB_take (i := 9) (oi := ⟨some 57, _, _, _, _, _⟩) hdir hsel hpan rfl (by kernel_rfl) (by kernel_rfl) (by kernel_rfl) (Or.inl ⟨by rfl, fun _ _ => by rfl⟩) (by assumption) ?_
      try simp only [Act.put, List.setIfInBounds_toArray, List.set_cons_zero, List.set_cons_succ]
      refine wpHB_take (i := 10) (oi := ⟨some 58, _, _, _, _, _⟩) hdir hsel hpan rfl (by kernel_rfl) (by kernel_rfl) (by kernel_rfl) (Or.inl ⟨by rfl, fun _ _ => by rfl⟩) (by assumption) ?_
      try simp only [Act.put, List.setIfInBounds_toArray, List.set_cons_zero, List.set_cons_succ]
      refine wpHB_take (i := 11) (oi := ⟨some 59, _, _, _, _, _⟩) hdir hsel hpan rfl (by kernel_rfl) (by kernel_rfl) (by kernel_rfl) (Or.inl ⟨by rfl, fun _ _ => by rfl⟩) (by assumption) ?_
      try simp only [Act.put, List.setIfInBounds_toArray, List.set_cons_zero, List.set_cons_succ]
      refine wpHB_take (i := 12) (oi := ⟨some 60, _, _, _, _, _⟩) hdir hsel hpan rfl (by kernel_rfl) (by kernel_rfl) (by kernel_rfl) (Or.inl ⟨by rfl, fun _ _ => by rfl⟩) (by assumption) ?_
      try simp only [Act.put, List.setIfInBounds_toArray, List.set_cons_zero, List.set_cons_succ]
      refine wpHB_take (i := 13) (oi := ⟨some 61, _, _, _, _, _⟩) hdir hsel hpan rfl (by kernel_rfl) (by kernel_rfl) (by kernel_rfl) (Or.inl ⟨by rfl, fun _ _ => by rfl⟩) (by assumption) ?_
      try simp only [Act.put, List.setIfInBounds_toArray, List.set_cons_zero, List.set_cons_succ]
      refine wpHB_take (i := 14) (oi := ⟨some 62, _, _, _, _, _⟩) hdir hsel hpan rfl (by kernel_rfl) (by kernel_rfl) (by kernel_rfl) (Or.inl ⟨by rfl, fun _ _ => by rfl⟩) (by assumption) ?_
      try simp only [Act.put, List.setIfInBounds_toArray, List.set_cons_zero, List.set_cons_succ]
      refine wpHB_take (i := 15) (oi := ⟨some 63, _, _, _, _, _⟩) hdir hsel hpan rfl (by kernel_rfl) (by kernel_rfl) (by kernel_rfl) (Or.inl ⟨by rfl, fun _ _ => by rfl⟩) (by assumption) ?_
      try simp only [Act.put, List.setIfInBounds_toArray, List.set_cons_zero, List.set_cons_succ]
      refine wpHB_take (i := 16) (oi := ⟨some 64, _, _, _, _, _⟩) hdir hsel hpan rfl (by kernel_rfl) (by kernel_rfl) (by kernel_rfl) (Or.inl ⟨by rfl, fun _ _ => by rfl⟩) (by assumption) ?_
      try simp only [Act.put, List.setIfInBounds_toArray, List.set_cons_zero, List.set_cons_succ]
      refine wpHB_take (i := 17) (oi := ⟨some 65, _, _, _, _, _⟩) hdir hsel hpan rfl (by kernel_rfl) (by kernel_rfl) (by kernel_rfl) (Or.inl ⟨by rfl, fun _ _ => by rfl⟩) (by assumption) ?_
      try simp only [Act.put, List.setIfInBounds_toArray, List.set_cons_zero, List.set_cons_succ]
      refine wpHB_take (i := 20) (oi := ⟨some 68, _, _, _, _, _⟩) hdir hsel hpan rfl (by kernel_rfl) (by kernel_rfl) (by kernel_rfl) (Or.inl ⟨by rfl, fun _ _ => by rfl⟩) (by assumption) ?_
      try simp only [Act.put, List.setIfInBounds_toArray, List.set_cons_zero, List.set_cons_succ]
      refine wpHB_ready (rs := [18]) (by kernel_rfl) (by simp) ?_
      refine AllHB.cons (by kernel_rfl) (o := ⟨some 66, _, _, _, _, _⟩) rfl (fun K hK => ?_) AllHB.nil
      go_simp
      refine name_k ?_
      intro Vp hV
      have gqp : Blk Vp wr.heap.size 87 #[.pointer (some ⟨P, 2, none⟩), .pointer (some ⟨P, 3, none⟩), .pointer (some ⟨P, 4, none⟩), .pointer (some ⟨P, 5, none⟩), .pointer (some ⟨P, 7, none⟩), .pointer (some ⟨P, 8, none⟩)] := by rw [hV]; exact Blk.new _ _ _
      have hbq : Below wr.heap.size wr Vp := by rw [hV]; exact (Below.drew (Below.refl _ _)).alloc (Nat.le_refl _) _
      clear hV
      refine hK.out _ _ trivial (fun hHeld2 => ?_)
      clear hK K hHeld
      have hHeld := hHeld2
      clear hHeld2
      try simp only [Act.put, List.setIfInBounds_toArray, List.set_cons_zero, List.set_cons_succ]
      refine wpHB_take (i := 19) (oi := ⟨some 67, _, _, _, _, _⟩) (v := .int .i64 6) hdir hsel hpan rfl (by kernel_rfl) (by kernel_rfl) (by kernel_rfl) (Or.inl ⟨by rfl, fun w hw => by go_simp⟩) (by assumption) ?_
      try simp only [Act.put, List.setIfInBounds_toArray, List.set_cons_zero, List.set_cons_succ]
      refine wpHB_tail (by kernel_rfl) (by kernel_rfl) ?_
      clear hdir hsel hpan
      simp only [opsAt]
      go_upto_region 14 with (fail)
      have HT : Hid (PsW w0 Vp A R X P (pcs kd v 0 0 0 0 (.slice none 0 0) 0 0 false false 0 0 0 0 0 0 false dy) s4 ∧ Own Vp B 3 1 eI v cl ∧ B ≤ Vp.heap.size) := ⟨PsW.then_ (HS.out.1) hbq, Own.below (HS.out.2.1) hbq, Nat.le_trans (HS.out.2.2) hbq.size⟩
      have LQ0 : Hid (B ≤ wr.heap.size) := HS.out.2.2
      obtain ⟨qp, eqp⟩ : ∃ b, wr.heap.size = b := ⟨_, rfl⟩
      rw [eqp] at gqp LQ0
      have LQ := LQ0
      have GQ := Lib.hid gqp
      try rw [eqp]
      clear LQ0 HS hbq gqp eqp
      have HS := HT
      clear HT
      go_loopw [12, 68] (fun p y WR => (y = .int .i64 0 ∧ Hid (PsW w0 WR A R X P (pcs kd v 0 0 0 0 (.slice none 0 0) 0 0 false false 0 0 0 0 0 0 false dy) s4 ∧ Own WR B 3 1 eI v cl ∧ Blk WR qp 87 #[.pointer (some ⟨P, 2, none⟩), .pointer (some ⟨P, 3, none⟩), .pointer (some ⟨P, 4, none⟩), .pointer (some ⟨P, 5, none⟩), .pointer (some ⟨P, 7, none⟩), .pointer (some ⟨P, 8, none⟩)] ∧ B ≤ WR.heap.size)) ∨ (y = .int .i64 1 ∧ Hid (PsW w0 WR A R X P (pcs kd v za 0 0 0 (.slice none 0 0) 0 0 false false 0 0 0 0 0 0 false dy) t1 ∧ Own WR B 3 1 eI v cl ∧ Blk WR qp 87 #[.pointer (some ⟨P, 2, none⟩), .pointer (some ⟨P, 3, none⟩), .pointer (some ⟨P, 4, none⟩), .pointer (some ⟨P, 5, none⟩), .pointer (some ⟨P, 7, none⟩), .pointer (some ⟨P, 8, none⟩)] ∧ B ≤ WR.heap.size)) ∨ (y = .int .i64 2 ∧ Hid (PsW w0 WR A R X P (pcs kd v za zb 0 0 (.slice none 0 0) 0 0 false false 0 0 0 0 0 0 false dy) t2 ∧ Own WR B 3 1 eI v cl ∧ Blk WR qp 87 #[.pointer (some ⟨P, 2, none⟩), .pointer (some ⟨P, 3, none⟩), .pointer (some ⟨P, 4, none⟩), .pointer (some ⟨P, 5, none⟩), .pointer (some ⟨P, 7, none⟩), .pointer (some ⟨P, 8, none⟩)] ∧ B ≤ WR.heap.size)) ∨ (y = .int .i64 3 ∧ Hid (PsW w0 WR A R X P (pcs kd v za zb zc 0 (.slice none 0 0) 0 0 false false 0 0 0 0 0 0 false dy) t3 ∧ Own WR B 3 1 eI v cl ∧ Blk WR qp 87 #[.pointer (some ⟨P, 2, none⟩), .pointer (some ⟨P, 3, none⟩), .pointer (some ⟨P, 4, none⟩), .pointer (some ⟨P, 5, none⟩), .pointer (some ⟨P, 7, none⟩), .pointer (some ⟨P, 8, none⟩)] ∧ B ≤ WR.heap.size)) ∨ (y = .int .i64 4 ∧ Hid (PsW w0 WR A R X P (pcs kd v za zb zc zd (.slice none 0 0) 0 0 false false 0 0 0 0 0 0 false dy) t4 ∧ Own WR B 3 1 eI v cl ∧ Blk WR qp 87 #[.pointer (some ⟨P, 2, none⟩), .pointer (some ⟨P, 3, none⟩), .pointer (some ⟨P, 4, none⟩), .pointer (some ⟨P, 5, none⟩), .pointer (some ⟨P, 7, none⟩), .pointer (some ⟨P, 8, none⟩)] ∧ B ≤ WR.heap.size)) ∨ (y = .int .i64 5 ∧ Hid (PsW w0 WR A R X P (pcs kd v za zb zc zd (.slice none 0 0) ze 0 false false 0 0 0 0 0 0 false dy) t5 ∧ Own WR B 3 1 eI v cl ∧ Blk WR qp 87 #[.pointer (some ⟨P, 2, none⟩), .pointer (some ⟨P, 3, none⟩), .pointer (some ⟨P, 4, none⟩), .pointer (some ⟨P, 5, none⟩), .pointer (some ⟨P, 7, none⟩), .pointer (some ⟨P, 8, none⟩)] ∧ B ≤ WR.heap.size)) ∨ (y = .int .i64 6 ∧ Hid (PsW w0 WR A R X P (pcs kd v za zb zc zd (.slice none 0 0) ze zf false false 0 0 0 0 0 0 false dy) s5 ∧ Own WR B 3 1 eI v cl ∧ Blk WR qp 87 #[.pointer (some ⟨P, 2, none⟩), .pointer (some ⟨P, 3, none⟩), .pointer (some ⟨P, 4, none⟩), .pointer (some ⟨P, 5, none⟩), .pointer (some ⟨P, 7, none⟩), .pointer (some ⟨P, 8, none⟩)] ∧ B ≤ WR.heap.size))) (fun _ y _ => 100 - (intOf y).toNat)
      case atStart => exact .inl ⟨rfl, ⟨HS.out.1, HS.out.2.1, GQ.out, HS.out.2.2⟩⟩
      case round =>
        clear HS GQ
        rcases hrel with ⟨rfl, HW⟩ | ⟨rfl, HW⟩ | ⟨rfl, HW⟩ | ⟨rfl, HW⟩ | ⟨rfl, HW⟩ | ⟨rfl, HW⟩ | ⟨rfl, HW⟩
        · have cq : wr.cell? ⟨qp, 0, none⟩ = some (.pointer (some ⟨P, 2, none⟩)) := (HW.out.2.2.1).cell 0
          go_wp2_with (go_at_call 32; (with_reducible refine ((HW.out.1).num HL.out D.out Ea.out).mono ?_); rintro e w1 ⟨rfl, hp1, hk1⟩; have cc2 : w1.cell? ⟨P, 2, none⟩ = some (.int .i64 0) := hp1.p.cell 2; have zz2 : w1.frozen? ⟨P, 2, none⟩ = false := hp1.p.frozen 2; have lP := hp1.p.lt)
          first | exact ⟨.inr (.inl ⟨rfl, ⟨hp1.set D.out 2 _ rfl, (Own.kp (HW.out.2.1) hk1 HR.out).setBelow (p := ⟨P, 2, none⟩) HPB.out _, (hk1.blk (HW.out.2.2.1) (by have := HR.out; have := LQ.out; omega) (by have := HR.out; have := LQ.out; omega)).far (p := ⟨P, 2, none⟩) (by have := HPB.out; have := LQ.out; intro h; simp only at h; omega) _, by simpa using Nat.le_trans (HW.out.2.2.2) hk1.size⟩⟩), by simp [intOf]⟩ | (go_roundw; (case rel => exact .inr (.inl ⟨rfl, ⟨hp1.set D.out 2 _ rfl, (Own.kp (HW.out.2.1) hk1 HR.out).setBelow (p := ⟨P, 2, none⟩) HPB.out _, (hk1.blk (HW.out.2.2.1) (by have := HR.out; have := LQ.out; omega) (by have := HR.out; have := LQ.out; omega)).far (p := ⟨P, 2, none⟩) (by have := HPB.out; have := LQ.out; intro h; simp only at h; omega) _, by simpa using Nat.le_trans (HW.out.2.2.2) hk1.size⟩⟩)); (case measure => simp [intOf]))
        · have cq : wr.cell? ⟨qp, 1, none⟩ = some (.pointer (some ⟨P, 3, none⟩)) := (HW.out.2.2.1).cell 1
          go_wp2_with (go_at_call 32; (with_reducible refine ((HW.out.1).num HL.out D.out Eb.out).mono ?_); rintro e w1 ⟨rfl, hp1, hk1⟩; have cc3 : w1.cell? ⟨P, 3, none⟩ = some (.int .i64 0) := hp1.p.cell 3; have zz3 : w1.frozen? ⟨P, 3, none⟩ = false := hp1.p.frozen 3; have lP := hp1.p.lt)
          first | exact ⟨.inr (.inr (.inl ⟨rfl, ⟨hp1.set D.out 3 _ rfl, (Own.kp (HW.out.2.1) hk1 HR.out).setBelow (p := ⟨P, 3, none⟩) HPB.out _, (hk1.blk (HW.out.2.2.1) (by have := HR.out; have := LQ.out; omega) (by have := HR.out; have := LQ.out; omega)).far (p := ⟨P, 3, none⟩) (by have := HPB.out; have := LQ.out; intro h; simp only at h; omega) _, by simpa using Nat.le_trans (HW.out.2.2.2) hk1.size⟩⟩)), by simp [intOf]⟩ | (go_roundw; (case rel => exact .inr (.inr (.inl ⟨rfl, ⟨hp1.set D.out 3 _ rfl, (Own.kp (HW.out.2.1) hk1 HR.out).setBelow (p := ⟨P, 3, none⟩) HPB.out _, (hk1.blk (HW.out.2.2.1) (by have := HR.out; have := LQ.out; omega) (by have := HR.out; have := LQ.out; omega)).far (p := ⟨P, 3, none⟩) (by have := HPB.out; have := LQ.out; intro h; simp only at h; omega) _, by simpa using Nat.le_trans (HW.out.2.2.2) hk1.size⟩⟩))); (case measure => simp [intOf]))
        · have cq : wr.cell? ⟨qp, 2, none⟩ = some (.pointer (some ⟨P, 4, none⟩)) := (HW.out.2.2.1).cell 2
          go_wp2_with (go_at_call 32; (with_reducible refine ((HW.out.1).num HL.out D.out Ec.out).mono ?_); rintro e w1 ⟨rfl, hp1, hk1⟩; have cc4 : w1.cell? ⟨P, 4, none⟩ = some (.int .i64 0) := hp1.p.cell 4; have zz4 : w1.frozen? ⟨P, 4, none⟩ = false := hp1.p.frozen 4; have lP := hp1.p.lt)
          first | exact ⟨.inr (.inr (.inr (.inl ⟨rfl, ⟨hp1.set D.out 4 _ rfl, (Own.kp (HW.out.2.1) hk1 HR.out).setBelow (p := ⟨P, 4, none⟩) HPB.out _, (hk1.blk (HW.out.2.2.1) (by have := HR.out; have := LQ.out; omega) (by have := HR.out; have := LQ.out; omega)).far (p := ⟨P, 4, none⟩) (by have := HPB.out; have := LQ.out; intro h; simp only at h; omega) _, by simpa using Nat.le_trans (HW.out.2.2.2) hk1.size⟩⟩))), by simp [intOf]⟩ | (go_roundw; (case rel => exact .inr (.inr (.inr (.inl ⟨rfl, ⟨hp1.set D.out 4 _ rfl, (Own.kp (HW.out.2.1) hk1 HR.out).setBelow (p := ⟨P, 4, none⟩) HPB.out _, (hk1.blk (HW.out.2.2.1) (by have := HR.out; have := LQ.out; omega) (by have := HR.out; have := LQ.out; omega)).far (p := ⟨P, 4, none⟩) (by have := HPB.out; have := LQ.out; intro h; simp only at h; omega) _, by simpa using Nat.le_trans (HW.out.2.2.2) hk1.size⟩⟩)))); (case measure => simp [intOf]))
        · have cq : wr.cell? ⟨qp, 3, none⟩ = some (.pointer (some ⟨P, 5, none⟩)) := (HW.out.2.2.1).cell 3
          go_wp2_with (go_at_call 32; (with_reducible refine ((HW.out.1).num HL.out D.out Ed.out).mono ?_); rintro e w1 ⟨rfl, hp1, hk1⟩; have cc5 : w1.cell? ⟨P, 5, none⟩ = some (.int .i64 0) := hp1.p.cell 5; have zz5 : w1.frozen? ⟨P, 5, none⟩ = false := hp1.p.frozen 5; have lP := hp1.p.lt)
          first | exact ⟨.inr (.inr (.inr (.inr (.inl ⟨rfl, ⟨hp1.set D.out 5 _ rfl, (Own.kp (HW.out.2.1) hk1 HR.out).setBelow (p := ⟨P, 5, none⟩) HPB.out _, (hk1.blk (HW.out.2.2.1) (by have := HR.out; have := LQ.out; omega) (by have := HR.out; have := LQ.out; omega)).far (p := ⟨P, 5, none⟩) (by have := HPB.out; have := LQ.out; intro h; simp only at h; omega) _, by simpa using Nat.le_trans (HW.out.2.2.2) hk1.size⟩⟩)))), by simp [intOf]⟩ | (go_roundw; (case rel => exact .inr (.inr (.inr (.inr (.inl ⟨rfl, ⟨hp1.set D.out 5 _ rfl, (Own.kp (HW.out.2.1) hk1 HR.out).setBelow (p := ⟨P, 5, none⟩) HPB.out _, (hk1.blk (HW.out.2.2.1) (by have := HR.out; have := LQ.out; omega) (by have := HR.out; have := LQ.out; omega)).far (p := ⟨P, 5, none⟩) (by have := HPB.out; have := LQ.out; intro h; simp only at h; omega) _, by simpa using Nat.le_trans (HW.out.2.2.2) hk1.size⟩⟩))))); (case measure => simp [intOf]))
        · have cq : wr.cell? ⟨qp, 4, none⟩ = some (.pointer (some ⟨P, 7, none⟩)) := (HW.out.2.2.1).cell 4
          go_wp2_with (go_at_call 32; (with_reducible refine ((HW.out.1).num HL.out D.out Ee.out).mono ?_); rintro e w1 ⟨rfl, hp1, hk1⟩; have cc7 : w1.cell? ⟨P, 7, none⟩ = some (.int .i64 0) := hp1.p.cell 7; have zz7 : w1.frozen? ⟨P, 7, none⟩ = false := hp1.p.frozen 7; have lP := hp1.p.lt)
          first | exact ⟨.inr (.inr (.inr (.inr (.inr (.inl ⟨rfl, ⟨hp1.set D.out 7 _ rfl, (Own.kp (HW.out.2.1) hk1 HR.out).setBelow (p := ⟨P, 7, none⟩) HPB.out _, (hk1.blk (HW.out.2.2.1) (by have := HR.out; have := LQ.out; omega) (by have := HR.out; have := LQ.out; omega)).far (p := ⟨P, 7, none⟩) (by have := HPB.out; have := LQ.out; intro h; simp only at h; omega) _, by simpa using Nat.le_trans (HW.out.2.2.2) hk1.size⟩⟩))))), by simp [intOf]⟩ | (go_roundw; (case rel => exact .inr (.inr (.inr (.inr (.inr (.inl ⟨rfl, ⟨hp1.set D.out 7 _ rfl, (Own.kp (HW.out.2.1) hk1 HR.out).setBelow (p := ⟨P, 7, none⟩) HPB.out _, (hk1.blk (HW.out.2.2.1) (by have := HR.out; have := LQ.out; omega) (by have := HR.out; have := LQ.out; omega)).far (p := ⟨P, 7, none⟩) (by have := HPB.out; have := LQ.out; intro h; simp only at h; omega) _, by simpa using Nat.le_trans (HW.out.2.2.2) hk1.size⟩⟩)))))); (case measure => simp [intOf]))
        · have cq : wr.cell? ⟨qp, 5, none⟩ = some (.pointer (some ⟨P, 8, none⟩)) := (HW.out.2.2.1).cell 5
          go_wp2_with (go_at_call 32; (with_reducible refine ((HW.out.1).num HL.out D.out Ef.out).mono ?_); rintro e w1 ⟨rfl, hp1, hk1⟩; have cc8 : w1.cell? ⟨P, 8, none⟩ = some (.int .i64 0) := hp1.p.cell 8; have zz8 : w1.frozen? ⟨P, 8, none⟩ = false := hp1.p.frozen 8; have lP := hp1.p.lt)
          first | exact ⟨.inr (.inr (.inr (.inr (.inr (.inr (⟨rfl, ⟨hp1.set D.out 8 _ rfl, (Own.kp (HW.out.2.1) hk1 HR.out).setBelow (p := ⟨P, 8, none⟩) HPB.out _, (hk1.blk (HW.out.2.2.1) (by have := HR.out; have := LQ.out; omega) (by have := HR.out; have := LQ.out; omega)).far (p := ⟨P, 8, none⟩) (by have := HPB.out; have := LQ.out; intro h; simp only at h; omega) _, by simpa using Nat.le_trans (HW.out.2.2.2) hk1.size⟩⟩)))))), by simp [intOf]⟩ | (go_roundw; (case rel => exact .inr (.inr (.inr (.inr (.inr (.inr (⟨rfl, ⟨hp1.set D.out 8 _ rfl, (Own.kp (HW.out.2.1) hk1 HR.out).setBelow (p := ⟨P, 8, none⟩) HPB.out _, (hk1.blk (HW.out.2.2.1) (by have := HR.out; have := LQ.out; omega) (by have := HR.out; have := LQ.out; omega)).far (p := ⟨P, 8, none⟩) (by have := HPB.out; have := LQ.out; intro h; simp only at h; omega) _, by simpa using Nat.le_trans (HW.out.2.2.2) hk1.size⟩⟩))))))); (case measure => simp [intOf]))
        · have HS : Hid (PsW w0 wr A R X P (pcs kd v za zb zc zd (.slice none 0 0) ze zf false false 0 0 0 0 0 0 false dy) s5 ∧ Own wr B 3 1 eI v cl ∧ B ≤ wr.heap.size) := ⟨HW.out.1, HW.out.2.1, HW.out.2.2.2⟩
          clear HW LQ
          go_upto_region 19 with (go_at_call 33; (with_reducible refine (HS.out.1.flag HL.out D.out E5.out B5.out).mono ?_); rintro e w1 ⟨rfl, hp1, hk1⟩; have cc9 : w1.cell? ⟨P, 9, none⟩ = some (.bool false) := hp1.p.cell 9; have zz9 : w1.frozen? ⟨P, 9, none⟩ = false := hp1.p.frozen 9; have lP := hp1.p.lt)
          refine name_wp ?_
          intro Y3 hY
          have HT : Hid (PsW w0 Y3 A R X P (pcs kd v za zb zc zd (.slice none 0 0) ze zf bu false 0 0 0 0 0 0 false dy) s6 ∧ Own Y3 B 3 1 eI v cl ∧ B ≤ Y3.heap.size) := by rw [hY]; exact ⟨hp1.set D.out 9 _ rfl, (Own.kp (HS.out.2.1) hk1 HR.out).setBelow (p := ⟨P, 9, none⟩) HPB.out _, by simpa using Nat.le_trans (HS.out.2.2) hk1.size⟩
          clear hY hp1 hk1 cc9 zz9 lP HS
          have HS := HT
          clear HT
          go_upto_region 20 with (go_at_call 33; (with_reducible refine (HS.out.1.flag HL.out D.out E6.out B6.out).mono ?_); rintro e w1 ⟨rfl, hp1, hk1⟩; have cc10 : w1.cell? ⟨P, 10, none⟩ = some (.bool false) := hp1.p.cell 10; have zz10 : w1.frozen? ⟨P, 10, none⟩ = false := hp1.p.frozen 10; have lP := hp1.p.lt)
          refine name_wp ?_
          intro Y4 hY
          have HT : Hid (PsW w0 Y4 A R X P (pcs kd v za zb zc zd (.slice none 0 0) ze zf bu fi 0 0 0 0 0 0 false dy) s7 ∧ Own Y4 B 3 1 eI v cl ∧ B ≤ Y4.heap.size) := by rw [hY]; exact ⟨hp1.set D.out 10 _ rfl, (Own.kp (HS.out.2.1) hk1 HR.out).setBelow (p := ⟨P, 10, none⟩) HPB.out _, by simpa using Nat.le_trans (HS.out.2.2) hk1.size⟩
          clear hY hp1 hk1 cc10 zz10 lP HS
          have HS := HT
          clear HT
          refine wp_region_hb (fun w' => True) [0, 1, 2, 3, 4, 5, 6, 7, 8, 9, 10, 11, 12, 13, 14, 15, 16, 17, 18, 19, 20, 21, 22] [] (by kernel_rfl) (by kernel_rfl) (by repeat (first | with_reducible refine panOk_then ?_ | with_reducible refine panOk_block ?_ | exact panOk_body)) trivial (fun hdir hsel hpan hHeld => ?_)
          refine wpHB_take (i := 0) (oi := ⟨some 87, _, _, _, _, _⟩) hdir hsel hpan rfl (by kernel_rfl) (by kernel_rfl) (by kernel_rfl) (Or.inl ⟨by rfl, fun _ _ => by rfl⟩) (by assumption) ?_
          try simp only [Act.put, List.setIfInBounds_toArray, List.set_cons_zero, List.set_cons_succ]
          refine wpHB_take (i := 1) (oi := ⟨some 88, _, _, _, _, _⟩) hdir hsel hpan rfl (by kernel_rfl) (by kernel_rfl) (by kernel_rfl) (Or.inl ⟨by rfl, fun _ _ => by rfl⟩) (by assumption) ?_
          try simp only [Act.put, List.setIfInBounds_toArray, List.set_cons_zero, List.set_cons_succ]
          refine wpHB_take (i := 2) (oi := ⟨some 89, _, _, _, _, _⟩) hdir hsel hpan rfl (by kernel_rfl) (by kernel_rfl) (by kernel_rfl) (Or.inl ⟨by rfl, fun _ _ => by rfl⟩) (by assumption) ?_
          try simp only [Act.put, List.setIfInBounds_toArray, List.set_cons_zero, List.set_cons_succ]
          refine wpHB_take (i := 3) (oi := ⟨some 90, _, _, _, _, _⟩) hdir hsel hpan rfl (by kernel_rfl) (by kernel_rfl) (by kernel_rfl) (Or.inl ⟨by rfl, fun _ _ => by rfl⟩) (by assumption) ?_
          try simp only [Act.put, List.setIfInBounds_toArray, List.set_cons_zero, List.set_cons_succ]
          refine wpHB_take (i := 4) (oi := ⟨some 91, _, _, _, _, _⟩) hdir hsel hpan rfl (by kernel_rfl) (by kernel_rfl) (by kernel_rfl) (Or.inl ⟨by rfl, fun _ _ => by rfl⟩) (by assumption) ?_
          try simp only [Act.put, List.setIfInBounds_toArray, List.set_cons_zero, List.set_cons_succ]
          refine wpHB_take (i := 5) (oi := ⟨some 92, _, _, _, _, _⟩) hdir hsel hpan rfl (by kernel_rfl) (by kernel_rfl) (by kernel_rfl) (Or.inl ⟨by rfl, fun _ _ => by rfl⟩) (by assumption) ?_
          try simp only [Act.put, List.setIfInBounds_toArray, List.set_cons_zero, List.set_cons_succ]
          refine wpHB_take (i := 6) (oi := ⟨some 93, _, _, _, _, _⟩) hdir hsel hpan rfl (by kernel_rfl) (by kernel_rfl) (by kernel_rfl) (Or.inl ⟨by rfl, fun _ _ => by rfl⟩) (by assumption) ?_
          try simp only [Act.put, List.setIfInBounds_toArray, List.set_cons_zero, List.set_cons_succ]
          refine wpHB_take (i := 7) (oi := ⟨some 94, _, _, _, _, _⟩) hdir hsel hpan rfl (by kernel_rfl) (by kernel_rfl) (by kernel_rfl) (Or.inl ⟨by rfl, fun _ _ => by rfl⟩) (by assumption) ?_
          try simp only [Act.put, List.setIfInBounds_toArray, List.set_cons_zero, List.set_cons_succ]
          refine wpHB_take (i := 8) (oi := ⟨some 95, _, _, _, _, _⟩) hdir hsel hpan rfl (by kernel_rfl) (by kernel_rfl) (by kernel_rfl) (Or.inl ⟨by rfl, fun _ _ => by rfl⟩) (by assumption) ?_
          try simp only [Act.put, List.setIfInBounds_toArray, List.set_cons_zero, List.set_cons_succ]
          refine wpHB_take (i := 9) (oi := ⟨some 96, _, _, _, _, _⟩) hdir hsel hpan rfl (by kernel_rfl) (by kernel_rfl) (by kernel_rfl) (Or.inl ⟨by rfl, fun _ _ => by rfl⟩) (by assumption) ?_
          try simp only [Act.put, List.setIfInBounds_toArray, List.set_cons_zero, List.set_cons_succ]
          refine wpHB_take (i := 10) (oi := ⟨some 97, _, _, _, _, _⟩) hdir hsel hpan rfl (by kernel_rfl) (by kernel_rfl) (by kernel_rfl) (Or.inl ⟨by rfl, fun _ _ => by rfl⟩) (by assumption) ?_
          try simp only [Act.put, List.setIfInBounds_toArray, List.set_cons_zero, List.set_cons_succ]
          refine wpHB_take (i := 11) (oi := ⟨some 98, _, _, _, _, _⟩) hdir hsel hpan rfl (by kernel_rfl) (by kernel_rfl) (by kernel_rfl) (Or.inl ⟨by rfl, fun _ _ => by rfl⟩) (by assumption) ?_
          try simp only [Act.put, List.setIfInBounds_toArray, List.set_cons_zero, List.set_cons_succ]
          refine wpHB_take (i := 12) (oi := ⟨some 99, _, _, _, _, _⟩) hdir hsel hpan rfl (by kernel_rfl) (by kernel_rfl) (by kernel_rfl) (Or.inl ⟨by rfl, fun _ _ => by rfl⟩) (by assumption) ?_
          try simp only [Act.put, List.setIfInBounds_toArray, List.set_cons_zero, List.set_cons_succ]
          refine wpHB_take (i := 13) (oi := ⟨some 100, _, _, _, _, _⟩) hdir hsel hpan rfl (by kernel_rfl) (by kernel_rfl) (by kernel_rfl) (Or.inl ⟨by rfl, fun _ _ => by rfl⟩) (by assumption) ?_
          try simp only [Act.put, List.setIfInBounds_toArray, List.set_cons_zero, List.set_cons_succ]
          refine wpHB_take (i := 14) (oi := ⟨some 101, _, _, _, _, _⟩) hdir hsel hpan rfl (by kernel_rfl) (by kernel_rfl) (by kernel_rfl) (Or.inl ⟨by rfl, fun _ _ => by rfl⟩) (by assumption) ?_
          try simp only [Act.put, List.setIfInBounds_toArray, List.set_cons_zero, List.set_cons_succ]
          refine wpHB_take (i := 15) (oi := ⟨some 102, _, _, _, _, _⟩) hdir hsel hpan rfl (by kernel_rfl) (by kernel_rfl) (by kernel_rfl) (Or.inl ⟨by rfl, fun _ _ => by rfl⟩) (by assumption) ?_
          try simp only [Act.put, List.setIfInBounds_toArray, List.set_cons_zero, List.set_cons_succ]
          refine wpHB_take (i := 16) (oi := ⟨some 103, _, _, _, _, _⟩) hdir hsel hpan rfl (by kernel_rfl) (by kernel_rfl) (by kernel_rfl) (Or.inl ⟨by rfl, fun _ _ => by rfl⟩) (by assumption) ?_
          try simp only [Act.put, List.setIfInBounds_toArray, List.set_cons_zero, List.set_cons_succ]
          refine wpHB_take (i := 17) (oi := ⟨some 104, _, _, _, _, _⟩) hdir hsel hpan rfl (by kernel_rfl) (by kernel_rfl) (by kernel_rfl) (Or.inl ⟨by rfl, fun _ _ => by rfl⟩) (by assumption) ?_
          try simp only [Act.put, List.setIfInBounds_toArray, List.set_cons_zero, List.set_cons_succ]
          refine wpHB_take (i := 18) (oi := ⟨some 105, _, _, _, _, _⟩) hdir hsel hpan rfl (by kernel_rfl) (by kernel_rfl) (by kernel_rfl) (Or.inl ⟨by rfl, fun _ _ => by rfl⟩) (by assumption) ?_
          try simp only [Act.put, List.setIfInBounds_toArray, List.set_cons_zero, List.set_cons_succ]
          refine wpHB_take (i := 19) (oi := ⟨some 106, _, _, _, _, _⟩) hdir hsel hpan rfl (by kernel_rfl) (by kernel_rfl) (by kernel_rfl) (Or.inl ⟨by rfl, fun _ _ => by rfl⟩) (by assumption) ?_
          try simp only [Act.put, List.setIfInBounds_toArray, List.set_cons_zero, List.set_cons_succ]
          refine wpHB_take (i := 22) (oi := ⟨some 109, _, _, _, _, _⟩) hdir hsel hpan rfl (by kernel_rfl) (by kernel_rfl) (by kernel_rfl) (Or.inl ⟨by rfl, fun _ _ => by rfl⟩) (by assumption) ?_
          try simp only [Act.put, List.setIfInBounds_toArray, List.set_cons_zero, List.set_cons_succ]
          refine wpHB_ready (rs := [20]) (by kernel_rfl) (by simp) ?_
          refine AllHB.cons (by kernel_rfl) (o := ⟨some 107, _, _, _, _, _⟩) rfl (fun K hK => ?_) AllHB.nil
          go_simp
          refine name_k ?_
          intro Vr hV
          have gqr : Blk Vr Y4.heap.size 87 #[.pointer (some ⟨P, 11, none⟩), .pointer (some ⟨P, 12, none⟩), .pointer (some ⟨P, 13, none⟩), .pointer (some ⟨P, 14, none⟩), .pointer (some ⟨P, 15, none⟩), .pointer (some ⟨P, 16, none⟩)] := by rw [hV]; exact Blk.new _ _ _
          have hbq : Below Y4.heap.size Y4 Vr := by rw [hV]; exact (Below.drew (Below.refl _ _)).alloc (Nat.le_refl _) _
          clear hV
          refine hK.out _ _ trivial (fun hHeld2 => ?_)
          clear hK K hHeld
          have hHeld := hHeld2
          clear hHeld2
          try simp only [Act.put, List.setIfInBounds_toArray, List.set_cons_zero, List.set_cons_succ]
          refine wpHB_take (i := 21) (oi := ⟨some 108, _, _, _, _, _⟩) (v := .int .i64 6) hdir hsel hpan rfl (by kernel_rfl) (by kernel_rfl) (by kernel_rfl) (Or.inl ⟨by rfl, fun w hw => by go_simp⟩) (by assumption) ?_
          try simp only [Act.put, List.setIfInBounds_toArray, List.set_cons_zero, List.set_cons_succ]
          refine wpHB_tail (by kernel_rfl) (by kernel_rfl) ?_
          clear hdir hsel hpan
          simp only [opsAt]
          go_upto_region 21 with (fail)
          have HT : Hid (PsW w0 Vr A R X P (pcs kd v za zb zc zd (.slice none 0 0) ze zf bu fi 0 0 0 0 0 0 false dy) s7 ∧ Own Vr B 3 1 eI v cl ∧ B ≤ Vr.heap.size) := ⟨PsW.then_ (HS.out.1) hbq, Own.below (HS.out.2.1) hbq, Nat.le_trans (HS.out.2.2) hbq.size⟩
          have LQ0 : Hid (B ≤ Y4.heap.size) := HS.out.2.2
          obtain ⟨qr, eqr⟩ : ∃ b, Y4.heap.size = b := ⟨_, rfl⟩
          rw [eqr] at gqr LQ0
          have LQ := LQ0
          have GQ := Lib.hid gqr
          try rw [eqr]
          clear LQ0 HS hbq gqr eqr
          have HS := HT
          clear HT
          go_loopw [14, 109] (fun p y WR => (y = .int .i64 0 ∧ Hid (PsW w0 WR A R X P (pcs kd v za zb zc zd (.slice none 0 0) ze zf bu fi 0 0 0 0 0 0 false dy) s7 ∧ Own WR B 3 1 eI v cl ∧ Blk WR qr 87 #[.pointer (some ⟨P, 11, none⟩), .pointer (some ⟨P, 12, none⟩), .pointer (some ⟨P, 13, none⟩), .pointer (some ⟨P, 14, none⟩), .pointer (some ⟨P, 15, none⟩), .pointer (some ⟨P, 16, none⟩)] ∧ B ≤ WR.heap.size)) ∨ (y = .int .i64 1 ∧ Hid (PsW w0 WR A R X P (pcs kd v za zb zc zd (.slice none 0 0) ze zf bu fi zg 0 0 0 0 0 false dy) u1 ∧ Own WR B 3 1 eI v cl ∧ Blk WR qr 87 #[.pointer (some ⟨P, 11, none⟩), .pointer (some ⟨P, 12, none⟩), .pointer (some ⟨P, 13, none⟩), .pointer (some ⟨P, 14, none⟩), .pointer (some ⟨P, 15, none⟩), .pointer (some ⟨P, 16, none⟩)] ∧ B ≤ WR.heap.size)) ∨ (y = .int .i64 2 ∧ Hid (PsW w0 WR A R X P (pcs kd v za zb zc zd (.slice none 0 0) ze zf bu fi zg zh 0 0 0 0 false dy) u2 ∧ Own WR B 3 1 eI v cl ∧ Blk WR qr 87 #[.pointer (some ⟨P, 11, none⟩), .pointer (some ⟨P, 12, none⟩), .pointer (some ⟨P, 13, none⟩), .pointer (some ⟨P, 14, none⟩), .pointer (some ⟨P, 15, none⟩), .pointer (some ⟨P, 16, none⟩)] ∧ B ≤ WR.heap.size)) ∨ (y = .int .i64 3 ∧ Hid (PsW w0 WR A R X P (pcs kd v za zb zc zd (.slice none 0 0) ze zf bu fi zg zh zi 0 0 0 false dy) u3 ∧ Own WR B 3 1 eI v cl ∧ Blk WR qr 87 #[.pointer (some ⟨P, 11, none⟩), .pointer (some ⟨P, 12, none⟩), .pointer (some ⟨P, 13, none⟩), .pointer (some ⟨P, 14, none⟩), .pointer (some ⟨P, 15, none⟩), .pointer (some ⟨P, 16, none⟩)] ∧ B ≤ WR.heap.size)) ∨ (y = .int .i64 4 ∧ Hid (PsW w0 WR A R X P (pcs kd v za zb zc zd (.slice none 0 0) ze zf bu fi zg zh zi zj 0 0 false dy) u4 ∧ Own WR B 3 1 eI v cl ∧ Blk WR qr 87 #[.pointer (some ⟨P, 11, none⟩), .pointer (some ⟨P, 12, none⟩), .pointer (some ⟨P, 13, none⟩), .pointer (some ⟨P, 14, none⟩), .pointer (some ⟨P, 15, none⟩), .pointer (some ⟨P, 16, none⟩)] ∧ B ≤ WR.heap.size)) ∨ (y = .int .i64 5 ∧ Hid (PsW w0 WR A R X P (pcs kd v za zb zc zd (.slice none 0 0) ze zf bu fi zg zh zi zj zk 0 false dy) u5 ∧ Own WR B 3 1 eI v cl ∧ Blk WR qr 87 #[.pointer (some ⟨P, 11, none⟩), .pointer (some ⟨P, 12, none⟩), .pointer (some ⟨P, 13, none⟩), .pointer (some ⟨P, 14, none⟩), .pointer (some ⟨P, 15, none⟩), .pointer (some ⟨P, 16, none⟩)] ∧ B ≤ WR.heap.size)) ∨ (y = .int .i64 6 ∧ Hid (PsW w0 WR A R X P (pcs kd v za zb zc zd (.slice none 0 0) ze zf bu fi zg zh zi zj zk zl false dy) s8 ∧ Own WR B 3 1 eI v cl ∧ Blk WR qr 87 #[.pointer (some ⟨P, 11, none⟩), .pointer (some ⟨P, 12, none⟩), .pointer (some ⟨P, 13, none⟩), .pointer (some ⟨P, 14, none⟩), .pointer (some ⟨P, 15, none⟩), .pointer (some ⟨P, 16, none⟩)] ∧ B ≤ WR.heap.size))) (fun _ y _ => 100 - (intOf y).toNat)
          case atStart => exact .inl ⟨rfl, ⟨HS.out.1, HS.out.2.1, GQ.out, HS.out.2.2⟩⟩
          case round =>
            clear HS GQ
            rcases hrel with ⟨rfl, HW⟩ | ⟨rfl, HW⟩ | ⟨rfl, HW⟩ | ⟨rfl, HW⟩ | ⟨rfl, HW⟩ | ⟨rfl, HW⟩ | ⟨rfl, HW⟩
            · have cq : wr.cell? ⟨qr, 0, none⟩ = some (.pointer (some ⟨P, 11, none⟩)) := (HW.out.2.2.1).cell 0
              go_wp2_with (go_at_call 32; (with_reducible refine ((HW.out.1).num HL.out D.out Eg.out).mono ?_); rintro e w1 ⟨rfl, hp1, hk1⟩; have cc11 : w1.cell? ⟨P, 11, none⟩ = some (.int .i64 0) := hp1.p.cell 11; have zz11 : w1.frozen? ⟨P, 11, none⟩ = false := hp1.p.frozen 11; have lP := hp1.p.lt)
              first | exact ⟨.inr (.inl ⟨rfl, ⟨hp1.set D.out 11 _ rfl, (Own.kp (HW.out.2.1) hk1 HR.out).setBelow (p := ⟨P, 11, none⟩) HPB.out _, (hk1.blk (HW.out.2.2.1) (by have := HR.out; have := LQ.out; omega) (by have := HR.out; have := LQ.out; omega)).far (p := ⟨P, 11, none⟩) (by have := HPB.out; have := LQ.out; intro h; simp only at h; omega) _, by simpa using Nat.le_trans (HW.out.2.2.2) hk1.size⟩⟩), by simp [intOf]⟩ | (go_roundw; (case rel => exact .inr (.inl ⟨rfl, ⟨hp1.set D.out 11 _ rfl, (Own.kp (HW.out.2.1) hk1 HR.out).setBelow (p := ⟨P, 11, none⟩) HPB.out _, (hk1.blk (HW.out.2.2.1) (by have := HR.out; have := LQ.out; omega) (by have := HR.out; have := LQ.out; omega)).far (p := ⟨P, 11, none⟩) (by have := HPB.out; have := LQ.out; intro h; simp only at h; omega) _, by simpa using Nat.le_trans (HW.out.2.2.2) hk1.size⟩⟩)); (case measure => simp [intOf]))
            · have cq : wr.cell? ⟨qr, 1, none⟩ = some (.pointer (some ⟨P, 12, none⟩)) := (HW.out.2.2.1).cell 1
              go_wp2_with (go_at_call 32; (with_reducible refine ((HW.out.1).num HL.out D.out Eh.out).mono ?_); rintro e w1 ⟨rfl, hp1, hk1⟩; have cc12 : w1.cell? ⟨P, 12, none⟩ = some (.int .i64 0) := hp1.p.cell 12; have zz12 : w1.frozen? ⟨P, 12, none⟩ = false := hp1.p.frozen 12; have lP := hp1.p.lt)
              first | exact ⟨.inr (.inr (.inl ⟨rfl, ⟨hp1.set D.out 12 _ rfl, (Own.kp (HW.out.2.1) hk1 HR.out).setBelow (p := ⟨P, 12, none⟩) HPB.out _, (hk1.blk (HW.out.2.2.1) (by have := HR.out; have := LQ.out; omega) (by have := HR.out; have := LQ.out; omega)).far (p := ⟨P, 12, none⟩) (by have := HPB.out; have := LQ.out; intro h; simp only at h; omega) _, by simpa using Nat.le_trans (HW.out.2.2.2) hk1.size⟩⟩)), by simp [intOf]⟩ | (go_roundw; (case rel => exact .inr (.inr (.inl ⟨rfl, ⟨hp1.set D.out 12 _ rfl, (Own.kp (HW.out.2.1) hk1 HR.out).setBelow (p := ⟨P, 12, none⟩) HPB.out _, (hk1.blk (HW.out.2.2.1) (by have := HR.out; have := LQ.out; omega) (by have := HR.out; have := LQ.out; omega)).far (p := ⟨P, 12, none⟩) (by have := HPB.out; have := LQ.out; intro h; simp only at h; omega) _, by simpa using Nat.le_trans (HW.out.2.2.2) hk1.size⟩⟩))); (case measure => simp [intOf]))
            · have cq : wr.cell? ⟨qr, 2, none⟩ = some (.pointer (some ⟨P, 13, none⟩)) := (HW.out.2.2.1).cell 2
              go_wp2_with (go_at_call 32; (with_reducible refine ((HW.out.1).num HL.out D.out Ei.out).mono ?_); rintro e w1 ⟨rfl, hp1, hk1⟩; have cc13 : w1.cell? ⟨P, 13, none⟩ = some (.int .i64 0) := hp1.p.cell 13; have zz13 : w1.frozen? ⟨P, 13, none⟩ = false := hp1.p.frozen 13; have lP := hp1.p.lt)
              first | exact ⟨.inr (.inr (.inr (.inl ⟨rfl, ⟨hp1.set D.out 13 _ rfl, (Own.kp (HW.out.2.1) hk1 HR.out).setBelow (p := ⟨P, 13, none⟩) HPB.out _, (hk1.blk (HW.out.2.2.1) (by have := HR.out; have := LQ.out; omega) (by have := HR.out; have := LQ.out; omega)).far (p := ⟨P, 13, none⟩) (by have := HPB.out; have := LQ.out; intro h; simp only at h; omega) _, by simpa using Nat.le_trans (HW.out.2.2.2) hk1.size⟩⟩))), by simp [intOf]⟩ | (go_roundw; (case rel => exact .inr (.inr (.inr (.inl ⟨rfl, ⟨hp1.set D.out 13 _ rfl, (Own.kp (HW.out.2.1) hk1 HR.out).setBelow (p := ⟨P, 13, none⟩) HPB.out _, (hk1.blk (HW.out.2.2.1) (by have := HR.out; have := LQ.out; omega) (by have := HR.out; have := LQ.out; omega)).far (p := ⟨P, 13, none⟩) (by have := HPB.out; have := LQ.out; intro h; simp only at h; omega) _, by simpa using Nat.le_trans (HW.out.2.2.2) hk1.size⟩⟩)))); (case measure => simp [intOf]))
            · have cq : wr.cell? ⟨qr, 3, none⟩ = some (.pointer (some ⟨P, 14, none⟩)) := (HW.out.2.2.1).cell 3
              go_wp2_with (go_at_call 32; (with_reducible refine ((HW.out.1).num HL.out D.out Ej.out).mono ?_); rintro e w1 ⟨rfl, hp1, hk1⟩; have cc14 : w1.cell? ⟨P, 14, none⟩ = some (.int .i64 0) := hp1.p.cell 14; have zz14 : w1.frozen? ⟨P, 14, none⟩ = false := hp1.p.frozen 14; have lP := hp1.p.lt)
              first | exact ⟨.inr (.inr (.inr (.inr (.inl ⟨rfl, ⟨hp1.set D.out 14 _ rfl, (Own.kp (HW.out.2.1) hk1 HR.out).setBelow (p := ⟨P, 14, none⟩) HPB.out _, (hk1.blk (HW.out.2.2.1) (by have := HR.out; have := LQ.out; omega) (by have := HR.out; have := LQ.out; omega)).far (p := ⟨P, 14, none⟩) (by have := HPB.out; have := LQ.out; intro h; simp only at h; omega) _, by simpa using Nat.le_trans (HW.out.2.2.2) hk1.size⟩⟩)))), by simp [intOf]⟩ | (go_roundw; (case rel => exact .inr (.inr (.inr (.inr (.inl ⟨rfl, ⟨hp1.set D.out 14 _ rfl, (Own.kp (HW.out.2.1) hk1 HR.out).setBelow (p := ⟨P, 14, none⟩) HPB.out _, (hk1.blk (HW.out.2.2.1) (by have := HR.out; have := LQ.out; omega) (by have := HR.out; have := LQ.out; omega)).far (p := ⟨P, 14, none⟩) (by have := HPB.out; have := LQ.out; intro h; simp only at h; omega) _, by simpa using Nat.le_trans (HW.out.2.2.2) hk1.size⟩⟩))))); (case measure => simp [intOf]))
            · have cq : wr.cell? ⟨qr, 4, none⟩ = some (.pointer (some ⟨P, 15, none⟩)) := (HW.out.2.2.1).cell 4
              go_wp2_with (go_at_call 32; (with_reducible refine ((HW.out.1).num HL.out D.out Ek.out).mono ?_); rintro e w1 ⟨rfl, hp1, hk1⟩; have cc15 : w1.cell? ⟨P, 15, none⟩ = some (.int .i64 0) := hp1.p.cell 15; have zz15 : w1.frozen? ⟨P, 15, none⟩ = false := hp1.p.frozen 15; have lP := hp1.p.lt)
              first | exact ⟨.inr (.inr (.inr (.inr (.inr (.inl ⟨rfl, ⟨hp1.set D.out 15 _ rfl, (Own.kp (HW.out.2.1) hk1 HR.out).setBelow (p := ⟨P, 15, none⟩) HPB.out _, (hk1.blk (HW.out.2.2.1) (by have := HR.out; have := LQ.out; omega) (by have := HR.out; have := LQ.out; omega)).far (p := ⟨P, 15, none⟩) (by have := HPB.out; have := LQ.out; intro h; simp only at h; omega) _, by simpa using Nat.le_trans (HW.out.2.2.2) hk1.size⟩⟩))))), by simp [intOf]⟩ | (go_roundw; (case rel => exact .inr (.inr (.inr (.inr (.inr (.inl ⟨rfl, ⟨hp1.set D.out 15 _ rfl, (Own.kp (HW.out.2.1) hk1 HR.out).setBelow (p := ⟨P, 15, none⟩) HPB.out _, (hk1.blk (HW.out.2.2.1) (by have := HR.out; have := LQ.out; omega) (by have := HR.out; have := LQ.out; omega)).far (p := ⟨P, 15, none⟩) (by have := HPB.out; have := LQ.out; intro h; simp only at h; omega) _, by simpa using Nat.le_trans (HW.out.2.2.2) hk1.size⟩⟩)))))); (case measure => simp [intOf]))
            · have cq : wr.cell? ⟨qr, 5, none⟩ = some (.pointer (some ⟨P, 16, none⟩)) := (HW.out.2.2.1).cell 5
              go_wp2_with (go_at_call 32; (with_reducible refine ((HW.out.1).num HL.out D.out El.out).mono ?_); rintro e w1 ⟨rfl, hp1, hk1⟩; have cc16 : w1.cell? ⟨P, 16, none⟩ = some (.int .i64 0) := hp1.p.cell 16; have zz16 : w1.frozen? ⟨P, 16, none⟩ = false := hp1.p.frozen 16; have lP := hp1.p.lt)
              first | exact ⟨.inr (.inr (.inr (.inr (.inr (.inr (⟨rfl, ⟨hp1.set D.out 16 _ rfl, (Own.kp (HW.out.2.1) hk1 HR.out).setBelow (p := ⟨P, 16, none⟩) HPB.out _, (hk1.blk (HW.out.2.2.1) (by have := HR.out; have := LQ.out; omega) (by have := HR.out; have := LQ.out; omega)).far (p := ⟨P, 16, none⟩) (by have := HPB.out; have := LQ.out; intro h; simp only at h; omega) _, by simpa using Nat.le_trans (HW.out.2.2.2) hk1.size⟩⟩)))))), by simp [intOf]⟩ | (go_roundw; (case rel => exact .inr (.inr (.inr (.inr (.inr (.inr (⟨rfl, ⟨hp1.set D.out 16 _ rfl, (Own.kp (HW.out.2.1) hk1 HR.out).setBelow (p := ⟨P, 16, none⟩) HPB.out _, (hk1.blk (HW.out.2.2.1) (by have := HR.out; have := LQ.out; omega) (by have := HR.out; have := LQ.out; omega)).far (p := ⟨P, 16, none⟩) (by have := HPB.out; have := LQ.out; intro h; simp only at h; omega) _, by simpa using Nat.le_trans (HW.out.2.2.2) hk1.size⟩⟩))))))); (case measure => simp [intOf]))
            · have HS : Hid (PsW w0 wr A R X P (pcs kd v za zb zc zd (.slice none 0 0) ze zf bu fi zg zh zi zj zk zl false dy) s8 ∧ Own wr B 3 1 eI v cl ∧ B ≤ wr.heap.size) := ⟨HW.out.1, HW.out.2.1, HW.out.2.2.2⟩
              clear HW LQ
              go_upto_region 26 with (go_at_call 33; (with_reducible refine (HS.out.1.flag HL.out D.out E8.out B8.out).mono ?_); rintro e w1 ⟨rfl, hp1, hk1⟩; have cc17 : w1.cell? ⟨P, 17, none⟩ = some (.bool false) := hp1.p.cell 17; have zz17 : w1.frozen? ⟨P, 17, none⟩ = false := hp1.p.frozen 17; have lP := hp1.p.lt)
              refine name_wp ?_
              intro Y5 hY
              have HT : Hid (PsW w0 Y5 A R X P (pcs kd v za zb zc zd (.slice none 0 0) ze zf bu fi zg zh zi zj zk zl wv dy) s9 ∧ Own Y5 B 3 1 eI v cl ∧ B ≤ Y5.heap.size) := by rw [hY]; exact ⟨hp1.set D.out 17 _ rfl, (Own.kp (HS.out.2.1) hk1 HR.out).setBelow (p := ⟨P, 17, none⟩) HPB.out _, by simpa using Nat.le_trans (HS.out.2.2) hk1.size⟩
              clear hY hp1 hk1 cc17 zz17 lP HS
              have HS := HT
              clear HT
              have cx : Y5.cell? ⟨X, 0, none⟩ = some (.pointer (some ⟨R, 0, none⟩)) := HS.out.1.x.cell 0
              go_upto_region 27 with (go_at_call 34; (with_reducible refine (HS.out.1.up HL.out D.out 8 E9.out).mono ?_); rintro e w1 ⟨rfl, hp1, hk1⟩)
              clear cx
              have HT : Hid (PsW w0 w1 A R X P (pcs kd v za zb zc zd (.slice none 0 0) ze zf bu fi zg zh zi zj zk zl wv dy) sa ∧ Own w1 B 3 1 eI v cl ∧ B ≤ w1.heap.size) := ⟨hp1, Own.kp (HS.out.2.1) hk1 HR.out, Nat.le_trans (HS.out.2.2) hk1.size⟩
              clear hp1 hk1 HS
              have HS := HT
              clear HT
              obtain ⟨Y6, rfl⟩ : ∃ W, W = w1 := ⟨_, rfl⟩
              go_loopw [15, 125] (fun p y WR => ∃ (i : Nat) (v2 : Value), i ≤ M ∧ y = .int .i64 i ∧ Hid (PsW w0 WR A R X P (pcs kd v za zb zc zd v2 ze zf bu fi zg zh zi zj zk zl wv dy) (Rs.pairs i sa).2 ∧ Own WR B 3 1 eI v cl ∧ Own WR B 76 2 eS v2 (Rs.pairs i sa).1 ∧ B ≤ WR.heap.size)) (fun _ y _ => 2000000 - (intOf y).toNat)
              case atStart => exact ⟨0, .slice none 0 0, by omega, rfl, ⟨HS.out.1, HS.out.2.1, Own.nil _ _ _ _ _, HS.out.2.2⟩⟩
              case round =>
                clear HS
                obtain ⟨i, v2, hi', rfl, HW⟩ := hrel
                obtain ⟨x1, y1, ex1⟩ : ∃ q r, (Rs.pairs i sa).2.num = (q, r) := ⟨_, _, rfl⟩
                obtain ⟨x2, y2, ex2⟩ : ∃ q r, y1.num = (q, r) := ⟨_, _, rfl⟩
                have HE1 := Lib.hid ex1
                have HE2 := Lib.hid ex2
                clear ex1 ex2
                by_cases hlt : i < M
                · have tn : decide ((i : Int) < (M : Int)) = true := decide_eq_true (by omega)
                  have hwi := wrap_small (n := i) (by omega)
                  have HW1 : Hid (Rs.pairs (i + 1) sa = ((Rs.pairs i sa).1 ++ [(x1, x2)], y2)) := by unfold Hid; simp only [Rs.pairs, HE1.out, HE2.out]
                  have hlen : (Rs.pairs i sa).1.length + 1 ≤ 1000000 := by rw [pairs_len]; omega
                  go_upto_region 29 with (go_at_call 32; (with_reducible refine (HW.out.1.num HL.out D.out HE1.out).mono ?_); rintro e w1 ⟨rfl, hp1, hk1⟩)
                  refine name_wp ?_
                  intro Z hZ
                  obtain ⟨bs, ebs⟩ : ∃ b, w1.heap.size = b := ⟨_, rfl⟩
                  have gbs : Blk Z bs 76 #[.int .i64 x1, .int .i64 0] := by rw [hZ, ← ebs]; first | exact Blk.new _ _ _ | exact ((Blk.new w1 _ #[.int .i64 0, .int .i64 0]).set_ 0 _).set_ 1 _
                  have hbZ : Below w1.heap.size w1 Z := by rw [hZ]; (repeat (first | with_reducible assumption | with_reducible exact Below.refl _ _ | with_reducible refine below_drewN ?_ _ | with_reducible refine Below.drew ?_ | with_reducible refine below_alloc ?_ _ | with_reducible refine Below.setCell ?_ (by first | omega | (simp; done) | (simp; omega)) _ | with_reducible refine below_then ?_ (by with_reducible assumption) | (refine below_then (a := World.drew _) ?_ (by with_reducible assumption))))
                  have HC0 : Hid (PsW w0 w1 A R X P (pcs kd v za zb zc zd v2 ze zf bu fi zg zh zi zj zk zl wv dy) y1 ∧ Own w1 B 3 1 eI v cl ∧ Own w1 B 76 2 eS v2 (Rs.pairs i sa).1 ∧ B ≤ w1.heap.size) := ⟨hp1, Own.kp (HW.out.2.1) hk1 HR.out, Own.kp (HW.out.2.2.1) hk1 HR.out, Nat.le_trans (HW.out.2.2.2) hk1.size⟩
                  have LQ : Hid (B ≤ bs) := by unfold Hid; rw [← ebs]; exact HC0.out.2.2.2
                  have HC : Hid (PsW w0 Z A R X P (pcs kd v za zb zc zd v2 ze zf bu fi zg zh zi zj zk zl wv dy) y1 ∧ Own Z B 3 1 eI v cl ∧ Own Z B 76 2 eS v2 (Rs.pairs i sa).1 ∧ Blk Z bs 76 #[.int .i64 x1, .int .i64 0] ∧ B ≤ Z.heap.size) := ⟨PsW.then_ (HC0.out.1) hbZ, Own.below (HC0.out.2.1) hbZ, Own.below (HC0.out.2.2.1) hbZ, gbs, Nat.le_trans HC0.out.2.2.2 hbZ.size⟩
                  have HN1 : Hid (∀ k, v.ownBlock = some k → k ≠ bs) := fun k hk => by have := (World.ownsRow.lt HC0.out.2.1 k hk).2; omega
                  have HN2 : Hid (∀ k, v2.ownBlock = some k → k ≠ bs) := fun k hk => by have := (World.ownsRow.lt HC0.out.2.2.1 k hk).2; omega
                  try rw [ebs]
                  clear hZ hp1 hk1 HW HC0 gbs hbZ ebs
                  go_upto_region 30 with (go_at_call 32; (with_reducible refine (HC.out.1.num HL.out D.out HE2.out).mono ?_); rintro e w1 ⟨rfl, hp1, hk1⟩; have czb := (hk1.blk HC.out.2.2.2.1 (by have := HR.out; have := LQ.out; omega) (by have := HR.out; have := LQ.out; omega)).cell 1; have zzb := (hk1.blk HC.out.2.2.2.1 (by have := HR.out; have := LQ.out; omega) (by have := HR.out; have := LQ.out; omega)).frozen 1; have lb := (hk1.blk HC.out.2.2.2.1 (by have := HR.out; have := LQ.out; omega) (by have := HR.out; have := LQ.out; omega)).lt; simp at czb)
                  refine name_wp ?_
                  intro Z2 hZ2
                  have HD0 : Hid (PsW w0 w1 A R X P (pcs kd v za zb zc zd v2 ze zf bu fi zg zh zi zj zk zl wv dy) y2 ∧ Own w1 B 3 1 eI v cl ∧ Own w1 B 76 2 eS v2 (Rs.pairs i sa).1 ∧ Blk w1 bs 76 #[.int .i64 x1, .int .i64 0] ∧ B ≤ w1.heap.size) := ⟨hp1, Own.kp (HC.out.2.1) hk1 HR.out, Own.kp (HC.out.2.2.1) hk1 HR.out, hk1.blk (HC.out.2.2.2.1) (by have := HR.out; have := LQ.out; omega) (by have := HR.out; have := LQ.out; omega), Nat.le_trans (HC.out.2.2.2.2) hk1.size⟩
                  have UZ : Upd w1 Z2 bs := by rw [hZ2]; exact (Upd.refl _ _).setCell 1 _
                  have nP : P ≠ bs := by have := HPB.out; have := LQ.out; omega
                  have nA : A ≠ bs := by have := HA0.out; have := LQ.out; omega
                  have nR : R ≠ bs := by have := HR.out; have := LQ.out; omega
                  have nX : X ≠ bs := by have := HX0.out; have := LQ.out; omega
                  have HD : Hid (PsW w0 Z2 A R X P (pcs kd v za zb zc zd v2 ze zf bu fi zg zh zi zj zk zl wv dy) y2 ∧ Own Z2 B 3 1 eI v cl ∧ Own Z2 B 76 2 eS v2 (Rs.pairs i sa).1 ∧ Blk Z2 bs 76 #[.int .i64 x1, .int .i64 x2] ∧ B ≤ Z2.heap.size) := ⟨HD0.out.1.upd UZ (Nat.le_trans HB0.out LQ.out) nA nR nX nP, HD0.out.2.1.updN UZ HN1.out, HD0.out.2.2.1.updN UZ HN2.out, by rw [hZ2]; exact HD0.out.2.2.2.1.set_ 1 _, by rw [UZ.s]; exact HD0.out.2.2.2.2⟩
                  clear hZ2 HD0 UZ hp1 hk1 czb zzb lb HC nP nA nR nX
                  refine wp_region_hb (fun w' => Hid (Blk w' P 34 (pcs kd v za zb zc zd v2 ze zf bu fi zg zh zi zj zk zl wv dy) ∧ Blk w' bs 76 #[.int .i64 x1, .int .i64 x2])) [0, 1, 2, 3, 4, 5, 6, 7] [8, 9, 10] (by kernel_rfl) (by kernel_rfl) (by repeat (first | with_reducible refine panOk_then ?_ | with_reducible refine panOk_block ?_ | exact panOk_body)) (Lib.hid ⟨HD.out.1.p, HD.out.2.2.2.1⟩) (fun hdir hsel hpan hHeld => ?_)
                  refine wpHB_take (i := 0) (oi := ⟨some 133, _, _, _, _, _⟩) hdir hsel hpan rfl (by kernel_rfl) (by kernel_rfl) (by kernel_rfl) (Or.inl ⟨by rfl, fun _ _ => by rfl⟩) (by assumption) ?_
                  try simp only [Act.put, List.setIfInBounds_toArray, List.set_cons_zero, List.set_cons_succ]
                  refine wpHB_take (i := 1) (oi := ⟨some 134, _, _, _, _, _⟩) hdir hsel hpan rfl (by kernel_rfl) (by kernel_rfl) (by kernel_rfl) (Or.inl ⟨by rfl, fun _ _ => by rfl⟩) (by assumption) ?_
                  try simp only [Act.put, List.setIfInBounds_toArray, List.set_cons_zero, List.set_cons_succ]
                  refine wpHB_take (i := 2) (oi := ⟨some 135, _, _, _, _, _⟩) hdir hsel hpan rfl (by kernel_rfl) (by kernel_rfl) (by kernel_rfl) (Or.inl ⟨by rfl, fun _ _ => by rfl⟩) (by assumption) ?_
                  try simp only [Act.put, List.setIfInBounds_toArray, List.set_cons_zero, List.set_cons_succ]
                  refine wpHB_take (i := 3) (oi := ⟨some 136, _, _, _, _, _⟩) hdir hsel hpan rfl (by kernel_rfl) (by kernel_rfl) (by kernel_rfl) (Or.inl ⟨by rfl, fun _ _ => by rfl⟩) (by assumption) ?_
                  try simp only [Act.put, List.setIfInBounds_toArray, List.set_cons_zero, List.set_cons_succ]
                  refine wpHB_take (i := 4) (oi := ⟨some 137, _, _, _, _, _⟩) (v := v2) hdir hsel hpan rfl (by kernel_rfl) (by kernel_rfl) (by kernel_rfl) (Or.inl ⟨by rfl, fun w hw => by have hc := (hw.out.1).cell 6; go_simp⟩) (by assumption) ?_
                  try simp only [Act.put, List.setIfInBounds_toArray, List.set_cons_zero, List.set_cons_succ]
                  refine wpHB_take (i := 5) (oi := ⟨some 138, _, _, _, _, _⟩) hdir hsel hpan rfl (by kernel_rfl) (by kernel_rfl) (by kernel_rfl) (yieldsIf_row (by rfl) 76 _ rfl bs rfl 76 _ (fun w hw => hw.out.2) ⟨_, Tryz.underlying76⟩ (by kernel_rfl)) (by assumption) ?_
                  try simp only [Act.put, List.setIfInBounds_toArray, List.set_cons_zero, List.set_cons_succ]
                  refine wpHB_ready (rs := [6]) (by kernel_rfl) (by simp) ?_
                  refine AllHB.cons (by kernel_rfl) (o := ⟨some 139, _, _, _, _, _⟩) rfl (fun K hK => ?_) AllHB.nil
                  go_simp
                  refine name_k ?_
                  intro Vb hVb
                  have gb : Blk Vb Z2.heap.size 76 #[.int .i64 x1, .int .i64 x2] := by rw [hVb]; exact Blk.new _ _ _
                  have hbb : Below Z2.heap.size Z2 Vb := by rw [hVb]; exact (Below.drew (Below.refl _ _)).alloc (Nat.le_refl _) _
                  have HV : Hid (PsW w0 Vb A R X P (pcs kd v za zb zc zd v2 ze zf bu fi zg zh zi zj zk zl wv dy) y2 ∧ Own Vb B 3 1 eI v cl ∧ Own Vb B 76 2 eS v2 (Rs.pairs i sa).1 ∧ Blk Vb bs 76 #[.int .i64 x1, .int .i64 x2] ∧ B ≤ Vb.heap.size) := ⟨PsW.then_ (HD.out.1) hbb, Own.below (HD.out.2.1) hbb, Own.below (HD.out.2.2.1) hbb, Blk.then_ (HD.out.2.2.2.1) hbb, Nat.le_trans (HD.out.2.2.2.2) hbb.size⟩
                  clear hVb hbb HD
                  refine hK.out _ _ (Lib.hid ⟨HV.out.1.p, HV.out.2.2.2.1⟩) (fun hHeld2 => ?_)
                  clear hK K hHeld
                  have hHeld := hHeld2
                  clear hHeld2
                  try simp only [Act.put, List.setIfInBounds_toArray, List.set_cons_zero, List.set_cons_succ]
                  refine wpHB_ready (rs := [7]) (by kernel_rfl) (by simp) ?_
                  refine AllHB.cons (by kernel_rfl) (o := ⟨some 140, _, _, _, _, _⟩) rfl (fun K hK => ?_) AllHB.nil
                  rw [if_pos (by rfl)]
                  refine wp_app_list _ (.tmp 137) (.tmp 139) _ rfl B 76 rc _ 2 16 Tryz.underlying28 hc hy0 hy1 hy2 rfl (by omega) (by omega) eS eS_len one_cond _ (Rs.pairs i sa).1 rfl HV.out.2.2.1 (some ⟨Z2.heap.size, 0, none⟩) [(x1, x2)] 1 1 rfl rfl (by simpa using hlen) _ (seg_blk (xs := [(x1, x2)]) eS_len gb) (by simp) HV.out.2.2.2.2 ?_
                  intro va Va hOa hba hga
                  have HX1 : Hid (PsW w0 Va A R X P (pcs kd v za zb zc zd v2 ze zf bu fi zg zh zi zj zk zl wv dy) y2 ∧ Own Va B 3 1 eI v cl ∧ Blk Va bs 76 #[.int .i64 x1, .int .i64 x2] ∧ B ≤ Va.heap.size) := ⟨HV.out.1.grown HV.out.2.2.1 (by decide) (by decide) (by decide) hga (hba.mono HB0.out), HV.out.2.1.grownT HV.out.2.2.1 (by decide) hga, HV.out.2.2.2.1.grown hga (fun e => HN2.out bs e.symm rfl), Nat.le_trans HV.out.2.2.2.2 hba.size⟩
                  have HOA := Lib.hid hOa
                  clear HV hba hga hOa
                  refine hK.out _ _ (Lib.hid ⟨HX1.out.1.p, HX1.out.2.2.1⟩) (fun hHeld2 => ?_)
                  clear hK K hHeld
                  have hHeld := hHeld2
                  clear hHeld2
                  try simp only [Act.put, List.setIfInBounds_toArray, List.set_cons_zero, List.set_cons_succ]
                  refine wpHB_tail (by kernel_rfl) (by kernel_rfl) ?_
                  clear hdir hsel hpan
                  simp only [opsAt, List.getElem?_toArray, List.getElem?_cons_succ, List.getElem?_cons_zero, Option.toList_some, List.cons_append, List.nil_append]
                  have cc : Va.cell? ⟨P, 6, none⟩ = some v2 := HX1.out.1.p.cell 6
                  have zz : Va.frozen? ⟨P, 6, none⟩ = false := HX1.out.1.p.frozen 6
                  have lP := HX1.out.1.p.lt
                  obtain ⟨A4, n4, c4, rfl⟩ := own_open HOA.out
                  have HF : Hid (∀ W, W = Va.setCell ⟨P, 6, none⟩ (.slice A4 n4 c4) → (PsW w0 W A R X P (pcs kd v za zb zc zd (.slice A4 n4 c4) ze zf bu fi zg zh zi zj zk zl wv dy) (Rs.pairs (i + 1) sa).2 ∧ Own W B 3 1 eI v cl ∧ Own W B 76 2 eS (.slice A4 n4 c4) (Rs.pairs (i + 1) sa).1 ∧ B ≤ W.heap.size)) := fun W hW => by rw [hW, HW1.out]; exact ⟨HX1.out.1.set D.out 6 _ rfl, HX1.out.2.1.setBelow (p := ⟨P, 6, none⟩) HPB.out _, HOA.out.setBelow (p := ⟨P, 6, none⟩) HPB.out _, by simpa using HX1.out.2.2.2⟩
                  go_wp2
                  first | exact ⟨⟨i + 1, _, by omega, rfl, HF.out _ rfl⟩, by simp [intOf]; omega⟩ | (go_roundw; (case rel => exact ⟨i + 1, _, by omega, rfl, HF.out _ rfl⟩); (case measure => simp [intOf]; omega))
                · have tn : decide ((i : Int) < (M : Int)) = false := decide_eq_false (by omega)
                  obtain rfl : i = M := by omega
                  rw [Eq.out] at HW
                  clear HE1 HE2 tn hlt hi'
                  obtain ⟨A1, k1, rfl, hk1, hs1⟩ := HW.out.2.1.seg eI_len
                  obtain ⟨A2, k2, rfl, hk2, hs2⟩ := HW.out.2.2.1.seg eS_len
                  clear hs1 hs2
                  have cx : wr.cell? ⟨X, 0, none⟩ = some (.pointer (some ⟨R, 0, none⟩)) := HW.out.1.x.cell 0
                  have cr0 : wr.cell? ⟨R, 0, none⟩ = some (.string (bA sb.rest)) := HW.out.1.r.cell 0
                  have cr1 : wr.cell? ⟨R, 1, none⟩ = some (.bool sb.bad) := HW.out.1.r.cell 1
                  have nA : ∀ k, Value.ownBlock (.slice A1 cl.length k1) = some k → k ≠ A := fun k hk => by have := (World.ownsRow.lt HW.out.2.1 k hk).1; have := HA0.out; omega
                  have nA2 : ∀ k, Value.ownBlock (.slice A2 st.length k2) = some k → k ≠ A := fun k hk => by have := (World.ownsRow.lt HW.out.2.2.1 k hk).1; have := HA0.out; omega
                  have gA := HW.out.1.a
                  have gP := HW.out.1.p
                  have NA := Lib.hid nA
                  have NA2 := Lib.hid nA2
                  have HK := Lib.hid (And.intro hk1 hk2)
                  clear nA nA2 hk1 hk2
                  by_cases hb : sb.bad = true
                  · rw [hb] at cr1
                    have HBD := Lib.hid hb
                    clear hb
                    go_wp2_with (refine wpList_store_all rfl 34 _ _ rfl A 34 [] paZ.toList [] paZ.toList rfl rfl gA rfl (by kernel_rfl) (by simp [Value.oneCell']) ?_; intro we ge ue)
                    refine bodyPost_ret (ret_row2 rfl rfl ge ⟨_, Tryz.underlying34⟩ (by kernel_rfl)) rfl ?_
                    unfold ParR
                    exact ⟨⟨fun _ => rfl, fun h => absurd (.inl HBD.out) h⟩, HW.out.1.k.trans (ue.b _ D.out.a)⟩
                  · have hb' : sb.bad = false := by simpa using hb
                    rw [hb'] at cr1
                    by_cases hr : sb.rest = []
                    · have q : ((bA sb.rest).toList == []) = true := by rw [bA_toList, hr]; rfl
                      have HN : Hid (¬ (sb.bad = true ∨ sb.rest ≠ [])) := fun h => h.elim hb (fun h => h hr)
                      clear hb hb' hr
                      go_wp2_with (first | (refine wpList_row_w (by rfl) 34 _ rfl P rfl 34 _ gP ⟨_, Tryz.underlying34⟩ (by kernel_rfl) ?_; simp only [Act.put, List.setIfInBounds_toArray, List.set_cons_succ, List.set_cons_zero]) | (refine wpList_store_all rfl 34 _ _ rfl A 34 [] paZ.toList [] (pcs kd (.slice A1 cl.length k1) za zb zc zd (.slice A2 st.length k2) ze zf bu fi zg zh zi zj zk zl wv dy).toList rfl rfl gA rfl (by kernel_rfl) (by simp [Value.oneCell']) ?_; intro we ge ue))
                      refine bodyPost_ret (ret_row2 rfl rfl ge ⟨_, Tryz.underlying34⟩ (by kernel_rfl)) rfl ?_
                      unfold ParR
                      exact ⟨⟨fun h => absurd h HN.out, fun _ => ⟨A1, A2, k1, k2, rfl, HK.out.1, HK.out.2, (HW.out.2.1.updN ue NA.out).segA eI_len, (HW.out.2.2.1.updN ue NA2.out).segA eS_len⟩⟩, HW.out.1.k.trans (ue.b _ D.out.a)⟩
                    · have q : ((bA sb.rest).toList == []) = false := by rw [bA_toList, beq_eq_false_iff_ne]; exact hr
                      have HBD := Lib.hid hr
                      clear hb hb' hr
                      go_wp2_with (refine wpList_store_all rfl 34 _ _ rfl A 34 [] paZ.toList [] paZ.toList rfl rfl gA rfl (by kernel_rfl) (by simp [Value.oneCell']) ?_; intro we ge ue)
                      refine bodyPost_ret (ret_row2 rfl rfl ge ⟨_, Tryz.underlying34⟩ (by kernel_rfl)) rfl ?_
                      unfold ParR
                      exact ⟨⟨fun _ => rfl, fun h => absurd (.inr HBD.out) h⟩, HW.out.1.k.trans (ue.b _ D.out.a)⟩
end Go.Proofs.YtplommmegkdhdaaGreatDoor
