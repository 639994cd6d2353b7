/- The walk of the reference's Parse at every text: it gives what ratio.Parse gives. -/
import Derived.Test.YtbkekabhdpoddaaDoorRg9
namespace Go.Proofs.YtbkekabhdpoddaaDoor
open Go.RowKit

theorem head_take (s : ByteArray) (E : Nat) (h : 0 < E) (hE : E ≤ s.size) : (s.data.toList.take E).head? = some (s[0]'(by omega)) := by
  have h0 := drop_at s 0 (by omega)
  rw [List.drop_zero] at h0
  rw [h0]
  cases E with
  | zero => omega
  | succ n => rfl
theorem num_plain (s : ByteArray) (E : Nat) (hs : s.size ≤ 1000000) (N : Int) (hN : rN (s.data.toList.take E) = N) (h : (s.data.toList.take E).head? ≠ some 45) (W : World) : Calls Tryd.prog 50 #[.string (s.extract 0 E)] W fun e w' => e = .returned (.int .i64 N) ∧ w' = W := by
  refine num_q _ W N (by simp [ByteArray.size_extract]; omega) ?_
  rw [ext_list, List.drop_zero, ← hN]
  unfold rN
  rw [if_neg h]
theorem num_minus (s : ByteArray) (E : Nat) (hs : s.size ≤ 1000000) (N : Int) (hN : rN (s.data.toList.take E) = N) (h : (s.data.toList.take E).head? = some 45) (W : World) : Calls Tryd.prog 50 #[.string (s.extract 1 E)] W fun e w' => e = .returned (.int .i64 (-N)) ∧ w' = W := by
  refine num_q _ W (-N) (by simp [ByteArray.size_extract]; omega) ?_
  rw [ext_list, ← hN]
  unfold rN
  rw [if_pos h]
  omega
set_option maxRecDepth 100000 in
set_option maxHeartbeats 6400000 in
theorem rparse_any (s : ByteArray) (w : World) (hs : s.size ≤ 1000000) :
    Calls Tryd.prog 25 #[.string s] w fun e w' => e = .returned (.tuple #[.agg #[.int .i64 (pN (prs s.toList)), .int .i64 (pD (prs s.toList))], .int .i64 (pE (prs s.toList))]) ∧ Below w.heap.size w w' := by
  have hsl : s.toList = s.data.toList := ByteArray.toList_eq s
  have hsz : s.data.toList.length = s.size := Array.length_toList
  obtain ⟨P, hP⟩ : ∃ P, prs s.toList = P := ⟨_, rfl⟩
  have HP := Lib.hid hP
  rw [hP]
  clear hP
  have HSL := Lib.hid hsl
  have HSZ := Lib.hid hsz
  clear hsl hsz
  have HNUM := Lib.hid (fun (s : ByteArray) W h => num_any s W h)
  have HTXT := Lib.hid (fun n d W h k => rtext_any n d W h k)
  go_enter Tryd.func25, Tryd.ntmps25
  go_upto_region 2 with (fail)
  refine name_wp ?_
  intro X hX
  have gR : Blk X w.heap.size 25 #[.int .i64 0, .int .i64 0] := by rw [hX]; exact (blk_at (by simp)).alloc _
  have ga : Blk X (w.heap.size + 1) 25 #[.int .i64 0, .int .i64 1] := by rw [hX]; exact blk_at (by simp)
  have HB : Below w.heap.size w X := by rw [hX]; (repeat (first | with_reducible assumption | with_reducible exact Below.refl _ _ | with_reducible refine below_drewN ?_ _ | with_reducible refine Below.drew ?_ | with_reducible refine below_alloc ?_ _ | with_reducible refine Below.setCell ?_ (by first | omega | (simp; done) | (simp; omega)) _ | with_reducible refine below_then ?_ (by with_reducible assumption) | (refine below_then (a := World.drew _) ?_ (by with_reducible assumption))))
  clear hX
  obtain ⟨ba, ea⟩ : ∃ b, w.heap.size + 1 = b := ⟨_, rfl⟩
  have la : w.heap.size ≤ ba := by omega
  have lne : w.heap.size ≠ ba := by omega
  rw [ea] at ga ⊢
  clear ea
  obtain ⟨bR, eR⟩ : ∃ b, w.heap.size = b := ⟨_, rfl⟩
  have lR : w.heap.size ≤ bR := by omega
  rw [eR] at gR lne ⊢
  clear eR
  go_upto_region 4 with (fail)
  go_loopw [5, 6] (fun u v WR => ∃ (k : Nat), k ≤ s.size ∧ u = .int .i64 s.size ∧ v = .int .i64 k ∧ Hid ((47 : UInt8) ∉ s.data.toList.take k) ∧ WR = X) (fun _ v _ => s.size - (intOf v).toNat)
  case atStart => exact ⟨0, by omega, rfl, rfl, by simp [Hid], rfl⟩
  case round =>
    obtain ⟨k, h1, rfl, rfl, hno, rfl⟩ := hrel
    by_cases hk : k < s.size
    · have t1 : decide ((k : Int) < s.size) = true := decide_eq_true (by omega)
      by_cases hc : s[k] = 47
      · have hcut : Hid (Lib.cut s.data.toList [47] = (s.data.toList.take k, s.data.toList.drop (k + 1), true)) := by
          have e : s.data.toList = s.data.toList.take k ++ 47 :: s.data.toList.drop (k + 1) := by
            rw [← hc, ← drop_at s k hk, List.take_append_drop]
          unfold Hid
          conv => lhs; rw [e]
          exact cut_at _ _ hno.out
        have c1 : wr.cell? ⟨ba, 1, none⟩ = some (.int .i64 1) := ga.cell 1
        have f1 : wr.frozen? ⟨ba, 1, none⟩ = false := ga.frozen 1
        have lga := ga.lt
        have hde : Hid (((s.extract (k + 1) s.size).data.toList : List UInt8) = s.data.toList.drop (k + 1)) := by
          unfold Hid
          rw [ext_list, List.take_of_length_le (by rw [HSZ.out]; omega)]
        have HD := Lib.hid (fun W => num_q (s.extract (k + 1) s.size) W (numV (s.data.toList.drop (k + 1)) : Nat) (by simp [ByteArray.size_extract]; omega) (by rw [hde.out]))
        obtain ⟨D, hD⟩ : ∃ D : Int, ((numV (s.data.toList.drop (k + 1)) : Nat) : Int) = D := ⟨_, rfl⟩
        rw [hD] at HD
        have hDb : B64 D := by
          have := numV_lt (s.data.toList.drop (k + 1))
          constructor <;> omega
        have hprs : Hid (prs s.data.toList = if s.data.toList ≠ [] ∧ txtO (rN (s.data.toList.take k)) D = s.data.toList then some (rN (s.data.toList.take k), D) else none) := by
          have := prs_ref _ _ _ _ hcut.out
          rw [if_pos rfl, hD] at this
          exact this
        clear hD hcut hde
        go_upto_region 9 with (go_at_call 50; (with_reducible refine (HD.out _).mono ?_); rintro e w1 ⟨rfl, rfl⟩)
        refine name_wp ?_
        intro Y hY
        have na : Blk Y ba 25 #[.int .i64 0, .int .i64 D] := by rw [hY]; exact ga.setT1
        have nR : Blk Y bR 25 #[.int .i64 0, .int .i64 0] := by rw [hY]; exact gR.far (by simp; omega) _
        have NB : Below w.heap.size w Y := by rw [hY]; exact HB.setCell (p := ⟨ba, 1, none⟩) la _
        clear hY ga gR HB c1 f1 lga HD
        have ga := na
        have gR := nR
        have HB := NB
        clear na nR NB
        have hE : k ≤ s.size := h1
        clear hno hc t1 hk h1
        obtain ⟨N, hN⟩ : ∃ N, rN (s.data.toList.take k) = N := ⟨_, rfl⟩
        have hNb : B64 N := hN ▸ rN_bd _
        have HN := Lib.hid hN
        rw [hN] at hprs
        clear hN
        obtain ⟨TB, hTB⟩ : ∃ T, bA (txtO N D) = T := ⟨_, rfl⟩
        have HT := Lib.hid (fun W => HTXT.out N D W hNb hDb)
        rw [hTB] at HT
        have lT : Hid (TB.toList = txtO N D) := by unfold Hid; rw [← hTB, ByteArray.toList_eq]; rfl
        clear hTB
        have ca0 : Y.cell? ⟨ba, 0, none⟩ = some (.int .i64 0) := ga.cell 0
        have fa0 : Y.frozen? ⟨ba, 0, none⟩ = false := ga.frozen 0
        have lga := ga.lt
        have hways : (k = 0) ∨ (0 < k ∧ (s.data.toList.take k).head? = some 45) ∨ (0 < k ∧ (s.data.toList.take k).head? ≠ some 45) := by
          rcases Nat.eq_zero_or_pos k with h | h
          · exact .inl h
          · by_cases hh : (s.data.toList.take k).head? = some 45
            · exact .inr (.inl ⟨h, hh⟩)
            · exact .inr (.inr ⟨h, hh⟩)
        rcases hways with h0 | ⟨h0, hh⟩ | ⟨h0, hh⟩
        · have HNU := Lib.hid (fun W => num_plain s k hs N HN.out (by rw [h0]; simp) W)
          have t2 : decide (0 < k) = false := decide_eq_false (by omega)
          have h0' : ¬ 0 < k := by omega
          clear h0
          go_upto_region 12 with (go_at_call 50; (with_reducible refine (HNU.out _).mono ?_); rintro e w2 ⟨rfl, rfl⟩)
          refine name_wp ?_
          intro Z hZ
          have na : Blk Z ba 25 #[.int .i64 N, .int .i64 D] := by rw [hZ]; simpa using ga.setT0
          have nR : Blk Z bR 25 #[.int .i64 0, .int .i64 0] := by rw [hZ]; exact gR.far (by simp; omega) _
          have NB : Below w.heap.size w Z := by rw [hZ]; exact HB.setCell (p := ⟨ba, 0, none⟩) la _
          clear hZ ga gR HB ca0 fa0 lga HNU t2 h0'
          have k0 : Z.cell? ⟨ba, 0, none⟩ = some (.int .i64 N) := na.cell 0
          have k1 : Z.cell? ⟨ba, 1, none⟩ = some (.int .i64 D) := na.cell 1
          have r0 : Z.cell? ⟨bR, 0, none⟩ = some (.int .i64 0) := nR.cell 0
          have r1 : Z.cell? ⟨bR, 1, none⟩ = some (.int .i64 0) := nR.cell 1
          have z0 : Z.frozen? ⟨bR, 0, none⟩ = false := nR.frozen 0
          have z1 : Z.frozen? ⟨bR, 1, none⟩ = false := nR.frozen 1
          have lz := nR.lt
          have hz := Below.refl Z.heap.size Z
          by_cases hem : s.data.toList = []
          · have e1 : (s.toList == ([] : List UInt8)) = true := by rw [HSL.out, hem]; rfl
            have HPn : Hid (P = none) := by unfold Hid; rw [← HP.out, HSL.out, hprs.out, if_neg (by simp [hem])]
            clear hem
            go_wp2
            refine bodyPost_ret (ret_rat rfl rfl nR.setT0.setT1) rfl ⟨by rw [HPn.out]; rfl, ?_⟩
            exact (NB.setCell (p := ⟨bR, 0, none⟩) lR _).setCell (p := ⟨bR, 1, none⟩) lR _
          · have e1 : (s.toList == ([] : List UInt8)) = false := by rw [HSL.out]; simpa using hem
            by_cases heq : txtO N D = s.data.toList
            · have e2 : (TB.toList == s.toList) = true := by rw [lT.out, HSL.out, heq]; simp
              have HPn : Hid (P = some (N, D)) := by unfold Hid; rw [← HP.out, HSL.out, hprs.out, if_pos ⟨hem, heq⟩]
              clear hem heq
              go_wp2_with (go_at_call 36; (with_reducible refine (HT.out _).mono ?_); rintro e w5 ⟨rfl, hbw5⟩; have m0 : w5.cell? ⟨ba, 0, none⟩ = some (.int .i64 N) := (na.then_ hbw5).cell 0; have m1 : w5.cell? ⟨ba, 1, none⟩ = some (.int .i64 D) := (na.then_ hbw5).cell 1; have s0 : w5.cell? ⟨bR, 0, none⟩ = some (.int .i64 0) := (nR.then_ hbw5).cell 0; have s1 : w5.cell? ⟨bR, 1, none⟩ = some (.int .i64 0) := (nR.then_ hbw5).cell 1; have y0 : w5.frozen? ⟨bR, 0, none⟩ = false := (nR.then_ hbw5).frozen 0; have y1 : w5.frozen? ⟨bR, 1, none⟩ = false := (nR.then_ hbw5).frozen 1; have ly := (nR.then_ hbw5).lt)
              refine bodyPost_ret (ret_rat rfl rfl (nR.then_ hbw5).setT0.setT1) rfl ⟨by rw [HPn.out]; rfl, ?_⟩
              exact ((below_then NB hbw5).setCell (p := ⟨bR, 0, none⟩) lR _).setCell (p := ⟨bR, 1, none⟩) lR _
            · have e2 : (TB.toList == s.toList) = false := by rw [lT.out, HSL.out]; simpa using heq
              have HPn : Hid (P = none) := by unfold Hid; rw [← HP.out, HSL.out, hprs.out, if_neg (by simp [heq])]
              clear hem heq
              go_wp2_with (go_at_call 36; (with_reducible refine (HT.out _).mono ?_); rintro e w5 ⟨rfl, hbw5⟩; have s0 : w5.cell? ⟨bR, 0, none⟩ = some (.int .i64 0) := (nR.then_ hbw5).cell 0; have s1 : w5.cell? ⟨bR, 1, none⟩ = some (.int .i64 0) := (nR.then_ hbw5).cell 1; have y0 : w5.frozen? ⟨bR, 0, none⟩ = false := (nR.then_ hbw5).frozen 0; have y1 : w5.frozen? ⟨bR, 1, none⟩ = false := (nR.then_ hbw5).frozen 1; have ly := (nR.then_ hbw5).lt)
              refine bodyPost_ret (ret_rat rfl rfl (nR.then_ hbw5).setT0.setT1) rfl ⟨by rw [HPn.out]; rfl, ?_⟩
              exact ((below_then NB hbw5).setCell (p := ⟨bR, 0, none⟩) lR _).setCell (p := ⟨bR, 1, none⟩) lR _
        · have hh2 := head_take s k h0 hE
          have hs0 : 0 < s.size := by omega
          have HNU := Lib.hid (fun W => num_minus s k hs N HN.out hh W)
          have t3 : s[0] = 45 := by rw [hh2] at hh; exact Option.some.inj hh
          have hsi : ∀ W, (Instr.slice 9 (.string s) (some (.int .i64 1)) (some (.int .i64 (k : Nat))) none).run Tryd.prog W = .ok (.string (s.extract 1 k)) W := fun W => run_slice_string W 9 s .i64 .i64 1 (k : Nat) Tryd.underlying9 (by omega) (by omega) (by omega)
          have t2 : decide ((0 : Int) < (k : Nat)) = true := decide_eq_true (by omega)
          clear hh hh2
          go_upto_region 12 with (go_at_call 50; (with_reducible refine (HNU.out _).mono ?_); rintro e w2 ⟨rfl, rfl⟩)
          refine name_wp ?_
          intro Z hZ
          have na : Blk Z ba 25 #[.int .i64 N, .int .i64 D] := by rw [hZ]; simpa using ga.setT0
          have nR : Blk Z bR 25 #[.int .i64 0, .int .i64 0] := by rw [hZ]; exact gR.far (by simp; omega) _
          have NB : Below w.heap.size w Z := by rw [hZ]; exact HB.setCell (p := ⟨ba, 0, none⟩) la _
          clear hZ ga gR HB ca0 fa0 lga HNU t2 t3 hsi
          have k0 : Z.cell? ⟨ba, 0, none⟩ = some (.int .i64 N) := na.cell 0
          have k1 : Z.cell? ⟨ba, 1, none⟩ = some (.int .i64 D) := na.cell 1
          have r0 : Z.cell? ⟨bR, 0, none⟩ = some (.int .i64 0) := nR.cell 0
          have r1 : Z.cell? ⟨bR, 1, none⟩ = some (.int .i64 0) := nR.cell 1
          have z0 : Z.frozen? ⟨bR, 0, none⟩ = false := nR.frozen 0
          have z1 : Z.frozen? ⟨bR, 1, none⟩ = false := nR.frozen 1
          have lz := nR.lt
          have hz := Below.refl Z.heap.size Z
          by_cases hem : s.data.toList = []
          · have e1 : (s.toList == ([] : List UInt8)) = true := by rw [HSL.out, hem]; rfl
            have HPn : Hid (P = none) := by unfold Hid; rw [← HP.out, HSL.out, hprs.out, if_neg (by simp [hem])]
            clear hem
            go_wp2
            refine bodyPost_ret (ret_rat rfl rfl nR.setT0.setT1) rfl ⟨by rw [HPn.out]; rfl, ?_⟩
            exact (NB.setCell (p := ⟨bR, 0, none⟩) lR _).setCell (p := ⟨bR, 1, none⟩) lR _
          · have e1 : (s.toList == ([] : List UInt8)) = false := by rw [HSL.out]; simpa using hem
            by_cases heq : txtO N D = s.data.toList
            · have e2 : (TB.toList == s.toList) = true := by rw [lT.out, HSL.out, heq]; simp
              have HPn : Hid (P = some (N, D)) := by unfold Hid; rw [← HP.out, HSL.out, hprs.out, if_pos ⟨hem, heq⟩]
              clear hem heq
              go_wp2_with (go_at_call 36; (with_reducible refine (HT.out _).mono ?_); rintro e w5 ⟨rfl, hbw5⟩; have m0 : w5.cell? ⟨ba, 0, none⟩ = some (.int .i64 N) := (na.then_ hbw5).cell 0; have m1 : w5.cell? ⟨ba, 1, none⟩ = some (.int .i64 D) := (na.then_ hbw5).cell 1; have s0 : w5.cell? ⟨bR, 0, none⟩ = some (.int .i64 0) := (nR.then_ hbw5).cell 0; have s1 : w5.cell? ⟨bR, 1, none⟩ = some (.int .i64 0) := (nR.then_ hbw5).cell 1; have y0 : w5.frozen? ⟨bR, 0, none⟩ = false := (nR.then_ hbw5).frozen 0; have y1 : w5.frozen? ⟨bR, 1, none⟩ = false := (nR.then_ hbw5).frozen 1; have ly := (nR.then_ hbw5).lt)
              refine bodyPost_ret (ret_rat rfl rfl (nR.then_ hbw5).setT0.setT1) rfl ⟨by rw [HPn.out]; rfl, ?_⟩
              exact ((below_then NB hbw5).setCell (p := ⟨bR, 0, none⟩) lR _).setCell (p := ⟨bR, 1, none⟩) lR _
            · have e2 : (TB.toList == s.toList) = false := by rw [lT.out, HSL.out]; simpa using heq
              have HPn : Hid (P = none) := by unfold Hid; rw [← HP.out, HSL.out, hprs.out, if_neg (by simp [heq])]
              clear hem heq
              go_wp2_with (go_at_call 36; (with_reducible refine (HT.out _).mono ?_); rintro e w5 ⟨rfl, hbw5⟩; have s0 : w5.cell? ⟨bR, 0, none⟩ = some (.int .i64 0) := (nR.then_ hbw5).cell 0; have s1 : w5.cell? ⟨bR, 1, none⟩ = some (.int .i64 0) := (nR.then_ hbw5).cell 1; have y0 : w5.frozen? ⟨bR, 0, none⟩ = false := (nR.then_ hbw5).frozen 0; have y1 : w5.frozen? ⟨bR, 1, none⟩ = false := (nR.then_ hbw5).frozen 1; have ly := (nR.then_ hbw5).lt)
              refine bodyPost_ret (ret_rat rfl rfl (nR.then_ hbw5).setT0.setT1) rfl ⟨by rw [HPn.out]; rfl, ?_⟩
              exact ((below_then NB hbw5).setCell (p := ⟨bR, 0, none⟩) lR _).setCell (p := ⟨bR, 1, none⟩) lR _
        · have hh2 := head_take s k h0 hE
          have hs0 : 0 < s.size := by omega
          have HNU := Lib.hid (fun W => num_plain s k hs N HN.out hh W)
          obtain ⟨c0, hc0⟩ : ∃ c, s[0] = c := ⟨_, rfl⟩
          have t3 : ((c0.toNat : Int) == 45) = false := by
            rw [beq_eq_false_iff_ne]
            intro h
            refine hh (hh2.trans (congrArg some (hc0.trans (UInt8.toNat_inj.1 ?_))))
            have : (45 : UInt8).toNat = 45 := rfl
            omega
          have t2 : decide ((0 : Int) < (k : Nat)) = true := decide_eq_true (by omega)
          clear hh hh2
          go_upto_region 12 with (go_at_call 50; (with_reducible refine (HNU.out _).mono ?_); rintro e w2 ⟨rfl, rfl⟩)
          refine name_wp ?_
          intro Z hZ
          have na : Blk Z ba 25 #[.int .i64 N, .int .i64 D] := by rw [hZ]; simpa using ga.setT0
          have nR : Blk Z bR 25 #[.int .i64 0, .int .i64 0] := by rw [hZ]; exact gR.far (by simp; omega) _
          have NB : Below w.heap.size w Z := by rw [hZ]; exact HB.setCell (p := ⟨ba, 0, none⟩) la _
          clear hZ ga gR HB ca0 fa0 lga HNU t2 t3 hc0
          have k0 : Z.cell? ⟨ba, 0, none⟩ = some (.int .i64 N) := na.cell 0
          have k1 : Z.cell? ⟨ba, 1, none⟩ = some (.int .i64 D) := na.cell 1
          have r0 : Z.cell? ⟨bR, 0, none⟩ = some (.int .i64 0) := nR.cell 0
          have r1 : Z.cell? ⟨bR, 1, none⟩ = some (.int .i64 0) := nR.cell 1
          have z0 : Z.frozen? ⟨bR, 0, none⟩ = false := nR.frozen 0
          have z1 : Z.frozen? ⟨bR, 1, none⟩ = false := nR.frozen 1
          have lz := nR.lt
          have hz := Below.refl Z.heap.size Z
          by_cases hem : s.data.toList = []
          · have e1 : (s.toList == ([] : List UInt8)) = true := by rw [HSL.out, hem]; rfl
            have HPn : Hid (P = none) := by unfold Hid; rw [← HP.out, HSL.out, hprs.out, if_neg (by simp [hem])]
            clear hem
            go_wp2
            refine bodyPost_ret (ret_rat rfl rfl nR.setT0.setT1) rfl ⟨by rw [HPn.out]; rfl, ?_⟩
            exact (NB.setCell (p := ⟨bR, 0, none⟩) lR _).setCell (p := ⟨bR, 1, none⟩) lR _
          · have e1 : (s.toList == ([] : List UInt8)) = false := by rw [HSL.out]; simpa using hem
            by_cases heq : txtO N D = s.data.toList
            · have e2 : (TB.toList == s.toList) = true := by rw [lT.out, HSL.out, heq]; simp
              have HPn : Hid (P = some (N, D)) := by unfold Hid; rw [← HP.out, HSL.out, hprs.out, if_pos ⟨hem, heq⟩]
              clear hem heq
              go_wp2_with (go_at_call 36; (with_reducible refine (HT.out _).mono ?_); rintro e w5 ⟨rfl, hbw5⟩; have m0 : w5.cell? ⟨ba, 0, none⟩ = some (.int .i64 N) := (na.then_ hbw5).cell 0; have m1 : w5.cell? ⟨ba, 1, none⟩ = some (.int .i64 D) := (na.then_ hbw5).cell 1; have s0 : w5.cell? ⟨bR, 0, none⟩ = some (.int .i64 0) := (nR.then_ hbw5).cell 0; have s1 : w5.cell? ⟨bR, 1, none⟩ = some (.int .i64 0) := (nR.then_ hbw5).cell 1; have y0 : w5.frozen? ⟨bR, 0, none⟩ = false := (nR.then_ hbw5).frozen 0; have y1 : w5.frozen? ⟨bR, 1, none⟩ = false := (nR.then_ hbw5).frozen 1; have ly := (nR.then_ hbw5).lt)
              refine bodyPost_ret (ret_rat rfl rfl (nR.then_ hbw5).setT0.setT1) rfl ⟨by rw [HPn.out]; rfl, ?_⟩
              exact ((below_then NB hbw5).setCell (p := ⟨bR, 0, none⟩) lR _).setCell (p := ⟨bR, 1, none⟩) lR _
            · have e2 : (TB.toList == s.toList) = false := by rw [lT.out, HSL.out]; simpa using heq
              have HPn : Hid (P = none) := by unfold Hid; rw [← HP.out, HSL.out, hprs.out, if_neg (by simp [heq])]
              clear hem heq
              go_wp2_with (go_at_call 36; (with_reducible refine (HT.out _).mono ?_); rintro e w5 ⟨rfl, hbw5⟩; have s0 : w5.cell? ⟨bR, 0, none⟩ = some (.int .i64 0) := (nR.then_ hbw5).cell 0; have s1 : w5.cell? ⟨bR, 1, none⟩ = some (.int .i64 0) := (nR.then_ hbw5).cell 1; have y0 : w5.frozen? ⟨bR, 0, none⟩ = false := (nR.then_ hbw5).frozen 0; have y1 : w5.frozen? ⟨bR, 1, none⟩ = false := (nR.then_ hbw5).frozen 1; have ly := (nR.then_ hbw5).lt)
              refine bodyPost_ret (ret_rat rfl rfl (nR.then_ hbw5).setT0.setT1) rfl ⟨by rw [HPn.out]; rfl, ?_⟩
              exact ((below_then NB hbw5).setCell (p := ⟨bR, 0, none⟩) lR _).setCell (p := ⟨bR, 1, none⟩) lR _
      · have hcne : ((s[k].toNat : Int) == 47) = false := by
          rw [beq_eq_false_iff_ne]
          intro h
          exact hc (UInt8.toNat_inj.1 (by have : (47 : UInt8).toNat = 47 := rfl; omega))
        have hno2 : Hid ((47 : UInt8) ∉ s.data.toList.take (k + 1)) := by
          unfold Hid
          have hl : k < s.data.toList.length := by rw [HSZ.out]; exact hk
          rw [List.take_succ_eq_append_getElem hl, List.mem_append, List.mem_singleton]
          rintro (h | h)
          · exact hno.out h
          · exact hc h.symm
        obtain ⟨c, hcc⟩ : ∃ c, s[k] = c := ⟨_, rfl⟩
        rw [hcc] at hcne
        clear hc hno
        go_wp2
        go_roundw
        case rel => exact ⟨k + 1, by omega, rfl, by simp, hno2, by first | trivial | rfl⟩
        case measure => simp [intOf]; omega
    · have t1 : decide ((k : Int) < s.size) = false := decide_eq_false (by omega)
      obtain rfl : k = s.size := by omega
      obtain ⟨D, hD⟩ : ∃ D : Int, 1 = D := ⟨_, rfl⟩
      have hprs : Hid (prs s.data.toList = if s.data.toList ≠ [] ∧ txtO (rN (s.data.toList.take s.size)) D = s.data.toList then some (rN (s.data.toList.take s.size), D) else none) := by
        have hn := hno.out
        have ht : s.data.toList.take s.size = s.data.toList := List.take_of_length_le (by rw [HSZ.out]; omega)
        rw [ht] at hn
        have := prs_ref _ _ _ _ (cut_no _ hn)
        rw [if_neg Bool.false_ne_true, hD] at this
        unfold Hid
        rw [ht]
        exact this
      have hDb : B64 D := by subst hD; constructor <;> omega
      rw [hD] at ga
      clear hD hno hk
      have hE : s.size ≤ s.size := Nat.le_refl _
      go_upto_region 9 with (fail)
      obtain ⟨N, hN⟩ : ∃ N, rN (s.data.toList.take s.size) = N := ⟨_, rfl⟩
      have hNb : B64 N := hN ▸ rN_bd _
      have HN := Lib.hid hN
      rw [hN] at hprs
      clear hN
      obtain ⟨TB, hTB⟩ : ∃ T, bA (txtO N D) = T := ⟨_, rfl⟩
      have HT := Lib.hid (fun W => HTXT.out N D W hNb hDb)
      rw [hTB] at HT
      have lT : Hid (TB.toList = txtO N D) := by unfold Hid; rw [← hTB, ByteArray.toList_eq]; rfl
      clear hTB
      have ca0 : wr.cell? ⟨ba, 0, none⟩ = some (.int .i64 0) := ga.cell 0
      have fa0 : wr.frozen? ⟨ba, 0, none⟩ = false := ga.frozen 0
      have lga := ga.lt
      have hways : (s.size = 0) ∨ (0 < s.size ∧ (s.data.toList.take s.size).head? = some 45) ∨ (0 < s.size ∧ (s.data.toList.take s.size).head? ≠ some 45) := by
        rcases Nat.eq_zero_or_pos s.size with h | h
        · exact .inl h
        · by_cases hh : (s.data.toList.take s.size).head? = some 45
          · exact .inr (.inl ⟨h, hh⟩)
          · exact .inr (.inr ⟨h, hh⟩)
      rcases hways with h0 | ⟨h0, hh⟩ | ⟨h0, hh⟩
      · have HNU := Lib.hid (fun W => num_plain s s.size hs N HN.out (by rw [h0]; simp) W)
        have t2 : decide (0 < s.size) = false := decide_eq_false (by omega)
        have h0' : ¬ 0 < s.size := by omega
        clear h0
        rw [show s.extract 0 s.size = s from by simp] at HNU
        go_upto_region 12 with (go_at_call 50; (with_reducible refine (HNU.out _).mono ?_); rintro e w2 ⟨rfl, rfl⟩)
        refine name_wp ?_
        intro Z hZ
        have na : Blk Z ba 25 #[.int .i64 N, .int .i64 D] := by rw [hZ]; simpa using ga.setT0
        have nR : Blk Z bR 25 #[.int .i64 0, .int .i64 0] := by rw [hZ]; exact gR.far (by simp; omega) _
        have NB : Below w.heap.size w Z := by rw [hZ]; exact HB.setCell (p := ⟨ba, 0, none⟩) la _
        clear hZ ga gR HB ca0 fa0 lga HNU t2 h0'
        have k0 : Z.cell? ⟨ba, 0, none⟩ = some (.int .i64 N) := na.cell 0
        have k1 : Z.cell? ⟨ba, 1, none⟩ = some (.int .i64 D) := na.cell 1
        have r0 : Z.cell? ⟨bR, 0, none⟩ = some (.int .i64 0) := nR.cell 0
        have r1 : Z.cell? ⟨bR, 1, none⟩ = some (.int .i64 0) := nR.cell 1
        have z0 : Z.frozen? ⟨bR, 0, none⟩ = false := nR.frozen 0
        have z1 : Z.frozen? ⟨bR, 1, none⟩ = false := nR.frozen 1
        have lz := nR.lt
        have hz := Below.refl Z.heap.size Z
        by_cases hem : s.data.toList = []
        · have e1 : (s.toList == ([] : List UInt8)) = true := by rw [HSL.out, hem]; rfl
          have HPn : Hid (P = none) := by unfold Hid; rw [← HP.out, HSL.out, hprs.out, if_neg (by simp [hem])]
          clear hem
          go_wp2
          refine bodyPost_ret (ret_rat rfl rfl nR.setT0.setT1) rfl ⟨by rw [HPn.out]; rfl, ?_⟩
          exact (NB.setCell (p := ⟨bR, 0, none⟩) lR _).setCell (p := ⟨bR, 1, none⟩) lR _
        · have e1 : (s.toList == ([] : List UInt8)) = false := by rw [HSL.out]; simpa using hem
          by_cases heq : txtO N D = s.data.toList
          · have e2 : (TB.toList == s.toList) = true := by rw [lT.out, HSL.out, heq]; simp
            have HPn : Hid (P = some (N, D)) := by unfold Hid; rw [← HP.out, HSL.out, hprs.out, if_pos ⟨hem, heq⟩]
            clear hem heq
            go_wp2_with (go_at_call 36; (with_reducible refine (HT.out _).mono ?_); rintro e w5 ⟨rfl, hbw5⟩; have m0 : w5.cell? ⟨ba, 0, none⟩ = some (.int .i64 N) := (na.then_ hbw5).cell 0; have m1 : w5.cell? ⟨ba, 1, none⟩ = some (.int .i64 D) := (na.then_ hbw5).cell 1; have s0 : w5.cell? ⟨bR, 0, none⟩ = some (.int .i64 0) := (nR.then_ hbw5).cell 0; have s1 : w5.cell? ⟨bR, 1, none⟩ = some (.int .i64 0) := (nR.then_ hbw5).cell 1; have y0 : w5.frozen? ⟨bR, 0, none⟩ = false := (nR.then_ hbw5).frozen 0; have y1 : w5.frozen? ⟨bR, 1, none⟩ = false := (nR.then_ hbw5).frozen 1; have ly := (nR.then_ hbw5).lt)
            refine bodyPost_ret (ret_rat rfl rfl (nR.then_ hbw5).setT0.setT1) rfl ⟨by rw [HPn.out]; rfl, ?_⟩
            exact ((below_then NB hbw5).setCell (p := ⟨bR, 0, none⟩) lR _).setCell (p := ⟨bR, 1, none⟩) lR _
          · have e2 : (TB.toList == s.toList) = false := by rw [lT.out, HSL.out]; simpa using heq
            have HPn : Hid (P = none) := by unfold Hid; rw [← HP.out, HSL.out, hprs.out, if_neg (by simp [heq])]
            clear hem heq
            go_wp2_with (go_at_call 36; (with_reducible refine (HT.out _).mono ?_); rintro e w5 ⟨rfl, hbw5⟩; have s0 : w5.cell? ⟨bR, 0, none⟩ = some (.int .i64 0) := (nR.then_ hbw5).cell 0; have s1 : w5.cell? ⟨bR, 1, none⟩ = some (.int .i64 0) := (nR.then_ hbw5).cell 1; have y0 : w5.frozen? ⟨bR, 0, none⟩ = false := (nR.then_ hbw5).frozen 0; have y1 : w5.frozen? ⟨bR, 1, none⟩ = false := (nR.then_ hbw5).frozen 1; have ly := (nR.then_ hbw5).lt)
            refine bodyPost_ret (ret_rat rfl rfl (nR.then_ hbw5).setT0.setT1) rfl ⟨by rw [HPn.out]; rfl, ?_⟩
            exact ((below_then NB hbw5).setCell (p := ⟨bR, 0, none⟩) lR _).setCell (p := ⟨bR, 1, none⟩) lR _
      · have hh2 := head_take s s.size h0 hE
        have hs0 : 0 < s.size := by omega
        have HNU := Lib.hid (fun W => num_minus s s.size hs N HN.out hh W)
        have t3 : s[0] = 45 := by rw [hh2] at hh; exact Option.some.inj hh
        have hsi : ∀ W, (Instr.slice 9 (.string s) (some (.int .i64 1)) (some (.int .i64 (s.size : Nat))) none).run Tryd.prog W = .ok (.string (s.extract 1 s.size)) W := fun W => run_slice_string W 9 s .i64 .i64 1 (s.size : Nat) Tryd.underlying9 (by omega) (by omega) (by omega)
        have t2 : decide ((0 : Int) < (s.size : Nat)) = true := decide_eq_true (by omega)
        clear hh hh2
        go_upto_region 12 with (go_at_call 50; (with_reducible refine (HNU.out _).mono ?_); rintro e w2 ⟨rfl, rfl⟩)
        refine name_wp ?_
        intro Z hZ
        have na : Blk Z ba 25 #[.int .i64 N, .int .i64 D] := by rw [hZ]; simpa using ga.setT0
        have nR : Blk Z bR 25 #[.int .i64 0, .int .i64 0] := by rw [hZ]; exact gR.far (by simp; omega) _
        have NB : Below w.heap.size w Z := by rw [hZ]; exact HB.setCell (p := ⟨ba, 0, none⟩) la _
        clear hZ ga gR HB ca0 fa0 lga HNU t2 t3 hsi
        have k0 : Z.cell? ⟨ba, 0, none⟩ = some (.int .i64 N) := na.cell 0
        have k1 : Z.cell? ⟨ba, 1, none⟩ = some (.int .i64 D) := na.cell 1
        have r0 : Z.cell? ⟨bR, 0, none⟩ = some (.int .i64 0) := nR.cell 0
        have r1 : Z.cell? ⟨bR, 1, none⟩ = some (.int .i64 0) := nR.cell 1
        have z0 : Z.frozen? ⟨bR, 0, none⟩ = false := nR.frozen 0
        have z1 : Z.frozen? ⟨bR, 1, none⟩ = false := nR.frozen 1
        have lz := nR.lt
        have hz := Below.refl Z.heap.size Z
        by_cases hem : s.data.toList = []
        · have e1 : (s.toList == ([] : List UInt8)) = true := by rw [HSL.out, hem]; rfl
          have HPn : Hid (P = none) := by unfold Hid; rw [← HP.out, HSL.out, hprs.out, if_neg (by simp [hem])]
          clear hem
          go_wp2
          refine bodyPost_ret (ret_rat rfl rfl nR.setT0.setT1) rfl ⟨by rw [HPn.out]; rfl, ?_⟩
          exact (NB.setCell (p := ⟨bR, 0, none⟩) lR _).setCell (p := ⟨bR, 1, none⟩) lR _
        · have e1 : (s.toList == ([] : List UInt8)) = false := by rw [HSL.out]; simpa using hem
          by_cases heq : txtO N D = s.data.toList
          · have e2 : (TB.toList == s.toList) = true := by rw [lT.out, HSL.out, heq]; simp
            have HPn : Hid (P = some (N, D)) := by unfold Hid; rw [← HP.out, HSL.out, hprs.out, if_pos ⟨hem, heq⟩]
            clear hem heq
            go_wp2_with (go_at_call 36; (with_reducible refine (HT.out _).mono ?_); rintro e w5 ⟨rfl, hbw5⟩; have m0 : w5.cell? ⟨ba, 0, none⟩ = some (.int .i64 N) := (na.then_ hbw5).cell 0; have m1 : w5.cell? ⟨ba, 1, none⟩ = some (.int .i64 D) := (na.then_ hbw5).cell 1; have s0 : w5.cell? ⟨bR, 0, none⟩ = some (.int .i64 0) := (nR.then_ hbw5).cell 0; have s1 : w5.cell? ⟨bR, 1, none⟩ = some (.int .i64 0) := (nR.then_ hbw5).cell 1; have y0 : w5.frozen? ⟨bR, 0, none⟩ = false := (nR.then_ hbw5).frozen 0; have y1 : w5.frozen? ⟨bR, 1, none⟩ = false := (nR.then_ hbw5).frozen 1; have ly := (nR.then_ hbw5).lt)
            refine bodyPost_ret (ret_rat rfl rfl (nR.then_ hbw5).setT0.setT1) rfl ⟨by rw [HPn.out]; rfl, ?_⟩
            exact ((below_then NB hbw5).setCell (p := ⟨bR, 0, none⟩) lR _).setCell (p := ⟨bR, 1, none⟩) lR _
          · have e2 : (TB.toList == s.toList) = false := by rw [lT.out, HSL.out]; simpa using heq
            have HPn : Hid (P = none) := by unfold Hid; rw [← HP.out, HSL.out, hprs.out, if_neg (by simp [heq])]
            clear hem heq
            go_wp2_with (go_at_call 36; (with_reducible refine (HT.out _).mono ?_); rintro e w5 ⟨rfl, hbw5⟩; have s0 : w5.cell? ⟨bR, 0, none⟩ = some (.int .i64 0) := (nR.then_ hbw5).cell 0; have s1 : w5.cell? ⟨bR, 1, none⟩ = some (.int .i64 0) := (nR.then_ hbw5).cell 1; have y0 : w5.frozen? ⟨bR, 0, none⟩ = false := (nR.then_ hbw5).frozen 0; have y1 : w5.frozen? ⟨bR, 1, none⟩ = false := (nR.then_ hbw5).frozen 1; have ly := (nR.then_ hbw5).lt)
            refine bodyPost_ret (ret_rat rfl rfl (nR.then_ hbw5).setT0.setT1) rfl ⟨by rw [HPn.out]; rfl, ?_⟩
            exact ((below_then NB hbw5).setCell (p := ⟨bR, 0, none⟩) lR _).setCell (p := ⟨bR, 1, none⟩) lR _
      · have hh2 := head_take s s.size h0 hE
        have hs0 : 0 < s.size := by omega
        have HNU := Lib.hid (fun W => num_plain s s.size hs N HN.out hh W)
        obtain ⟨c0, hc0⟩ : ∃ c, s[0] = c := ⟨_, rfl⟩
        have t3 : ((c0.toNat : Int) == 45) = false := by
          rw [beq_eq_false_iff_ne]
          intro h
          refine hh (hh2.trans (congrArg some (hc0.trans (UInt8.toNat_inj.1 ?_))))
          have : (45 : UInt8).toNat = 45 := rfl
          omega
        have t2 : decide ((0 : Int) < (s.size : Nat)) = true := decide_eq_true (by omega)
        clear hh hh2
        rw [show s.extract 0 s.size = s from by simp] at HNU
        go_upto_region 12 with (go_at_call 50; (with_reducible refine (HNU.out _).mono ?_); rintro e w2 ⟨rfl, rfl⟩)
        refine name_wp ?_
        intro Z hZ
        have na : Blk Z ba 25 #[.int .i64 N, .int .i64 D] := by rw [hZ]; simpa using ga.setT0
        have nR : Blk Z bR 25 #[.int .i64 0, .int .i64 0] := by rw [hZ]; exact gR.far (by simp; omega) _
        have NB : Below w.heap.size w Z := by rw [hZ]; exact HB.setCell (p := ⟨ba, 0, none⟩) la _
        clear hZ ga gR HB ca0 fa0 lga HNU t2 t3 hc0
        have k0 : Z.cell? ⟨ba, 0, none⟩ = some (.int .i64 N) := na.cell 0
        have k1 : Z.cell? ⟨ba, 1, none⟩ = some (.int .i64 D) := na.cell 1
        have r0 : Z.cell? ⟨bR, 0, none⟩ = some (.int .i64 0) := nR.cell 0
        have r1 : Z.cell? ⟨bR, 1, none⟩ = some (.int .i64 0) := nR.cell 1
        have z0 : Z.frozen? ⟨bR, 0, none⟩ = false := nR.frozen 0
        have z1 : Z.frozen? ⟨bR, 1, none⟩ = false := nR.frozen 1
        have lz := nR.lt
        have hz := Below.refl Z.heap.size Z
        by_cases hem : s.data.toList = []
        · have e1 : (s.toList == ([] : List UInt8)) = true := by rw [HSL.out, hem]; rfl
          have HPn : Hid (P = none) := by unfold Hid; rw [← HP.out, HSL.out, hprs.out, if_neg (by simp [hem])]
          clear hem
          go_wp2
          refine bodyPost_ret (ret_rat rfl rfl nR.setT0.setT1) rfl ⟨by rw [HPn.out]; rfl, ?_⟩
          exact (NB.setCell (p := ⟨bR, 0, none⟩) lR _).setCell (p := ⟨bR, 1, none⟩) lR _
        · have e1 : (s.toList == ([] : List UInt8)) = false := by rw [HSL.out]; simpa using hem
          by_cases heq : txtO N D = s.data.toList
          · have e2 : (TB.toList == s.toList) = true := by rw [lT.out, HSL.out, heq]; simp
            have HPn : Hid (P = some (N, D)) := by unfold Hid; rw [← HP.out, HSL.out, hprs.out, if_pos ⟨hem, heq⟩]
            clear hem heq
            go_wp2_with (go_at_call 36; (with_reducible refine (HT.out _).mono ?_); rintro e w5 ⟨rfl, hbw5⟩; have m0 : w5.cell? ⟨ba, 0, none⟩ = some (.int .i64 N) := (na.then_ hbw5).cell 0; have m1 : w5.cell? ⟨ba, 1, none⟩ = some (.int .i64 D) := (na.then_ hbw5).cell 1; have s0 : w5.cell? ⟨bR, 0, none⟩ = some (.int .i64 0) := (nR.then_ hbw5).cell 0; have s1 : w5.cell? ⟨bR, 1, none⟩ = some (.int .i64 0) := (nR.then_ hbw5).cell 1; have y0 : w5.frozen? ⟨bR, 0, none⟩ = false := (nR.then_ hbw5).frozen 0; have y1 : w5.frozen? ⟨bR, 1, none⟩ = false := (nR.then_ hbw5).frozen 1; have ly := (nR.then_ hbw5).lt)
            refine bodyPost_ret (ret_rat rfl rfl (nR.then_ hbw5).setT0.setT1) rfl ⟨by rw [HPn.out]; rfl, ?_⟩
            exact ((below_then NB hbw5).setCell (p := ⟨bR, 0, none⟩) lR _).setCell (p := ⟨bR, 1, none⟩) lR _
          · have e2 : (TB.toList == s.toList) = false := by rw [lT.out, HSL.out]; simpa using heq
            have HPn : Hid (P = none) := by unfold Hid; rw [← HP.out, HSL.out, hprs.out, if_neg (by simp [heq])]
            clear hem heq
            go_wp2_with (go_at_call 36; (with_reducible refine (HT.out _).mono ?_); rintro e w5 ⟨rfl, hbw5⟩; have s0 : w5.cell? ⟨bR, 0, none⟩ = some (.int .i64 0) := (nR.then_ hbw5).cell 0; have s1 : w5.cell? ⟨bR, 1, none⟩ = some (.int .i64 0) := (nR.then_ hbw5).cell 1; have y0 : w5.frozen? ⟨bR, 0, none⟩ = false := (nR.then_ hbw5).frozen 0; have y1 : w5.frozen? ⟨bR, 1, none⟩ = false := (nR.then_ hbw5).frozen 1; have ly := (nR.then_ hbw5).lt)
            refine bodyPost_ret (ret_rat rfl rfl (nR.then_ hbw5).setT0.setT1) rfl ⟨by rw [HPn.out]; rfl, ?_⟩
            exact ((below_then NB hbw5).setCell (p := ⟨bR, 0, none⟩) lR _).setCell (p := ⟨bR, 1, none⟩) lR _
end Go.Proofs.YtbkekabhdpoddaaDoor
