/- Contracts of functions and plain laws, joined: Pw1, Pw2, Pk, Kb2, Kb3, Rz. -/
import Derived.Test.YtplommmegkdhdaaGreatDoorMb3
import Derived.Deep.CutRange
import Derived.Test.YtplommmegkdhdaaGreatDoorMb2
import Derived.Deep.MidRow
/- The reader of the texts of patches, in memory: a number, and a number up to a greatest one. -/
namespace Go.Proofs.YtplommmegkdhdaaGreatDoor
open Go.RowKit

def bA (l : List UInt8) : ByteArray := ⟨l.toArray⟩
theorem bA_size (l : List UInt8) : (bA l).size = l.length := by simp [bA, ByteArray.size]
theorem bA_list (l : List UInt8) : (bA l).data.toList = l := rfl
theorem bA_toList (l : List UInt8) : (bA l).toList = l := by rw [ByteArray.toList_eq]; rfl
theorem bA_take (l : List UInt8) (k : Nat) : (bA l).extract 0 k = bA (l.take k) := by
  apply ByteArray.ext
  apply Array.ext'
  simp [bA, ByteArray.data_extract]
theorem bA_drop (l : List UInt8) (k : Nat) : (bA l).extract k (bA l).size = bA (l.drop k) := by
  apply ByteArray.ext
  apply Array.ext'
  simp [bA, ByteArray.data_extract, ByteArray.size, List.take_of_length_le]
/-- the reader's cells -/
abbrev rdA (s : Rs) : Array Value := #[.string (bA s.rest), .bool s.bad]
theorem pre_32 (l : List UInt8) : (Lib.hasPrefix l [32] = true ∧ l = 32 :: Lib.trimPrefix l [32]) ∨ (Lib.hasPrefix l [32] = false ∧ rd l = none) := by
  cases l with
  | nil => exact .inr ⟨rfl, rfl⟩
  | cons c t =>
    by_cases hc : c = 32
    · subst hc
      exact .inl ⟨by simp [Lib.hasPrefix, List.isPrefixOf], by simp [Lib.trimPrefix, Lib.hasPrefix, List.isPrefixOf]⟩
    · refine .inr ⟨?_, ?_⟩
      · have : (32 == c) = false := by rw [beq_eq_false_iff_ne]; exact fun h => hc h.symm
        simp [Lib.hasPrefix, List.isPrefixOf, this]
      · rw [rd_eq]
        simp only
        rw [if_neg hc]
theorem pre_len (l : List UInt8) : (Lib.trimPrefix l [32]).length ≤ l.length := by
  unfold Lib.trimPrefix
  split
  · simp
  · exact Nat.le_refl _
theorem num_no {s : Rs} (h : rd s.rest = none) : s.num = (0, ⟨[], true⟩) := by unfold Rs.num; rw [h]
theorem num_yes {s : Rs} {n : Int} {t : List UInt8} (h : rd s.rest = some (n, t)) : s.num = (n, ⟨t, s.bad⟩) := by unfold Rs.num; rw [h]
theorem rd_at {l T : List UInt8} (h : l = 32 :: T) : rd l = match Lib.atoiAll (wd T) with
    | .ok n => if Lib.itoa n = wd T then some (n, wr T) else none
    | _ => none := by rw [rd_eq, h]; simp only [if_true]; cases Lib.atoiAll (wd T) <;> rfl
theorem ix_cases (T : List UInt8) : (Lib.indexByte T 32 = -1 ∧ T.length = (wd T).length) ∨ Lib.indexByte T 32 = ((wd T).length : Int) := by
  rw [ix_wd]
  by_cases h : (32 : UInt8) ∈ T
  · rw [if_pos h]; exact .inr rfl
  · rw [if_neg h, wd_all h]; exact .inl ⟨rfl, rfl⟩
set_option maxRecDepth 100000 in
set_option maxHeartbeats 3200000 in
theorem number_any (w0 : World) (hL : Lw w0) (a : Nat) (ha : w0.heap.size ≤ a) (s : Rs) (w : World) (hB : Below w0.heap.size w0 w) (g : Blk w a 83 (rdA s)) (hs : s.rest.length ≤ 1000000) :
    Calls Tryz.prog 32 #[.pointer (some ⟨a, 0, none⟩)] w fun e w' => e = .returned (.int .i64 s.num.1) ∧ Blk w' a 83 (rdA s.num.2) ∧ Kp a a w w' ∧ Below w0.heap.size w0 w' := by
  have HP := Lib.hid (pre_32 s.rest)
  have lT := pre_len s.rest
  have HCUT : ∀ W : World, Calls Tryz.prog 31 #[.string (bA s.rest), .string ⟨#[32]⟩] W fun e w' => e = .returned (.tuple #[.string (bA (Lib.trimPrefix s.rest [32])), .bool (Lib.hasPrefix s.rest [32])]) ∧ W = w' := fun W => (Tryz.strings_CutPrefix (bA s.rest) ⟨#[32]⟩ W).mono fun e w' ⟨h1, h2⟩ => ⟨h1, h2.symm⟩
  obtain ⟨T, eT⟩ : ∃ T, Lib.trimPrefix s.rest [32] = T := ⟨_, rfl⟩
  obtain ⟨f, ef⟩ : ∃ f, Lib.hasPrefix s.rest [32] = f := ⟨_, rfl⟩
  rw [eT, ef] at HCUT HP
  rw [eT] at lT
  have hix := ix_cases T
  have HIX : ∀ W : World, Calls Tryz.prog 49 #[.string (bA T), .int .u8 32] W fun e w' => e = .returned (.int .i64 (Lib.indexByte T 32)) ∧ W = w' := fun W => (Tryz.strings_IndexByte (bA T) 32 W).mono fun e w' ⟨h1, h2⟩ => ⟨h1, h2.symm⟩
  obtain ⟨j, ej⟩ : ∃ j, Lib.indexByte T 32 = j := ⟨_, rfl⟩
  rw [ej] at HIX hix
  have lk := wd_le T
  obtain ⟨k, ek⟩ : ∃ k, (wd T).length = k := ⟨_, rfl⟩
  have hk1 : T.take k = wd T := by rw [← ek]; exact take_wd T
  have hk2 : T.drop k = wr T := by rw [← ek]; exact drop_wd T
  rw [ek] at hix lk
  have SL1 : ∀ W : World, (Instr.slice 9 (.string (bA T)) none (some (.int .i64 (k : Nat))) none).run Tryz.prog W = .ok (.string (bA (wd T))) W := fun W => by
    rw [run_slice_string_h W 9 (bA T) Tryz.underlying9 .i64 (k : Nat) (by omega) (by rw [bA_size]; omega), Int.toNat_natCast, bA_take, hk1]
  have SL2 : ∀ W : World, (Instr.slice 9 (.string (bA T)) (some (.int .i64 (k : Nat))) none none).run Tryz.prog W = .ok (.string (bA (wr T))) W := fun W => by
    rw [run_slice_string_l W 9 (bA T) Tryz.underlying9 .i64 (k : Nat) (by omega) (by rw [bA_size]; omega), Int.toNat_natCast, bA_drop, hk2]
  have lT2 : (bA T).size = T.length := bA_size T
  have lw : (bA (wd T)).size ≤ 281474976710656 := by rw [bA_size, ek]; omega
  have c0 : w.cell? ⟨a, 0, none⟩ = some (.string (bA s.rest)) := g.cell 0
  have G := Lib.hid g
  have HB := Lib.hid hB
  have HL := Lib.hid hL
  have HA := Lib.hid ha
  have la := g.lt
  have HSB : Hid (s.num = s.num) := rfl
  have HCUT := Lib.hid HCUT
  have HIX := Lib.hid HIX
  have SL1 := Lib.hid SL1
  have SL2 := Lib.hid SL2
  clear eT ef ej ek hk1 hk2 g hB hL ha hs
  go_enter Tryz.func32, Tryz.ntmps32
  go_upto_region 3 with (first | (go_at_call 31; (with_reducible refine (HCUT.out _).mono ?_); rintro e w1 ⟨rfl, rfl⟩) | (go_at_call 49; (with_reducible refine (HIX.out _).mono ?_); rintro e w1 ⟨rfl, rfl⟩))
  clear HCUT HIX
  go_upto_if 19 with (fail)
  go_cut [5] from 19 to 21 (fun v W => v = .int .i64 (k : Nat) ∧ w = W)
  case first =>
    rcases hix with ⟨rfl, hl⟩ | rfl
    · have q : ((bA T).size : Int) = (k : Nat) := by rw [lT2, hl]
      have q0 : decide ((-1 : Int) < 0) = true := rfl
      go_wp2
      go_meet
      case rel => exact ⟨by rw [← hl, ← lT2], rfl⟩
    · have q : decide ((k : Int) < 0) = false := decide_eq_false (by omega)
      go_wp2
      go_meet
      case rel => exact ⟨rfl, rfl⟩
  obtain ⟨rfl, rfl⟩ := hcut
  clear hix
  have sl1 := SL1.out
  by_cases hat : ∃ n, Lib.atoiAll (wd T) = .ok n
  · obtain ⟨n, hat⟩ := hat
    have hn := Lib.atoiAll_bounds hat
    have HAT := Lib.hid (fun W : World => atoi_ok (bA (wd T)) n W lw (by rw [bA_list]; exact hat))
    rcases HP.out with ⟨rfl, he⟩ | ⟨rfl, he⟩
    · have hr := rd_at he
      rw [hat] at hr
      simp only at hr
      by_cases hi : Lib.itoa n = wd T
      · rw [if_pos hi] at hr
        have hnum := Lib.hid (num_yes hr)
        have tq : (Lib.itoa n == (bA (wd T)).toList) = true := by rw [bA_toList, hi]; exact beq_self_eq_true _
        clear hr hi he hat HP HSB
        go_upto_region 6 with (go_at_call 50; (with_reducible refine (HAT.out _).mono ?_); rintro e w2 ⟨rfl, hb2⟩)
        have hB2 := below_then HB.out hb2
        have g2 := G.out.then_ hb2
        clear HAT
        have HIT := Lib.hid (fun (W : World) (h : Below w2.heap.size w2 W) => itoa_any n W (HL.out.below (below_then hB2 h)) hn.1 hn.2)
        refine wp_region_qt [0, 1, 2, 3, 4, 5, 6, 7, 8, 9, 10, 11, 12, 13] [] (by kernel_rfl) (by kernel_rfl) (by repeat (first | with_reducible refine panOk_then ?_ | with_reducible refine panOk_block ?_ | exact panOk_body)) ?_
        simp only [opsAt, List.getElem?_toArray, List.getElem?_cons_succ, List.getElem?_cons_zero, Option.toList_some, List.cons_append, List.nil_append]
        repeat (go_big_quiet_step ((go_at_call 51; with_reducible exact qt_call (fun W' hb => HIT.out W' hb) _ _)))
        refine wpQuiet_nil ?_
        intro V hw2
        have hbV := qt_world hw2
        clear hw2 
        have hBV := below_then hB2 hbV
        have gV := g2.then_ hbV
        have KV : Kp a a w V := Kp.of (below_then hb2 hbV)
        have lV := gV.lt
        have z0 : V.frozen? ⟨a, 0, none⟩ = false := gV.frozen 0
        have z1 : V.frozen? ⟨a, 1, none⟩ = false := gV.frozen 1
        have c0 : V.cell? ⟨a, 0, none⟩ = some (.string (bA s.rest)) := gV.cell 0
        have c1 : V.cell? ⟨a, 1, none⟩ = some (.bool s.bad) := gV.cell 1
        have sl2 := SL2.out
        clear G HB hb2 g2 hB2 hbV
        go_wp2
        go_ret
        refine ⟨by rw [hnum.out]; rfl, ?_, KV.setX _, hBV.setCell (p := ⟨a, 0, none⟩) HA.out _⟩
        rw [hnum.out]
        exact gV.set_ 0 (.string (bA (wr T)))
      · rw [if_neg hi] at hr
        have hnum := Lib.hid (num_no hr)
        have tq : (Lib.itoa n == (bA (wd T)).toList) = false := by rw [bA_toList, beq_eq_false_iff_ne]; exact hi
        clear hr hi he hat HP HSB
        go_upto_region 6 with (go_at_call 50; (with_reducible refine (HAT.out _).mono ?_); rintro e w2 ⟨rfl, hb2⟩)
        have hB2 := below_then HB.out hb2
        have g2 := G.out.then_ hb2
        clear HAT
        have HIT := Lib.hid (fun (W : World) (h : Below w2.heap.size w2 W) => itoa_any n W (HL.out.below (below_then hB2 h)) hn.1 hn.2)
        refine wp_region_qt [0, 1, 2, 3, 4, 5, 6, 7, 8, 9, 10, 11, 12, 13] [] (by kernel_rfl) (by kernel_rfl) (by repeat (first | with_reducible refine panOk_then ?_ | with_reducible refine panOk_block ?_ | exact panOk_body)) ?_
        simp only [opsAt, List.getElem?_toArray, List.getElem?_cons_succ, List.getElem?_cons_zero, Option.toList_some, List.cons_append, List.nil_append]
        repeat (go_big_quiet_step ((go_at_call 51; with_reducible exact qt_call (fun W' hb => HIT.out W' hb) _ _)))
        refine wpQuiet_nil ?_
        intro V hw2
        have hbV := qt_world hw2
        clear hw2 
        have hBV := below_then hB2 hbV
        have gV := g2.then_ hbV
        have KV : Kp a a w V := Kp.of (below_then hb2 hbV)
        have lV := gV.lt
        have z0 : V.frozen? ⟨a, 0, none⟩ = false := gV.frozen 0
        have z1 : V.frozen? ⟨a, 1, none⟩ = false := gV.frozen 1
        have c0 : V.cell? ⟨a, 0, none⟩ = some (.string (bA s.rest)) := gV.cell 0
        have c1 : V.cell? ⟨a, 1, none⟩ = some (.bool s.bad) := gV.cell 1
        have sl2 := SL2.out
        clear G HB hb2 g2 hB2 hbV
        go_wp2
        go_ret
        refine ⟨by rw [hnum.out]; rfl, ?_, (KV.setX _).setX _, (hBV.setCell (p := ⟨a, 1, none⟩) HA.out _).setCell (p := ⟨a, 0, none⟩) HA.out _⟩
        rw [hnum.out]
        exact (gV.set_ 1 (.bool true)).set_ 0 (.string ⟨#[]⟩)
    · have hnum := Lib.hid (num_no he)
      clear he hat HP HSB
      go_upto_region 6 with (go_at_call 50; (with_reducible refine (HAT.out _).mono ?_); rintro e w2 ⟨rfl, hb2⟩)
      have hB2 := below_then HB.out hb2
      have g2 := G.out.then_ hb2
      clear HAT
      refine wp_region_qt [0, 1, 2, 3, 4, 5, 6, 7, 8, 9, 10, 11, 12, 13] [] (by kernel_rfl) (by kernel_rfl) (by repeat (first | with_reducible refine panOk_then ?_ | with_reducible refine panOk_block ?_ | exact panOk_body)) ?_
      simp only [opsAt, List.getElem?_toArray, List.getElem?_cons_succ, List.getElem?_cons_zero, Option.toList_some, List.cons_append, List.nil_append]
      repeat (go_big_quiet_step (fail))
      refine wpQuiet_nil ?_
      intro V hw2
      have hbV := qt_world hw2
      clear hw2 
      have hBV := below_then hB2 hbV
      have gV := g2.then_ hbV
      have KV : Kp a a w V := Kp.of (below_then hb2 hbV)
      have lV := gV.lt
      have z0 : V.frozen? ⟨a, 0, none⟩ = false := gV.frozen 0
      have z1 : V.frozen? ⟨a, 1, none⟩ = false := gV.frozen 1
      have c0 : V.cell? ⟨a, 0, none⟩ = some (.string (bA s.rest)) := gV.cell 0
      have c1 : V.cell? ⟨a, 1, none⟩ = some (.bool s.bad) := gV.cell 1
      have sl2 := SL2.out
      clear G HB hb2 g2 hB2 hbV
      go_wp2
      go_ret
      refine ⟨by rw [hnum.out]; rfl, ?_, (KV.setX _).setX _, (hBV.setCell (p := ⟨a, 1, none⟩) HA.out _).setCell (p := ⟨a, 0, none⟩) HA.out _⟩
      rw [hnum.out]
      exact (gV.set_ 1 (.bool true)).set_ 0 (.string ⟨#[]⟩)
  · have HAT := Lib.hid (fun (W : World) (h : Below w0.heap.size w0 W) => atoi_no (bA (wd T)) W (HL.out.below h) lw (fun v hv => hat ⟨v, hv⟩))
    have hnum : Hid (s.num = (0, ⟨[], true⟩)) := by
      refine num_no ?_
      rcases HP.out with ⟨_, he⟩ | ⟨_, he⟩
      · rw [rd_at he]
        cases h2 : Lib.atoiAll (wd T) with
        | ok d => exact absurd ⟨d, h2⟩ hat
        | _ => rfl
      · exact he
    clear hat HP HSB
    cases f with
    | true =>
      go_upto_region 6 with (go_at_call 50; (with_reducible refine (HAT.out _ HB.out).mono ?_); rintro e w2 ⟨v, ty, pp, rfl, hb2⟩)
      have hB2 := below_then HB.out hb2
      have g2 := G.out.then_ hb2
      clear HAT
      refine wp_region_qt [0, 1, 2, 3, 4, 5, 6, 7, 8, 9, 10, 11, 12, 13] [] (by kernel_rfl) (by kernel_rfl) (by repeat (first | with_reducible refine panOk_then ?_ | with_reducible refine panOk_block ?_ | exact panOk_body)) ?_
      simp only [opsAt, List.getElem?_toArray, List.getElem?_cons_succ, List.getElem?_cons_zero, Option.toList_some, List.cons_append, List.nil_append]
      repeat (go_big_quiet_step (fail))
      refine wpQuiet_nil ?_
      intro V hw2
      have hbV := qt_world hw2
      clear hw2 
      have hBV := below_then hB2 hbV
      have gV := g2.then_ hbV
      have KV : Kp a a w V := Kp.of (below_then hb2 hbV)
      have lV := gV.lt
      have z0 : V.frozen? ⟨a, 0, none⟩ = false := gV.frozen 0
      have z1 : V.frozen? ⟨a, 1, none⟩ = false := gV.frozen 1
      have c0 : V.cell? ⟨a, 0, none⟩ = some (.string (bA s.rest)) := gV.cell 0
      have c1 : V.cell? ⟨a, 1, none⟩ = some (.bool s.bad) := gV.cell 1
      have sl2 := SL2.out
      clear G HB hb2 g2 hB2 hbV
      go_wp2
      go_ret
      refine ⟨by rw [hnum.out]; rfl, ?_, (KV.setX _).setX _, (hBV.setCell (p := ⟨a, 1, none⟩) HA.out _).setCell (p := ⟨a, 0, none⟩) HA.out _⟩
      rw [hnum.out]
      exact (gV.set_ 1 (.bool true)).set_ 0 (.string ⟨#[]⟩)
    | false =>
      go_upto_region 6 with (go_at_call 50; (with_reducible refine (HAT.out _ HB.out).mono ?_); rintro e w2 ⟨v, ty, pp, rfl, hb2⟩)
      have hB2 := below_then HB.out hb2
      have g2 := G.out.then_ hb2
      clear HAT
      refine wp_region_qt [0, 1, 2, 3, 4, 5, 6, 7, 8, 9, 10, 11, 12, 13] [] (by kernel_rfl) (by kernel_rfl) (by repeat (first | with_reducible refine panOk_then ?_ | with_reducible refine panOk_block ?_ | exact panOk_body)) ?_
      simp only [opsAt, List.getElem?_toArray, List.getElem?_cons_succ, List.getElem?_cons_zero, Option.toList_some, List.cons_append, List.nil_append]
      repeat (go_big_quiet_step (fail))
      refine wpQuiet_nil ?_
      intro V hw2
      have hbV := qt_world hw2
      clear hw2 
      have hBV := below_then hB2 hbV
      have gV := g2.then_ hbV
      have KV : Kp a a w V := Kp.of (below_then hb2 hbV)
      have lV := gV.lt
      have z0 : V.frozen? ⟨a, 0, none⟩ = false := gV.frozen 0
      have z1 : V.frozen? ⟨a, 1, none⟩ = false := gV.frozen 1
      have c0 : V.cell? ⟨a, 0, none⟩ = some (.string (bA s.rest)) := gV.cell 0
      have c1 : V.cell? ⟨a, 1, none⟩ = some (.bool s.bad) := gV.cell 1
      have sl2 := SL2.out
      clear G HB hb2 g2 hB2 hbV
      go_wp2
      go_ret
      refine ⟨by rw [hnum.out]; rfl, ?_, (KV.setX _).setX _, (hBV.setCell (p := ⟨a, 1, none⟩) HA.out _).setCell (p := ⟨a, 0, none⟩) HA.out _⟩
      rw [hnum.out]
      exact (gV.set_ 1 (.bool true)).set_ 0 (.string ⟨#[]⟩)
end Go.Proofs.YtplommmegkdhdaaGreatDoor
/- The reader of the texts of patches, in memory: a number up to a greatest one, a flag. -/
namespace Go.Proofs.YtplommmegkdhdaaGreatDoor
open Go.RowKit

set_option maxRecDepth 100000 in
set_option maxHeartbeats 3200000 in
theorem upTo_any (w0 : World) (hL : Lw w0) (a : Nat) (ha : w0.heap.size ≤ a) (s : Rs) (m : Int) (w : World) (hB : Below w0.heap.size w0 w) (g : Blk w a 83 (rdA s)) (hs : s.rest.length ≤ 1000000) :
    Calls Tryz.prog 34 #[.pointer (some ⟨a, 0, none⟩), .int .i64 m] w fun e w' => e = .returned (.int .i64 (s.upTo m).1) ∧ Blk w' a 83 (rdA (s.upTo m).2) ∧ Kp a a w w' ∧ Below w0.heap.size w0 w' := by
  have HN := Lib.hid (number_any w0 hL a ha s w hB g hs)
  have HA := Lib.hid ha
  obtain ⟨n, en⟩ : ∃ n, s.num.1 = n := ⟨_, rfl⟩
  rw [en] at HN
  have HU : Hid (s.upTo m = if n < 0 ∨ m < n then (0, ⟨[], true⟩) else s.num) := by unfold Hid Rs.upTo; rw [en]
  have HE := Lib.hid en
  clear hB hL ha g hs en
  go_enter Tryz.func34, Tryz.ntmps34
  go_upto_region 2 with (go_at_call 32; (with_reducible refine HN.out.mono ?_); rintro e w1 ⟨rfl, g1, k1, hB1⟩)
  clear HN
  by_cases h0 : n < 0
  · have t0 : decide (n < 0) = true := decide_eq_true h0
    have hu : Hid (s.upTo m = (0, ⟨[], true⟩)) := by unfold Hid; rw [HU.out, if_pos (.inl h0)]
    clear h0 HU HE
    have z0 : w1.frozen? ⟨a, 0, none⟩ = false := g1.frozen 0
    have z1 : w1.frozen? ⟨a, 1, none⟩ = false := g1.frozen 1
    have c0 : w1.cell? ⟨a, 0, none⟩ = some (.string (bA s.num.2.rest)) := g1.cell 0
    have c1 : w1.cell? ⟨a, 1, none⟩ = some (.bool s.num.2.bad) := g1.cell 1
    have l1 := g1.lt
    go_wp2
    go_ret
    refine ⟨by rw [hu.out]; rfl, ?_, (k1.setX _).setX _, (hB1.setCell (p := ⟨a, 1, none⟩) HA.out _).setCell (p := ⟨a, 0, none⟩) HA.out _⟩
    rw [hu.out]
    exact (g1.set_ 1 (.bool true)).set_ 0 (.string ⟨#[]⟩)
  · have t0 : decide (n < 0) = false := decide_eq_false h0
    by_cases h1 : m < n
    · have t1 : decide (m < n) = true := decide_eq_true h1
      have hu : Hid (s.upTo m = (0, ⟨[], true⟩)) := by unfold Hid; rw [HU.out, if_pos (.inr h1)]
      clear h0 h1 HU HE
      have z0 : w1.frozen? ⟨a, 0, none⟩ = false := g1.frozen 0
      have z1 : w1.frozen? ⟨a, 1, none⟩ = false := g1.frozen 1
      have c0 : w1.cell? ⟨a, 0, none⟩ = some (.string (bA s.num.2.rest)) := g1.cell 0
      have c1 : w1.cell? ⟨a, 1, none⟩ = some (.bool s.num.2.bad) := g1.cell 1
      have l1 := g1.lt
      go_wp2
      go_ret
      refine ⟨by rw [hu.out]; rfl, ?_, (k1.setX _).setX _, (hB1.setCell (p := ⟨a, 1, none⟩) HA.out _).setCell (p := ⟨a, 0, none⟩) HA.out _⟩
      rw [hu.out]
      exact (g1.set_ 1 (.bool true)).set_ 0 (.string ⟨#[]⟩)
    · have t1 : decide (m < n) = false := decide_eq_false h1
      have hu : Hid (s.upTo m = s.num) := by unfold Hid; rw [HU.out, if_neg (by omega)]
      clear h0 h1 HU
      go_wp2
      go_ret
      exact ⟨by rw [hu.out, HE.out]; rfl, by rw [hu.out]; exact g1, k1, hB1⟩
set_option maxRecDepth 100000 in
theorem flag_any (w0 : World) (hL : Lw w0) (a b : Nat) (ha : w0.heap.size ≤ a) (s : Rs) (w : World) (hB : Below w0.heap.size w0 w) (g : Blk w a 83 (rdA s)) (gb : Blk w b 81 #[.pointer (some ⟨a, 0, none⟩)]) (hs : s.rest.length ≤ 1000000) :
    Calls Tryz.prog 33 #[.pointer (some ⟨b, 0, none⟩)] w fun e w' => e = .returned (.bool ((s.upTo 1).1 == 1)) ∧ Blk w' a 83 (rdA (s.upTo 1).2) ∧ Kp a a w w' ∧ Below w0.heap.size w0 w' := by
  have HU := Lib.hid (upTo_any w0 hL a ha s 1 w hB g hs)
  have c0 : w.cell? ⟨b, 0, none⟩ = some (.pointer (some ⟨a, 0, none⟩)) := gb.cell 0
  clear hB hL ha g hs gb
  go_enter Tryz.func33, Tryz.ntmps33
  go_wp2_with (go_at_call 34; (with_reducible refine HU.out.mono ?_); rintro e w1 ⟨rfl, g1, k1, hB1⟩)
  go_ret
  exact ⟨rfl, g1, k1, hB1⟩
end Go.Proofs.YtplommmegkdhdaaGreatDoor
/- One walked step for 'x := l[i]' at a struct: the load, the new variable, the store. No cell is opened. -/
namespace Go.Proofs.YtplommmegkdhdaaGreatDoor
open Go.RowKit

/-- a struct type of n cells, for a load and a new variable -/
structure ElT (P : Program) (ty : TypeId) (n : Nat) : Prop where
  u : ∃ fs, P.underlying ty = some (.struct fs)
  i : (P.info? ty).map (·.size) = some n
  z : ∃ v : Value, v.cells.size = n ∧ ∀ w : World, (zeroValue ty).run P w = .ok v w
theorem setCells_new (w : World) (t : TypeId) : ∀ (vs pre rest : List Value), rest.length = vs.length → (w.alloc (.cells (pre ++ rest).toArray t)).setCells w.heap.size pre.length vs = w.alloc (.cells (pre ++ vs).toArray t)
  | [], pre, rest, h => by
    obtain rfl : rest = [] := List.eq_nil_of_length_eq_zero h
    rfl
  | v :: vs, pre, rest, h => by
    cases rest with
    | nil => simp at h
    | cons r rest =>
      have h2 := setCells_new w t vs (pre ++ [v]) rest (by simpa using h)
      simp only [World.setCells]
      rw [World.setCell_alloc_at _ _ _ _ _ rfl]
      simp only [List.length_append, List.length_cons, List.length_nil, Nat.zero_add, List.append_assoc, List.cons_append, List.nil_append] at h2
      rw [show ((pre ++ r :: rest).toArray.setIfInBounds pre.length v) = (pre ++ v :: rest).toArray by simp]
      exact h2
theorem setCells_new0 (w : World) (t : TypeId) (c : Array Value) (vs : List Value) (h : c.size = vs.length) : (w.alloc (.cells c t)).setCells w.heap.size 0 vs = w.alloc (.cells vs.toArray t) := by
  have := setCells_new w t vs [] c.toList (by simpa using h)
  simpa using this
/-- x := l[i] at a struct: load, alloc, store -/
theorem wpList_elem {P : Program} {ops : Array Oper} {rest : List Oper} {o1 o2 o3 : Oper} {a : Act} {w : World} {Q : Exit → Act → World → Prop} {n : Nat} (ty : TypeId) (E : ElT P ty n) (x : Operand) (d1 d2 : Tmp)
    (g1 : o1.guard = none) (g2 : o2.guard = none) (g3 : o3.guard = none)
    (ho1 : o1.op = .load ty x) (hd1 : o1.dst = some d1) (ho2 : o2.op = .alloc ty) (hd2 : o2.dst = some d2) (ho3 : o3.op = .store ty (.tmp d2) (.tmp d1)) (hd3 : o3.dst = none)
    (b o : Nat) (hx : a.eval x = .pointer (some ⟨b, o, none⟩)) (cs : List Value) (hn : cs.length = n) (hc : w.rangeAt b o cs) (h1 : ∀ v ∈ cs, v.oneCell' = true) (hne : d1 ≠ d2) (s1 : d1 < a.tmps.size) (s2 : d2 < a.tmps.size)
    (h : wpList P ops Q rest ((a.put (some d1) (.agg cs.toArray)).put (some d2) (.pointer (some ⟨w.heap.size, 0, none⟩))) (w.alloc (.cells cs.toArray ty))) : wpList P ops Q (o1 :: o2 :: o3 :: rest) a w := by
  subst hn
  obtain ⟨⟨fs, hu⟩, hi, v, hz, hzr⟩ := E
  refine wpList_load_mid g1 ty x ho1 b o hx cs _ hc hu rfl hi ?_
  rw [hd1]
  refine wpList_plain g2 fun K hK => ?_
  have hrun : (execOp (Act.eval (a.put (some d1) (.agg cs.toArray))) o2).run P w = .ok (.value (.pointer (some ⟨w.heap.size, 0, none⟩))) (w.alloc (.cells v.cells ty)) := by
    unfold execOp
    simp only [ho2, Instr.alloc, Sem.run_bind, hzr, Result.andThen_ok, newVar, newRow]
    rfl
  unfold Oper.wp
  rw [hrun, Oper.upon_value]
  refine hK _ _ ?_
  rw [hd2]
  refine wpList_store_mid g3 ty _ _ ho3 w.heap.size 0 cs.toArray ?_ ?_ ?_ (by simpa using hi) (all_oneCell_toArray h1) ?_
  · simp [Act.eval, Act.put, s2]
  · simp [Act.eval, Act.put, Array.getD_eq_getD_getElem?, hne.symm, s1]
  · intro j hj
    simp only [Nat.zero_add, List.size_toArray] at hj ⊢
    rw [World.cell?_alloc_at _ _ _ _ rfl, World.frozen?_alloc_at _ _ _ _ rfl]
    simp [hz, hj]
  · rw [hd3]
    simp only
    rw [setCells_new0 w ty _ cs hz]
    exact h
section
variable {P : Program} {ops : Array Oper} {Q : Exit → Act → World → Prop} {a : Act} {w : World} {rest : List Oper} {o : Oper}
/-- an operation whose guard lets it run -/
theorem wpList_wanted (hw : Region.wanted o (yielded ops a.tmps) = true)
    (h : ∀ K : Act → World → Prop, (∀ a w, wpList P ops Q rest a w → K a w) → o.wp P a w K Q) : wpList P ops Q (o :: rest) a w :=
  wpList_step fun K hK => by simp only [hw, if_true]; exact h K hK
/-- a guarded load of a whole block -/
theorem wpList_row_w (hw : Region.wanted o (yielded ops a.tmps) = true) (ty : TypeId) (x : Operand) (ho : o.op = .load ty x) (g : Nat) (hx : a.eval x = .pointer (some ⟨g, 0, none⟩)) (t : TypeId) (cs : Array Value) (hg : Blk w g t cs)
    (hu : ∃ fs, P.underlying ty = some (.struct fs)) (hi : (P.info? ty).map (·.size) = some cs.size)
    (h : wpList P ops Q rest (a.put o.dst (.agg cs)) w) : wpList P ops Q (o :: rest) a w := by
  obtain ⟨fs, hu⟩ := hu
  exact wpList_wanted hw fun K hK => wp_load_row ty x ho g hx t cs (0, 0) _ hg hu rfl hi (hK _ _ h)
end
end Go.Proofs.YtplommmegkdhdaaGreatDoor
/- The walks of contract.movable, none, positive, natural and of isIndex on a table of units. -/
namespace Go.Proofs.YtplommmegkdhdaaGreatDoor
open Go.RowKit

theorem mov_any (c : Con) (m : Cm) (r : Int) (w : World) : Calls Tryz.prog 60 #[.agg (coA c m), .int .i64 r] w fun e w' => e = .returned (.bool (c.mov r)) ∧ Below w.heap.size w w' := by
  go_enter Tryz.func60, Tryz.ntmps60
  go_wp2
  all_goals go_ret
  all_goals exact ⟨ret_bool (by first | (simp_all [Con.mov, isI]; done) | (simp_all [Con.mov, isI]; omega)), wa1 _ _⟩
theorem isIx_any (t : List Uni) (A : Option Addr) (cap : Nat) (i : Int) (w : World) : Calls Tryz.prog 97 #[.slice A t.length cap, .int .i64 i] w fun e w' => e = .returned (.bool (isI i t.length)) ∧ w' = w := by
  go_enter Tryz.func97, Tryz.ntmps97
  go_wp2
  all_goals go_ret
  all_goals exact ⟨ret_bool (by first | (simp_all [isI]; done) | (simp_all [isI]; omega)), rfl⟩
theorem none_any (w : World) : Calls Tryz.prog 58 #[] w fun e w' => e = .returned (.agg #[.int .i64 0, .int .i64 1]) ∧ Below w.heap.size w w' := by
  go_enter Tryz.func58, Tryz.ntmps58
  go_wp2
  refine bodyPost_ret (by simp [results, Tryz.results58, go_sem, *]; rfl) rfl ⟨?_, ?_⟩
  · rfl
  · (repeat (first | exact Below.refl _ _ | refine below_drewN ?_ _ | refine Below.drew ?_ | refine below_alloc ?_ _ | refine Below.setCell ?_ (by first | omega | (simp; done) | (simp; omega)) _ | refine below_then ?_ (by assumption)))
theorem pos_any (a b : Int) (w : World) (ha : I64 a) (hb : I64 b) : Calls Tryz.prog 59 #[.agg #[.int .i64 a, .int .i64 b]] w fun e w' => e = .returned (.bool (psv (a, b))) ∧ Below w.heap.size w w' := by
  have HV := Lib.hid (fun W => valid_any a b W ha.1 ha.2 hb.1 hb.2)
  clear ha hb
  by_cases h : 0 < a
  · have t1 := decide_eq_true h
    have hp : Hid (psv (a, b) = vld a b) := by unfold Hid psv; rw [t1]; rfl
    clear h
    go_enter Tryz.func59, Tryz.ntmps59
    go_wp2_with (go_at_call 79; refine (HV.out _).mono ?_; rintro e w1 ⟨rfl, hb⟩; obtain ⟨hc, hf⟩ := bcell hb; have hz := hb.size; (try simp at hz); (have zl0 : w.heap.size < w1.heap.size := by omega); (have ze0 : w.heap.size ≤ w1.heap.size := by omega))
    go_ret
    exact ⟨ret_bool hp.out.symm, by (repeat (first | exact Below.refl _ _ | refine below_drewN ?_ _ | refine Below.drew ?_ | refine below_alloc ?_ _ | refine Below.setCell ?_ (by first | omega | (simp; done) | (simp; omega)) _ | refine below_then ?_ (by assumption)))⟩
  · have t1 := decide_eq_false h
    have hp : Hid (psv (a, b) = false) := by unfold Hid psv; rw [t1]; rfl
    clear h
    go_enter Tryz.func59, Tryz.ntmps59
    go_wp2
    go_ret
    exact ⟨ret_bool hp.out.symm, by (repeat (first | exact Below.refl _ _ | refine below_drewN ?_ _ | refine Below.drew ?_ | refine below_alloc ?_ _ | refine Below.setCell ?_ (by first | omega | (simp; done) | (simp; omega)) _ | refine below_then ?_ (by assumption)))⟩
set_option maxRecDepth 100000 in
theorem nat_any (c : Con) (m : Cm) (a : Int) (w : World) (hs : Seg w w.heap.size 7 eA m.a c.ac) : Calls Tryz.prog 57 #[.agg (coA c m), .int .i64 a] w fun e w' => e = .returned (.bool (c.nat a)) ∧ Below w.heap.size w w' := by
  by_cases hi : isI a c.ac.length = true
  · obtain ⟨h1, h2⟩ := isI_iff.1 hi
    obtain ⟨k, rfl⟩ := Int.eq_ofNat_of_zero_le h1
    have hk : k < c.ac.length := by omega
    have hx := List.getElem?_eq_getElem hk
    obtain ⟨x, ex⟩ : ∃ x, c.ac[k] = x := ⟨_, rfl⟩
    rw [ex] at hx
    obtain ⟨b, off, eA', hb, hc⟩ := segAt hs hx
    have d1 : (w.alloc (.cells (coA c m) 27)).cell? ⟨b, off + k * 7, none⟩ = some (.int .i64 x.kind) := ((wa1 w _).cell (p := ⟨b, off + k * 7, none⟩) hb).trans (hc 0 _ rfl)
    have d2 : (w.alloc (.cells (coA c m) 27)).cell? ⟨b, off + k * 7 + 1, none⟩ = some (.int .i64 x.role) := ((wa1 w _).cell (p := ⟨b, off + k * 7 + 1, none⟩) hb).trans (hc 1 _ rfl)
    have HR : Hid (c.nat k = (x.kind == 1 && x.role == -1)) := by
      unfold Hid Con.nat
      rw [hi]
      simp only [Int.toNat_natCast, hx, Bool.true_and]
    have t1 : decide ((0 : Int) ≤ (k : Int)) = true := decide_eq_true (by omega)
    have t2 : decide ((k : Int) < (c.ac.length : Int)) = true := decide_eq_true (by omega)
    clear hc ex hx hs hi h1 h2
    go_enter Tryz.func57, Tryz.ntmps57
    go_wp2
    all_goals go_ret
    all_goals exact ⟨ret_bool (by rw [HR.out]; simp_all), wa1 _ _⟩
  · have HR : Hid (c.nat a = false) := by
      unfold Hid Con.nat
      rw [Bool.eq_false_iff.2 hi]; rfl
    have hno : a < 0 ∨ (0 ≤ a ∧ ¬ a < c.ac.length) := by
      rcases Int.lt_or_le a 0 with h | h
      · exact .inl h
      · exact .inr ⟨h, fun h2 => hi (isI_iff.2 ⟨h, h2⟩)⟩
    clear hi hs
    rcases hno with h | ⟨h, h2⟩
    · have t1 : decide (0 ≤ a) = false := decide_eq_false (by omega)
      clear h
      go_enter Tryz.func57, Tryz.ntmps57
      go_wp2
      go_ret
      exact ⟨ret_bool HR.out.symm, wa1 _ _⟩
    · have t1 := decide_eq_true h
      have t2 := decide_eq_false h2
      clear h h2
      go_enter Tryz.func57, Tryz.ntmps57
      go_wp2
      go_ret
      exact ⟨ret_bool HR.out.symm, wa1 _ _⟩
end Go.Proofs.YtplommmegkdhdaaGreatDoor
/- The walk of contract.validKind. -/
namespace Go.Proofs.YtplommmegkdhdaaGreatDoor
open Go.RowKit

abbrev kA (x : Km) : Array Value := #[.int .i64 x.k.kind, .int .i64 x.k.role, .int .i64 x.k.act, .int .i64 x.k.need, .slice x.A x.k.start.length x.cap, .int .i64 x.k.aft, .int .i64 x.k.grace, .bool x.k.bus, .bool x.k.fin, .int .i64 x.k.pause, .int .i64 x.k.resume, .int .i64 x.k.v.1, .int .i64 x.k.v.2, .int .i64 x.k.unit, .int .i64 x.k.to_, .bool x.k.waived]
set_option maxRecDepth 100000 in
set_option maxHeartbeats 3200000 in
theorem kind_key (c : Con) (m : Cm) (x : Km) (mv nt : Bool) (w : World) (HM : Hid (∀ W, Calls Tryz.prog 60 #[.agg (coA c m), .int .i64 x.k.role] W fun e w' => e = .returned (.bool mv) ∧ Below W.heap.size W w')) (HN : Hid (∀ W, Below w.heap.size w W → Calls Tryz.prog 57 #[.agg (coA c m), .int .i64 x.k.act] W fun e w' => e = .returned (.bool nt) ∧ Below W.heap.size W w'))
    (R : Bool) (hR : Hid (R = if x.k.kind == 4 then x.k.role == -1 && x.k.need == 1 && x.k.grace == 0 && !x.k.fin else mv && !nt && (
      if x.k.kind == 1 then decide (1 ≤ x.k.need) && decide (x.k.need ≤ 9) && decide (0 ≤ x.k.grace) && decide (x.k.grace ≤ 400)
      else if x.k.kind == 2 then x.k.need == 1 && x.k.grace == 0
      else x.k.kind == 3 && x.k.need == 1 && x.k.grace == 0 && !x.k.fin))) :
    Calls Tryz.prog 56 #[.agg (coA c m), .agg (kA x)] w fun e w' => e = .returned (.bool R) ∧ Below w.heap.size w w' := by
  cases mv <;> cases nt
  all_goals
    go_enter Tryz.func56, Tryz.ntmps56
    go_wp2_with (first | (go_at_call 60; refine (HM.out _).mono ?_; rintro e w1 ⟨rfl, hb⟩; obtain ⟨hc, hf⟩ := bcell hb; have hz := hb.size; (try simp at hz); (have zl0 : w.heap.size < w1.heap.size := by omega); (have ze0 : w.heap.size ≤ w1.heap.size := by omega); (have zl1 : w.heap.size + 1 < w1.heap.size := by omega); (have ze1 : w.heap.size + 1 ≤ w1.heap.size := by omega)) | (go_at_call 57; refine (HN.out _ (by (repeat (first | exact Below.refl _ _ | refine below_drewN ?_ _ | refine Below.drew ?_ | refine below_alloc ?_ _ | refine Below.setCell ?_ (by first | omega | (simp; done) | (simp; omega)) _ | refine below_then ?_ (by assumption))))).mono ?_; rintro e w1 ⟨rfl, hb⟩; obtain ⟨hc, hf⟩ := bcell hb; have hz := hb.size; (try simp at hz); (have zl0 : w.heap.size < w1.heap.size := by omega); (have ze0 : w.heap.size ≤ w1.heap.size := by omega); (have zl1 : w.heap.size + 1 < w1.heap.size := by omega); (have ze1 : w.heap.size + 1 ≤ w1.heap.size := by omega)))
    all_goals go_ret
    all_goals exact ⟨ret_bool (by rw [hR.out]; first | (simp_all; done) | (simp_all; omega)), by (repeat (first | exact Below.refl _ _ | refine below_drewN ?_ _ | refine Below.drew ?_ | refine below_alloc ?_ _ | refine Below.setCell ?_ (by first | omega | (simp; done) | (simp; omega)) _ | refine below_then ?_ (by assumption)))⟩
end Go.Proofs.YtplommmegkdhdaaGreatDoor
/- Two ratios compared whole; a world named; a block made. (Small things of the ratio seat, where there are no laws on ratios.) -/
namespace Go.Proofs.YtplommmegkdhdaaGreatDoor
open Go.RowKit

theorem name_wp {P : Program} {c : Code} {Q : Exit → Act → World → Prop} {a : Act} {w : World} (h : ∀ w', w' = w → c.wp P Q a w') : c.wp P Q a w := h w rfl
theorem blk_at {w : World} {n : Nat} {T : TypeId} {cs : Array Value} (h : n = w.heap.size) : Blk (w.alloc (.cells cs T)) n T cs := h ▸ Blk.new w T cs
theorem eqv2 (a b c d : Int) (w : World) : (Op.equalIn 10000 30 (.agg #[.int .i64 a, .int .i64 b]) (.agg #[.int .i64 c, .int .i64 d])).run Tryz.prog w = .ok (decide (a = c ∧ b = d)) w := by
  have e : (Tryz.prog.fieldsOf 30).toList = [{ name := "Num", type := 3, offset := 0, embedded := false, tag := "", pkgPath := "", byteOffset := 0 }, { name := "Den", type := 3, offset := 1, embedded := false, tag := "", pkgPath := "", byteOffset := 8 }] := by kernel_rfl
  have p1 : (part 3 #[.int .i64 a, .int .i64 b] 0).run Tryz.prog w = .ok (.int .i64 a) w := by kernel_rfl
  have p2 : (part 3 #[.int .i64 a, .int .i64 b] 1).run Tryz.prog w = .ok (.int .i64 b) w := by kernel_rfl
  have p3 : (part 3 #[.int .i64 c, .int .i64 d] 0).run Tryz.prog w = .ok (.int .i64 c) w := by kernel_rfl
  have p4 : (part 3 #[.int .i64 c, .int .i64 d] 1).run Tryz.prog w = .ok (.int .i64 d) w := by kernel_rfl
  have u := Tryz.underlying3
  show (Op.equalIn (9998 + 1 + 1) _ _ _).run _ _ = _
  rw [run_equalIn_agg w (9998 + 1) 30 _ _ (by kernel_rfl) (by kernel_rfl), e]
  simp only [Op.eqFields, Sem.run_bind, p1, p2, p3, p4, Result.andThen_ok, run_equalIn_int w 9998 3 .i64 .i64 _ _ u, ne_eq, Sem.run_ite, Sem.run_pure]
  by_cases h1 : a = c <;> by_cases h2 : b = d <;> simp [h1, h2]
/-- an element's address, where the list lies behind a variable -/
theorem idx_at {t : TypeId} {size : Nat} {A : Option Addr} {b0 o0 len cap k : Nat} (eA : A = some ⟨b0, o0, none⟩) (hk : k < len) (ht : Tryz.prog.underlying t = some (.slice (Tryz.prog.elem t))) (hs : ∀ W : World, (sizeOf (Tryz.prog.elem t)).run Tryz.prog W = .ok size W) (W : World) :
    (Instr.indexAt t (.slice A len cap) (.int .i64 (k : Nat))).run Tryz.prog W = .ok (.pointer (some ⟨b0, o0 + k * size, none⟩)) W := by
  rw [eA, run_indexAt_slice W t _ len cap .i64 k ht, if_pos ⟨by omega, by omega⟩, hs]
  simp [Addr.add]
end Go.Proofs.YtplommmegkdhdaaGreatDoor
