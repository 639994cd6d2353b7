/- The walk of ValidateTexts. -/
import Derived.Test.YtginnonjdbpamaaGreatDoorMb37
import Derived.Test.YtginnonjdbpamaaGreatDoorZWf2
import Derived.Test.YtginnonjdbpamaaGreatDoorZWb1
namespace Go.Proofs.YtginnonjdbpamaaGreatDoor
open Go.RowKit Go.Sort
theorem short2 (a b : Sta) (qa qb : Qm) (g : Nat) (W : World) (hg : Blk W g 43 #[.int .i64 a.day, .slice qa.h a.hol.length qa.hc, .slice qa.u a.used.length qa.uc, .slice qa.m a.marks.length qa.mc, .int .i64 b.day, .slice qb.h b.hol.length qb.hc, .slice qb.u b.used.length qb.uc, .slice qb.m b.marks.length qb.mc]) :
  Calls Tryz.prog 18 #[.slice (some ⟨g, 0, none⟩) 2 2] W fun e w' => e = .returned (.bool (shQ (a, qa) && shQ (b, qb))) ∧ Below W.heap.size W w' := by
 have h := short_any [(a, qa), (b, qb)] (some ⟨g, 0, none⟩) 2 W (blk_seg (xs := [(a, qa), (b, qb)]) eQ_len hg) (by simp)
 have e : [(a, qa), (b, qb)].all shQ = (shQ (a, qa) && shQ (b, qb)) := by simp
 rw [e] at h
 exact h
theorem shQ_le {s : Sta} {q : Qm} (h : shQ (s, q) = true) : s.hol.length ≤ 20 ∧ s.used.length ≤ 80 ∧ s.marks.length ≤ 20 := by
 unfold shQ at h
 simp only [Bool.not_eq_true', Bool.or_eq_false_iff, decide_eq_false_iff_not] at h
 omega
theorem short_stm {w : World} {s : Sta} {q : Qm} (h : StaW w s q) (hs : shQ (s, q) = true) : Stm w s q := by
 obtain ⟨h1, h2, h3⟩ := shQ_le hs
 exact h.stm (by omega) (by omega) (by omega)
theorem tBy_back (s : ByteArray) : tBy s.data.toList = s := by
 cases s
 simp [tBy]
theorem tBy_inj {a b : List UInt8} : tBy a = tBy b ↔ a = b := by
 constructor
 ·intro h
  have := congrArg (fun x => x.data.toList) h
  simpa [tBy] using this
 ·intro h; rw [h]
theorem decE_text {s : Sta} (h : s.I64) : decE s.text = 0 ∧ decS s.text = s := by
 unfold decE decS
 rw [decV_text h]
 exact ⟨rfl, rfl⟩
theorem decE_back {t : List UInt8} (h : decE t = 0) : (decS t).text = t ∧ (decS t).I64 := by
 unfold decE at h
 unfold decS
 cases hd : decV t with
 | none => rw [hd] at h; simp at h
 | some s => exact decV_back hd
theorem ba_eq (a b : ByteArray) : (a.toList == b.toList) = decide (a = b) := by
 rw [ByteArray.toList_eq, ByteArray.toList_eq]
 by_cases h : a = b
 ·subst h; simp
 ·rw [decide_eq_false h, beq_eq_false_iff_ne]
  intro h2
  exact h (by
   cases a; cases b
   simpa using h2)
theorem enc_at {w : World} (hL : Lw w) (s : Sta) (q : Qm) (hI : s.I64) (h1 : s.hol.length ≤ 5000) (h2 : s.used.length ≤ 5000) (h3 : s.marks.length ≤ 5000) (S : ByteArray) (hS : tBy s.text = S) (W : World) (hb : Below w.heap.size w W) (hm : Stm W s q) :
  Calls Tryz.prog 21 #[.agg (stA s q)] W fun e w' => e = .returned (.string S) ∧ Below W.heap.size W w' := by
 subst hS
 exact encode_any s q W (Lib.tabBelow_of_tabIs (hL.below hb).tab) hm hI h1 h2 h3
theorem dec_at {w : World} (hL : Lw w) (t : List UInt8) (S : ByteArray) (hS : tBy t = S) (ht : t.length ≤ 900000) (D : Sta) (E : Int) (hD : decS t = D) (hE : decE t = E) (W : World) (hb : Below w.heap.size w W) :
  Calls Tryz.prog 19 #[.string S] W fun e w' => (∃ q, e = .returned (.tuple #[.agg (stA D q), .int .i64 E]) ∧ Stm w' D q) ∧ Below W.heap.size W w' := by
 subst hS hD hE
 refine (decode_any t W (hL.below hb) ht).mono ?_
 rintro e w' ⟨⟨q, rfl, h, _⟩, hb2⟩
 exact ⟨⟨q, rfl, h⟩, hb2⟩
set_option maxRecDepth 100000 in
set_option maxHeartbeats 6400000 in
theorem texts_walk (a : Sta) (qa : Qm) (b : Sta) (qb : Qm) (s : ByteArray) (w : World) (hL : Lw w) (ha : StaW w a qa) (hb : StaW w b qb) :
  Calls Tryz.prog 9 #[.agg (stA a qa), .agg (stA b qb), .string s] w fun e w' => e = .returned (.bool true) ∧ Below w.heap.size w w' := by
 have HH := Lib.hid (fun W (hb : Below w.heap.size w W) => head_any W (hL.below hb))
 obtain ⟨sh, eSH⟩ : ∃ x, (shQ (a, qa) && shQ (b, qb)) = x := ⟨_, rfl⟩
 obtain ⟨lg, eLG⟩ : ∃ x, decide ((2000 : Int) < (s.size : Int)) = x := ⟨_, rfl⟩
 cases sh with
 | false =>
  clear ha hb hL
  go_enter Tryz.func9, Tryz.ntmps9
  go_upto_region 1 with (fail)
  refine name_wp ?_
  intro X0 hX
  have gba : Blk X0 w.heap.size 43 (stA a qa) := by rw [hX]; exact (blk_at (by simp)).alloc _
  have gbb : Blk X0 (w.heap.size + 1) 43 (stA b qb) := by rw [hX]; exact blk_at (by simp)
  have HB0 : Below w.heap.size w X0 := by rw [hX]; (repeat (first | exact Below.refl _ _ | refine below_alloc ?_ _))
  clear hX
  obtain ⟨bb, ebb⟩ : ∃ b, w.heap.size + 1 = b := ⟨_, rfl⟩
  obtain ⟨ba, eba⟩ : ∃ b, w.heap.size = b := ⟨_, rfl⟩
  have lba : w.heap.size ≤ ba := by omega
  have lbb : w.heap.size ≤ bb := by omega
  have nbabb : ba ≠ bb := by omega
  rw [ebb] at gbb ⊢
  rw [eba] at gba ⊢
  clear eba ebb
  go_upto_region 2 with ((go_at_call 11; (with_reducible refine (HH.out _ HB0).mono ?_); rintro e w1 ⟨rfl, hbw1⟩))
  have HH1 := hbw1
  have HB1 := below_then HB0 HH1
  have gba_1 := gba.then_ HH1
  have gbb_1 := gbb.then_ HH1
  clear gba gbb HB0 HH1
  have HSH := Lib.hid (short2 a b qa qb w1.heap.size (w1.alloc (.cells #[.int .i64 a.day, .slice qa.h a.hol.length qa.hc, .slice qa.u a.used.length qa.uc, .slice qa.m a.marks.length qa.mc, .int .i64 b.day, .slice qb.h b.hol.length qb.hc, .slice qb.u b.used.length qb.uc, .slice qb.m b.marks.length qb.mc] 43)) (Blk.new _ _ _))
  rw [eSH] at HSH
  clear eSH
  go_wp2_with (first | (refine wpList_row_w (by rfl) 43 _ rfl ba rfl 43 _ gba_1 ⟨_, Tryz.underlying43⟩ (by kernel_rfl) ?_; simp only [Act.put, List.setIfInBounds_toArray, List.set_cons_succ, List.set_cons_zero]) | (refine wpList_row_w (by rfl) 43 _ rfl bb rfl 43 _ gbb_1 ⟨_, Tryz.underlying43⟩ (by kernel_rfl) ?_; simp only [Act.put, List.setIfInBounds_toArray, List.set_cons_succ, List.set_cons_zero]) | (go_at_call 18; (with_reducible refine (HSH.out).mono ?_); rintro e w2 ⟨rfl, hbw2'⟩))
  have hbw2 := (wa1 w1 _).trans (hbw2'.mono (wa1 _ _).size)
  go_ret
  exact ⟨rfl, below_then HB1 hbw2⟩
 | true =>
 cases lg with
 | true =>
  clear ha hb hL
  go_enter Tryz.func9, Tryz.ntmps9
  go_upto_region 1 with (fail)
  refine name_wp ?_
  intro X0 hX
  have gba : Blk X0 w.heap.size 43 (stA a qa) := by rw [hX]; exact (blk_at (by simp)).alloc _
  have gbb : Blk X0 (w.heap.size + 1) 43 (stA b qb) := by rw [hX]; exact blk_at (by simp)
  have HB0 : Below w.heap.size w X0 := by rw [hX]; (repeat (first | exact Below.refl _ _ | refine below_alloc ?_ _))
  clear hX
  obtain ⟨bb, ebb⟩ : ∃ b, w.heap.size + 1 = b := ⟨_, rfl⟩
  obtain ⟨ba, eba⟩ : ∃ b, w.heap.size = b := ⟨_, rfl⟩
  have lba : w.heap.size ≤ ba := by omega
  have lbb : w.heap.size ≤ bb := by omega
  have nbabb : ba ≠ bb := by omega
  rw [ebb] at gbb ⊢
  rw [eba] at gba ⊢
  clear eba ebb
  go_upto_region 2 with ((go_at_call 11; (with_reducible refine (HH.out _ HB0).mono ?_); rintro e w1 ⟨rfl, hbw1⟩))
  have HH1 := hbw1
  have HB1 := below_then HB0 HH1
  have gba_1 := gba.then_ HH1
  have gbb_1 := gbb.then_ HH1
  clear gba gbb HB0 HH1
  have HSH := Lib.hid (short2 a b qa qb w1.heap.size (w1.alloc (.cells #[.int .i64 a.day, .slice qa.h a.hol.length qa.hc, .slice qa.u a.used.length qa.uc, .slice qa.m a.marks.length qa.mc, .int .i64 b.day, .slice qb.h b.hol.length qb.hc, .slice qb.u b.used.length qb.uc, .slice qb.m b.marks.length qb.mc] 43)) (Blk.new _ _ _))
  rw [eSH] at HSH
  clear eSH
  go_wp2_with (first | (refine wpList_row_w (by rfl) 43 _ rfl ba rfl 43 _ gba_1 ⟨_, Tryz.underlying43⟩ (by kernel_rfl) ?_; simp only [Act.put, List.setIfInBounds_toArray, List.set_cons_succ, List.set_cons_zero]) | (refine wpList_row_w (by rfl) 43 _ rfl bb rfl 43 _ gbb_1 ⟨_, Tryz.underlying43⟩ (by kernel_rfl) ?_; simp only [Act.put, List.setIfInBounds_toArray, List.set_cons_succ, List.set_cons_zero]) | (go_at_call 18; (with_reducible refine (HSH.out).mono ?_); rintro e w2 ⟨rfl, hbw2'⟩))
  have hbw2 := (wa1 w1 _).trans (hbw2'.mono (wa1 _ _).size)
  go_ret
  exact ⟨rfl, below_then HB1 hbw2⟩
 | false =>
 have hsab := Bool.and_eq_true_iff.1 eSH
 obtain ⟨a1, a2, a3⟩ := shQ_le hsab.1
 obtain ⟨b1, b2, b3⟩ := shQ_le hsab.2
 have hsz : s.size ≤ 2000 := by have := of_decide_eq_false eLG; omega
 have HSA := Lib.hid (short_stm ha hsab.1)
 have HSB := Lib.hid (short_stm hb hsab.2)
 have IA := ha.i64
 have IB := hb.i64
 obtain ⟨SA, eSA⟩ : ∃ x, tBy a.text = x := ⟨_, rfl⟩
 obtain ⟨SB, eSB⟩ : ∃ x, tBy b.text = x := ⟨_, rfl⟩
 have HEA := Lib.hid (fun W (hw : Below w.heap.size w W) (hm : Stm W a qa) => enc_at hL a qa IA (by omega) (by omega) (by omega) SA eSA W hw hm)
 have HEB := Lib.hid (fun W (hw : Below w.heap.size w W) (hm : Stm W b qb) => enc_at hL b qb IB (by omega) (by omega) (by omega) SB eSB W hw hm)
 have HDA := Lib.hid (fun W (hw : Below w.heap.size w W) => dec_at hL a.text SA eSA (text_up IA (by omega) (by omega) (by omega)) a 0 (decE_text IA).2 (decE_text IA).1 W hw)
 obtain ⟨Y, eY⟩ : ∃ Y, decS s.data.toList = Y := ⟨_, rfl⟩
 obtain ⟨E, eE⟩ : ∃ E, decE s.data.toList = E := ⟨_, rfl⟩
 have hsl : s.data.toList.length = s.size := by rw [Array.length_toList]; rfl
 have HDS := Lib.hid (fun W (hw : Below w.heap.size w W) => dec_at hL s.data.toList s (tBy_back s) (by omega) Y E eY eE W hw)
 have HEY := Lib.hid (fun (h0 : E = 0) (q : Qm) W (hw : Below w.heap.size w W) (hm : Stm W Y q) => by
  have hbk := decE_back (eE.trans h0)
  rw [eY] at hbk
  have hln := text_lens Y
  rw [hbk.1] at hln
  exact enc_at hL Y q hbk.2 (by omega) (by omega) (by omega) s (by rw [hbk.1]; exact tBy_back s) W hw hm)
 have HSM := Lib.hid (fun (x y : Sta) (q r : Qm) (W : World) (hx : Stm W x q) (hy : Stm W y r) => same_any x y q r W hx hy)
 have heq : Hid ((SA.toList == SB.toList) = decide (a = b)) := by
  unfold Hid
  rw [ba_eq, ← eSA, ← eSB]
  refine decide_eq_decide.2 ?_
  rw [tBy_inj]
  exact ⟨fun h => text_injS IA IB h, fun h => by rw [h]⟩
 have hss : (s.toList == s.toList) = true := by simp
 have haa : decide (a = a) = true := by simp
 obtain ⟨D, eD⟩ : ∃ D, decide (a = b) = D := ⟨_, rfl⟩
 rw [eD] at heq
 clear ha hb hL hsab a1 a2 a3 b1 b2 b3 IA IB hsl hsz eSA eSB eY eE
 go_enter Tryz.func9, Tryz.ntmps9
 go_upto_region 1 with (fail)
 refine name_wp ?_
 intro X0 hX
 have gba : Blk X0 w.heap.size 43 (stA a qa) := by rw [hX]; exact (blk_at (by simp)).alloc _
 have gbb : Blk X0 (w.heap.size + 1) 43 (stA b qb) := by rw [hX]; exact blk_at (by simp)
 have HB0 : Below w.heap.size w X0 := by rw [hX]; (repeat (first | exact Below.refl _ _ | refine below_alloc ?_ _))
 clear hX
 obtain ⟨bb, ebb⟩ : ∃ b, w.heap.size + 1 = b := ⟨_, rfl⟩
 obtain ⟨ba, eba⟩ : ∃ b, w.heap.size = b := ⟨_, rfl⟩
 have lba : w.heap.size ≤ ba := by omega
 have lbb : w.heap.size ≤ bb := by omega
 have nbabb : ba ≠ bb := by omega
 rw [ebb] at gbb ⊢
 rw [eba] at gba ⊢
 clear eba ebb
 go_upto_region 2 with ((go_at_call 11; (with_reducible refine (HH.out _ HB0).mono ?_); rintro e w1 ⟨rfl, hbw1⟩))
 have HH1 := hbw1
 have HB1 := below_then HB0 HH1
 have gba_1 := gba.then_ HH1
 have gbb_1 := gbb.then_ HH1
 clear gba gbb HB0 HH1
 have HSH := Lib.hid (short2 a b qa qb w1.heap.size (w1.alloc (.cells #[.int .i64 a.day, .slice qa.h a.hol.length qa.hc, .slice qa.u a.used.length qa.uc, .slice qa.m a.marks.length qa.mc, .int .i64 b.day, .slice qb.h b.hol.length qb.hc, .slice qb.u b.used.length qb.uc, .slice qb.m b.marks.length qb.mc] 43)) (Blk.new _ _ _))
 rw [eSH] at HSH
 clear eSH
 go_upto_region 4 with (first | (refine wpList_row_w (by rfl) 43 _ rfl ba rfl 43 _ gba_1 ⟨_, Tryz.underlying43⟩ (by kernel_rfl) ?_; simp only [Act.put, List.setIfInBounds_toArray, List.set_cons_succ, List.set_cons_zero]) | (refine wpList_row_w (by rfl) 43 _ rfl bb rfl 43 _ gbb_1 ⟨_, Tryz.underlying43⟩ (by kernel_rfl) ?_; simp only [Act.put, List.setIfInBounds_toArray, List.set_cons_succ, List.set_cons_zero]) | (go_at_call 18; (with_reducible refine (HSH.out).mono ?_); rintro e w2 ⟨rfl, hbw2'⟩))
 have hbw2 := (wa1 w1 _).trans (hbw2'.mono (wa1 _ _).size)
 clear hbw2'
 have HH2 := hbw2
 have HB2 := below_then HB1 HH2
 have gba_2 := gba_1.then_ HH2
 have gbb_2 := gbb_1.then_ HH2
 clear gba_1 gbb_1 HB1 HH2
 have hqa := HSA.out.then_ HB2
 have hqb := HSB.out.then_ HB2
 have HSA2 := hqa
 have HSB2 := hqb
 clear HSA HSB HSA2 HSB2
 go_upto_region 5 with (first | (refine wpList_row_w (by rfl) 43 _ rfl ba rfl 43 _ gba_2 ⟨_, Tryz.underlying43⟩ (by kernel_rfl) ?_; simp only [Act.put, List.setIfInBounds_toArray, List.set_cons_succ, List.set_cons_zero]) | (go_at_call 21; (with_reducible refine (HEA.out _ HB2 hqa).mono ?_); rintro e w3 ⟨rfl, hbw3⟩))
 have HH3 := hbw3
 have HB3 := below_then HB2 HH3
 have gba_3 := gba_2.then_ HH3
 have gbb_3 := gbb_2.then_ HH3
 have hqa_3 := hqa.then_ HH3
 have hqb_3 := hqb.then_ HH3
 clear gba_2 gbb_2 hqa hqb HB2 HH3
 go_upto_region 6 with (first | (go_at_call 19; (with_reducible refine (HDA.out _ HB3).mono ?_); rintro e w4 ⟨⟨qx, rfl, hqx⟩, hbw4⟩) | (refine wpList_store_all rfl 43 _ _ rfl w4.heap.size 43 [] zS.toList [] (stA a qx).toList rfl rfl (Blk.new _ _ _) rfl (by kernel_rfl) (by simp [Value.oneCell']) ?_; intro u4 gbu4 Uu4))
 have hsu4 : Below w4.heap.size w4 u4 := (wa1 _ _).trans (Uu4.b _ (Nat.le_refl _))
 have HH4 := below_then hbw4 hsu4
 have HB4 := below_then HB3 HH4
 have gba_4 := gba_3.then_ HH4
 have gbb_4 := gbb_3.then_ HH4
 have hqa_4 := hqa_3.then_ HH4
 have hqb_4 := hqb_3.then_ HH4
 clear gba_3 gbb_3 hqa_3 hqb_3 HB3 HH4
 have hqX := hqx.then_ hsu4
 obtain ⟨bu4, ebu4⟩ : ∃ b, w4.heap.size = b := ⟨_, rfl⟩
 rw [ebu4] at gbu4 ⊢
 clear ebu4 Uu4 hsu4 hbw4 hqx
 go_upto_region 7 with (first | (go_at_call 19; (with_reducible refine (HDS.out _ HB4).mono ?_); rintro e w5 ⟨⟨qy, rfl, hqy⟩, hbw5⟩) | (refine wpList_store_all rfl 43 _ _ rfl w5.heap.size 43 [] zS.toList [] (stA Y qy).toList rfl rfl (Blk.new _ _ _) rfl (by kernel_rfl) (by simp [Value.oneCell']) ?_; intro u5 gbu5 Uu5))
 have hsu5 : Below w5.heap.size w5 u5 := (wa1 _ _).trans (Uu5.b _ (Nat.le_refl _))
 have HH5 := below_then hbw5 hsu5
 have HB5 := below_then HB4 HH5
 have gba_5 := gba_4.then_ HH5
 have gbb_5 := gbb_4.then_ HH5
 have hqa_5 := hqa_4.then_ HH5
 have hqb_5 := hqb_4.then_ HH5
 have gbu4_5 := gbu4.then_ HH5
 have hqX_5 := hqX.then_ HH5
 clear gba_4 gbb_4 hqa_4 hqb_4 gbu4 hqX HB4 HH5
 have hqY := hqy.then_ hsu5
 obtain ⟨bu5, ebu5⟩ : ∃ b, w5.heap.size = b := ⟨_, rfl⟩
 rw [ebu5] at gbu5 ⊢
 clear ebu5 Uu5 hsu5 hbw5 hqy
 by_cases h0 : E = 0
 ·subst h0
  go_upto_region 9 with (first | (refine wpList_row_w (by rfl) 43 _ rfl bu4 rfl 43 _ gbu4_5 ⟨_, Tryz.underlying43⟩ (by kernel_rfl) ?_; simp only [Act.put, List.setIfInBounds_toArray, List.set_cons_succ, List.set_cons_zero]) | (refine wpList_row_w (by rfl) 43 _ rfl ba rfl 43 _ gba_5 ⟨_, Tryz.underlying43⟩ (by kernel_rfl) ?_; simp only [Act.put, List.setIfInBounds_toArray, List.set_cons_succ, List.set_cons_zero]) | (go_at_call 23; (with_reducible refine (HSM.out a a qx qa _ hqX_5 hqa_5).mono ?_); rintro e w6 ⟨rfl, hbw6⟩; have g6 := gbu5.then_ hbw6; have B6 := below_then HB5 hbw6; have y6 := hqY.then_ hbw6) | (refine wpList_row_w (by rfl) 43 _ rfl bu5 rfl 43 _ g6 ⟨_, Tryz.underlying43⟩ (by kernel_rfl) ?_; simp only [Act.put, List.setIfInBounds_toArray, List.set_cons_succ, List.set_cons_zero]) | (go_at_call 21; (with_reducible refine (HEY.out (by simp) qy _ B6 y6).mono ?_); rintro e w7 ⟨rfl, hbw7⟩))
  have HH6 := below_then hbw6 hbw7
  have HB6 := below_then HB5 HH6
  have gba_6 := gba_5.then_ HH6
  have gbb_6 := gbb_5.then_ HH6
  have hqa_6 := hqa_5.then_ HH6
  have hqb_6 := hqb_5.then_ HH6
  have gbu4_6 := gbu4_5.then_ HH6
  have hqX_6 := hqX_5.then_ HH6
  have gbu5_6 := gbu5.then_ HH6
  have hqY_6 := hqY.then_ HH6
  clear gba_5 gbb_5 hqa_5 hqb_5 gbu4_5 hqX_5 gbu5 hqY HB5 HH6
  clear g6 B6 y6
  obtain ⟨s0, s1, s2, s3⟩ := stC (c := a) (m := qa) gba_6 rfl
  obtain ⟨r0, r1, r2, r3⟩ := stC (c := b) (m := qb) gbb_6 rfl
  have HE9 : Hid (∀ W, Below w7.heap.size w7 W → Calls Tryz.prog 21 #[.agg #[.int .i64 b.day, .slice qb.h b.hol.length qb.hc, .slice qb.u b.used.length qb.uc, .slice qb.m b.marks.length qb.mc]] W fun e w' => e = .returned (.string SB) ∧ Below W.heap.size W w') := fun W hw => HEB.out W (below_then HB6 hw) (hqb_6.then_ hw)
  have HS9 : Hid (∀ W, Below w7.heap.size w7 W → Calls Tryz.prog 23 #[.agg #[.int .i64 a.day, .slice qa.h a.hol.length qa.hc, .slice qa.u a.used.length qa.uc, .slice qa.m a.marks.length qa.mc], .agg #[.int .i64 b.day, .slice qb.h b.hol.length qb.hc, .slice qb.u b.used.length qb.uc, .slice qb.m b.marks.length qb.mc]] W fun e w' => e = .returned (.bool D) ∧ Below W.heap.size W w') := fun W hw => by
   rw [← eD]
   exact HSM.out a b qa qb W (hqa_6.then_ hw) (hqb_6.then_ hw)
  have HBW := Lib.hid HB6
  have hEQ := heq.out
  clear eD
  go_upto_region 9 with (fail)
  have rg0 := cell_regrown s0
  have rg1 := cell_regrown s1
  have rg2 := cell_regrown s2
  have rg3 := cell_regrown s3
  have rg4 := cell_regrown r0
  have rg5 := cell_regrown r1
  have rg6 := cell_regrown r2
  have rg7 := cell_regrown r3
  refine wp_region_qt [0, 1, 2, 3, 4, 5, 6, 7, 8, 9, 10] [11] (by kernel_rfl) (by kernel_rfl) (by repeat (first | with_reducible refine panOk_then ?_ | with_reducible refine panOk_block ?_ | exact panOk_body)) ?_
  simp only [opsAt, List.getElem?_toArray, List.getElem?_cons_succ, List.getElem?_cons_zero, Option.toList_some, List.cons_append, List.nil_append]
  repeat (go_big_quiet_step ((first | (go_at_call 21; with_reducible exact qt_call (fun W' hW' => HE9.out W' hW') _ _) | (go_at_call 23; with_reducible exact qt_call (fun W' hW' => HS9.out W' hW') _ _))))
  refine wpQuiet_nil ?_
  intro Z hw2
  have hbZ := qt_world hw2
  clear hw2 rg0 rg1 rg2 rg3 rg4 rg5 rg6 rg7
  go_wp2
  go_ret
  exact ⟨ret_bool (by simp), below_then HBW.out hbZ⟩
 ·have h1 := h0
  have z2 : (E == 0) = false := beq_eq_false_iff_ne.2 h0
  go_upto_region 9 with (first | (refine wpList_row_w (by rfl) 43 _ rfl bu4 rfl 43 _ gbu4_5 ⟨_, Tryz.underlying43⟩ (by kernel_rfl) ?_; simp only [Act.put, List.setIfInBounds_toArray, List.set_cons_succ, List.set_cons_zero]) | (refine wpList_row_w (by rfl) 43 _ rfl ba rfl 43 _ gba_5 ⟨_, Tryz.underlying43⟩ (by kernel_rfl) ?_; simp only [Act.put, List.setIfInBounds_toArray, List.set_cons_succ, List.set_cons_zero]) | (go_at_call 23; (with_reducible refine (HSM.out a a qx qa _ hqX_5 hqa_5).mono ?_); rintro e w6 ⟨rfl, hbw6⟩; have g6 := gbu5.then_ hbw6; have B6 := below_then HB5 hbw6; have y6 := hqY.then_ hbw6))
  have HH6 := hbw6
  have HB6 := below_then HB5 HH6
  have gba_6 := gba_5.then_ HH6
  have gbb_6 := gbb_5.then_ HH6
  have hqa_6 := hqa_5.then_ HH6
  have hqb_6 := hqb_5.then_ HH6
  have gbu4_6 := gbu4_5.then_ HH6
  have hqX_6 := hqX_5.then_ HH6
  have gbu5_6 := gbu5.then_ HH6
  have hqY_6 := hqY.then_ HH6
  clear gba_5 gbb_5 hqa_5 hqb_5 gbu4_5 hqX_5 gbu5 hqY HB5 HH6
  clear g6 B6 y6
  obtain ⟨s0, s1, s2, s3⟩ := stC (c := a) (m := qa) gba_6 rfl
  obtain ⟨r0, r1, r2, r3⟩ := stC (c := b) (m := qb) gbb_6 rfl
  have HE9 : Hid (∀ W, Below w6.heap.size w6 W → Calls Tryz.prog 21 #[.agg #[.int .i64 b.day, .slice qb.h b.hol.length qb.hc, .slice qb.u b.used.length qb.uc, .slice qb.m b.marks.length qb.mc]] W fun e w' => e = .returned (.string SB) ∧ Below W.heap.size W w') := fun W hw => HEB.out W (below_then HB6 hw) (hqb_6.then_ hw)
  have HS9 : Hid (∀ W, Below w6.heap.size w6 W → Calls Tryz.prog 23 #[.agg #[.int .i64 a.day, .slice qa.h a.hol.length qa.hc, .slice qa.u a.used.length qa.uc, .slice qa.m a.marks.length qa.mc], .agg #[.int .i64 b.day, .slice qb.h b.hol.length qb.hc, .slice qb.u b.used.length qb.uc, .slice qb.m b.marks.length qb.mc]] W fun e w' => e = .returned (.bool D) ∧ Below W.heap.size W w') := fun W hw => by
   rw [← eD]
   exact HSM.out a b qa qb W (hqa_6.then_ hw) (hqb_6.then_ hw)
  have HBW := Lib.hid HB6
  have hEQ := heq.out
  clear eD
  go_upto_region 9 with (fail)
  have rg0 := cell_regrown s0
  have rg1 := cell_regrown s1
  have rg2 := cell_regrown s2
  have rg3 := cell_regrown s3
  have rg4 := cell_regrown r0
  have rg5 := cell_regrown r1
  have rg6 := cell_regrown r2
  have rg7 := cell_regrown r3
  refine wp_region_qt [0, 1, 2, 3, 4, 5, 6, 7, 8, 9, 10] [11] (by kernel_rfl) (by kernel_rfl) (by repeat (first | with_reducible refine panOk_then ?_ | with_reducible refine panOk_block ?_ | exact panOk_body)) ?_
  simp only [opsAt, List.getElem?_toArray, List.getElem?_cons_succ, List.getElem?_cons_zero, Option.toList_some, List.cons_append, List.nil_append]
  repeat (go_big_quiet_step ((first | (go_at_call 21; with_reducible exact qt_call (fun W' hW' => HE9.out W' hW') _ _) | (go_at_call 23; with_reducible exact qt_call (fun W' hW' => HS9.out W' hW') _ _))))
  refine wpQuiet_nil ?_
  intro Z hw2
  have hbZ := qt_world hw2
  clear hw2 rg0 rg1 rg2 rg3 rg4 rg5 rg6 rg7
  go_wp2
  go_ret
  exact ⟨ret_bool (by simp), below_then HBW.out hbZ⟩
end Go.Proofs.YtginnonjdbpamaaGreatDoor
