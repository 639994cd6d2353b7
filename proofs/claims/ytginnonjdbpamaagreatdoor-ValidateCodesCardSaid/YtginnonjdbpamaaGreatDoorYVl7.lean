/- The walk of ValidateCodes. -/
import Derived.Test.YtginnonjdbpamaaGreatDoorMc35
import Derived.Test.YtginnonjdbpamaaGreatDoorYWf2
import Derived.Test.YtginnonjdbpamaaGreatDoorYWb1
import Derived.Test.YtginnonjdbpamaaGreatDoorYCr6
import Derived.Test.YtginnonjdbpamaaGreatDoorMc1
set_option maxHeartbeats 6400000
set_option maxRecDepth 100000
namespace Go.Proofs.YtginnonjdbpamaaGreatDoor
open Go.RowKit Go.Sort
theorem short1 (a : Sta) (qa : Qm) (g : Nat) (W : World) (hg : Blk W g 43 #[.int .i64 a.day, .slice qa.h a.hol.length qa.hc, .slice qa.u a.used.length qa.uc, .slice qa.m a.marks.length qa.mc]) :
  Calls Tryz.prog 18 #[.slice (some ⟨g, 0, none⟩) 1 1] W fun e w' => e = .returned (.bool (shQ (a, qa))) ∧ Below W.heap.size W w' := by
 have h := short_any [(a, qa)] (some ⟨g, 0, none⟩) 1 W (xC4 (xs := [(a, qa)]) xC6 hg) (by simp)
 have e : [(a, qa)].all shQ = shQ (a, qa) := by simp
 rw [e] at h
 exact h
theorem shQ_le {s : Sta} {q : Qm} (h : shQ (s, q) = true) : s.hol.length ≤ 20 ∧ s.used.length ≤ 80 ∧ s.marks.length ≤ 20 := by
 unfold shQ at h
 simp only [Bool.not_eq_true', Bool.or_eq_false_iff, decide_eq_false_iff_not] at h
 omega
theorem short_stm {w : World} {s : Sta} {q : Qm} (h : StaW w s q) (hs : shQ (s, q) = true) : Stm w s q := by
 obtain ⟨h1, h2, h3⟩ := shQ_le hs
 exact h.stm (by omega) (by omega) (by omega)
theorem tBy_back (s : ByteArray) : tBy s.data.toList = s := by
 cases s
 simp [tBy]
theorem enc_at {w : World} (hL : Lw w) (s : Sta) (q : Qm) (hI : s.I64) (h1 : s.hol.length ≤ 5000) (h2 : s.used.length ≤ 5000) (h3 : s.marks.length ≤ 5000) (S : ByteArray) (hS : tBy s.text = S) (W : World) (hb : Below w.heap.size w W) (hm : Stm W s q) :
  Calls Tryz.prog 21 #[.agg (stA s q)] W fun e w' => e = .returned (.string S) ∧ Below W.heap.size W w' := by
 subst hS
 exact xGf s q W (Lib.tabBelow_of_tabIs (hL.below hb).tab) hm hI h1 h2 h3
theorem renc_at (s : Sta) (q : Qm) (hI : s.I64) (h1 : s.hol.length ≤ 5000) (h2 : s.used.length ≤ 5000) (h3 : s.marks.length ≤ 5000) (S : ByteArray) (hS : tBy s.text = S) (W : World) (hm : Stm W s q) :
  Calls Tryz.prog 22 #[.agg (stA s q)] W fun e w' => e = .returned (.string S) ∧ Below W.heap.size W w' := by
 subst hS
 exact xFg s q W hm hI h1 h2 h3
theorem dec_at {w : World} (hL : Lw w) (t : List UInt8) (S : ByteArray) (hS : tBy t = S) (ht : t.length ≤ 900000) (D : Sta) (E : Int) (hD : decS t = D) (hE : decE t = E) (W : World) (hb : Below w.heap.size w W) :
  Calls Tryz.prog 19 #[.string S] W fun e w' => (∃ q, e = .returned (.tuple #[.agg (stA D q), .int .i64 E]) ∧ Stm w' D q) ∧ Below W.heap.size W w' := by
 subst hS hD hE
 refine (xEh t W (hL.below hb) ht).mono ?_
 rintro e w' ⟨⟨q, rfl, h, _⟩, hb2⟩
 exact ⟨⟨q, rfl, h⟩, hb2⟩
theorem rdec_at (t : List UInt8) (S : ByteArray) (hS : tBy t = S) (ht : t.length ≤ 4000) (D : Sta) (E : Int) (hD : decS t = D) (hE : decE t = E) (W : World) :
  Calls Tryz.prog 20 #[.string S] W fun e w' => (∃ q, e = .returned (.tuple #[.agg (stA D q), .int .i64 E]) ∧ Stm w' D q) ∧ Below W.heap.size W w' := by
 subst hS hD hE
 refine (xIw t W ht).mono ?_
 rintro e w' ⟨⟨q, rfl, h, _⟩, hb2⟩
 exact ⟨⟨q, rfl, h⟩, hb2⟩
theorem codes_walk (a : Sta) (qa : Qm) (s : ByteArray) (w : World) (hL : Lw w) (ha : StaW w a qa) :
  Calls Tryz.prog 7 #[.agg (stA a qa), .string s] w fun e w' => e = .returned (.bool true) ∧ Below w.heap.size w w' := by
 have HH := qzL (fun W (hb : Below w.heap.size w W) => head_any W (hL.below hb))
 obtain ⟨sh, eSH⟩ : ∃ x, shQ (a, qa) = x := ⟨_, rfl⟩
 obtain ⟨lg, eLG⟩ : ∃ x, decide ((2000 : Int) < (s.size : Int)) = x := ⟨_, rfl⟩
 cases sh with
 | false =>
  clear ha hL
  go_enter Tryz.func7, Tryz.ntmps7
  go_upto_region 1 with (fail)
  refine xAf ?_
  intro X0 hX
  have gba : Blk X0 w.heap.size 43 (stA a qa) := by rw [hX]; exact xA5 (by simp)
  have HB0 : Below w.heap.size w X0 := by rw [hX]; (repeat (first | exact Below.refl _ _ | refine xAc ?_ _))
  clear hX
  obtain ⟨ba, eba⟩ : ∃ b, w.heap.size = b := ⟨_, rfl⟩
  have lba : w.heap.size ≤ ba := by omega
  rw [eba] at gba ⊢
  clear eba
  go_upto_region 2 with ((go_at_call 11; (with_reducible refine (HH.out _ HB0).mono ?_); rintro e w1 ⟨rfl, hbw1⟩))
  have HH1 := hbw1
  have HB1 := xAa HB0 HH1
  have gba_1 := gba.then_ HH1
  clear gba HB0 HH1
  have HSH := qzL (short1 a qa w1.heap.size (w1.alloc (.cells #[.int .i64 a.day, .slice qa.h a.hol.length qa.hc, .slice qa.u a.used.length qa.uc, .slice qa.m a.marks.length qa.mc] 43)) (Blk.new _ _ _))
  rw [eSH] at HSH
  clear eSH
  go_wp2_with (first | (refine xAi (by rfl) 43 _ rfl ba rfl 43 _ gba_1 ⟨_, Tryz.underlying43⟩ (by kernel_rfl) ?_; simp only [Act.put, qzG, qzH, qzI]) | (go_at_call 18; (with_reducible refine (HSH.out).mono ?_); rintro e w2 ⟨rfl, hbw2'⟩))
  have hbw2 := (wa1 w1 _).trans (hbw2'.mono (wa1 _ _).size)
  go_ret
  exact ⟨rfl, xAa HB1 hbw2⟩
 | true =>
 cases lg with
 | true =>
  clear ha hL
  go_enter Tryz.func7, Tryz.ntmps7
  go_upto_region 1 with (fail)
  refine xAf ?_
  intro X0 hX
  have gba : Blk X0 w.heap.size 43 (stA a qa) := by rw [hX]; exact xA5 (by simp)
  have HB0 : Below w.heap.size w X0 := by rw [hX]; (repeat (first | exact Below.refl _ _ | refine xAc ?_ _))
  clear hX
  obtain ⟨ba, eba⟩ : ∃ b, w.heap.size = b := ⟨_, rfl⟩
  have lba : w.heap.size ≤ ba := by omega
  rw [eba] at gba ⊢
  clear eba
  go_upto_region 2 with ((go_at_call 11; (with_reducible refine (HH.out _ HB0).mono ?_); rintro e w1 ⟨rfl, hbw1⟩))
  have HH1 := hbw1
  have HB1 := xAa HB0 HH1
  have gba_1 := gba.then_ HH1
  clear gba HB0 HH1
  have HSH := qzL (short1 a qa w1.heap.size (w1.alloc (.cells #[.int .i64 a.day, .slice qa.h a.hol.length qa.hc, .slice qa.u a.used.length qa.uc, .slice qa.m a.marks.length qa.mc] 43)) (Blk.new _ _ _))
  rw [eSH] at HSH
  clear eSH
  go_wp2_with (first | (refine xAi (by rfl) 43 _ rfl ba rfl 43 _ gba_1 ⟨_, Tryz.underlying43⟩ (by kernel_rfl) ?_; simp only [Act.put, qzG, qzH, qzI]) | (go_at_call 18; (with_reducible refine (HSH.out).mono ?_); rintro e w2 ⟨rfl, hbw2'⟩))
  have hbw2 := (wa1 w1 _).trans (hbw2'.mono (wa1 _ _).size)
  go_ret
  exact ⟨rfl, xAa HB1 hbw2⟩
 | false =>
 obtain ⟨a1, a2, a3⟩ := shQ_le eSH
 have hsz : s.size ≤ 2000 := by have := of_decide_eq_false eLG; omega
 have HSA := qzL (short_stm ha eSH)
 have IA := ha.i64
 obtain ⟨SA, eSA⟩ : ∃ x, tBy a.text = x := ⟨_, rfl⟩
 have HEA := qzL (fun W (hw : Below w.heap.size w W) (hm : Stm W a qa) => enc_at hL a qa IA (by omega) (by omega) (by omega) SA eSA W hw hm)
 have HRA := qzL (fun W (hm : Stm W a qa) => renc_at a qa IA (by omega) (by omega) (by omega) SA eSA W hm)
 obtain ⟨Y, eY⟩ : ∃ Y, decS s.data.toList = Y := ⟨_, rfl⟩
 obtain ⟨E, eE⟩ : ∃ E, decE s.data.toList = E := ⟨_, rfl⟩
 have hsl : s.data.toList.length = s.size := by rw [Array.length_toList]; rfl
 have HDS := qzL (fun W (hw : Below w.heap.size w W) => dec_at hL s.data.toList s (tBy_back s) (by omega) Y E eY eE W hw)
 have HRS := qzL (fun W => rdec_at s.data.toList s (tBy_back s) (by omega) Y E eY eE W)
 have HSM := qzL (fun (x y : Sta) (q r : Qm) (W : World) (hx : Stm W x q) (hy : Stm W y r) => same_any x y q r W hx hy)
 have hss : (SA.toList == SA.toList) = true := by simp
 have hee : (E == E) = true := beq_self_eq_true E
 clear ha hL a1 a2 a3 IA hsl hsz eSA eY eE
 go_enter Tryz.func7, Tryz.ntmps7
 go_upto_region 1 with (fail)
 refine xAf ?_
 intro X0 hX
 have gba : Blk X0 w.heap.size 43 (stA a qa) := by rw [hX]; exact xA5 (by simp)
 have HB0 : Below w.heap.size w X0 := by rw [hX]; (repeat (first | exact Below.refl _ _ | refine xAc ?_ _))
 clear hX
 obtain ⟨ba, eba⟩ : ∃ b, w.heap.size = b := ⟨_, rfl⟩
 have lba : w.heap.size ≤ ba := by omega
 rw [eba] at gba ⊢
 clear eba
 go_upto_region 2 with ((go_at_call 11; (with_reducible refine (HH.out _ HB0).mono ?_); rintro e w1 ⟨rfl, hbw1⟩))
 have HH1 := hbw1
 have HB1 := xAa HB0 HH1
 have gba_1 := gba.then_ HH1
 clear gba HB0 HH1
 have HSH := qzL (short1 a qa w1.heap.size (w1.alloc (.cells #[.int .i64 a.day, .slice qa.h a.hol.length qa.hc, .slice qa.u a.used.length qa.uc, .slice qa.m a.marks.length qa.mc] 43)) (Blk.new _ _ _))
 rw [eSH] at HSH
 clear eSH
 go_upto_region 4 with (first | (refine xAi (by rfl) 43 _ rfl ba rfl 43 _ gba_1 ⟨_, Tryz.underlying43⟩ (by kernel_rfl) ?_; simp only [Act.put, qzG, qzH, qzI]) | (go_at_call 18; (with_reducible refine (HSH.out).mono ?_); rintro e w2 ⟨rfl, hbw2'⟩))
 have hbw2 := (wa1 w1 _).trans (hbw2'.mono (wa1 _ _).size)
 clear hbw2'
 have HH2 := hbw2
 have HB2 := xAa HB1 HH2
 have gba_2 := gba_1.then_ HH2
 clear gba_1 HB1 HH2
 have hqa := HSA.out.then_ HB2
 have HSA2 := hqa
 clear HSA HSA2
 go_upto_region 5 with (first | (go_at_call 19; (with_reducible refine (HDS.out _ HB2).mono ?_); rintro e w4 ⟨⟨qx, rfl, hqx⟩, hbw4⟩) | (refine xAg rfl 43 _ _ rfl w4.heap.size 43 [] zS.toList [] (stA Y qx).toList rfl rfl (Blk.new _ _ _) rfl (by kernel_rfl) (by simp [Value.oneCell']) ?_; intro u4 gbu4 Uu4))
 have hsu4 : Below w4.heap.size w4 u4 := (wa1 _ _).trans (Uu4.b _ (Nat.le_refl _))
 have HH3 := xAa hbw4 hsu4
 have HB3 := xAa HB2 HH3
 have gba_3 := gba_2.then_ HH3
 have hqa_3 := hqa.then_ HH3
 clear gba_2 hqa HB2 HH3
 have hqX := hqx.then_ hsu4
 obtain ⟨bu4, ebu4⟩ : ∃ b, w4.heap.size = b := ⟨_, rfl⟩
 rw [ebu4] at gbu4 ⊢
 clear ebu4 Uu4 hsu4 hbw4 hqx
 go_upto_region 6 with (first | (go_at_call 20; (with_reducible refine (HRS.out _).mono ?_); rintro e w5 ⟨⟨qy, rfl, hqy⟩, hbw5⟩) | (refine xAg rfl 43 _ _ rfl w5.heap.size 43 [] zS.toList [] (stA Y qy).toList rfl rfl (Blk.new _ _ _) rfl (by kernel_rfl) (by simp [Value.oneCell']) ?_; intro u5 gbu5 Uu5))
 have hsu5 : Below w5.heap.size w5 u5 := (wa1 _ _).trans (Uu5.b _ (Nat.le_refl _))
 have HH4 := xAa hbw5 hsu5
 have HB4 := xAa HB3 HH4
 have gba_4 := gba_3.then_ HH4
 have hqa_4 := hqa_3.then_ HH4
 have gbu4_4 := gbu4.then_ HH4
 have hqX_4 := hqX.then_ HH4
 clear gba_3 hqa_3 gbu4 hqX HB3 HH4
 have hqY := hqy.then_ hsu5
 obtain ⟨bu5, ebu5⟩ : ∃ b, w5.heap.size = b := ⟨_, rfl⟩
 rw [ebu5] at gbu5 ⊢
 clear ebu5 Uu5 hsu5 hbw5 hqy
 obtain ⟨s0, s1, s2, s3⟩ := stC (c := a) (m := qa) gba_4 rfl
 obtain ⟨r0, r1, r2, r3⟩ := stC (c := Y) (m := qx) gbu4_4 rfl
 obtain ⟨k0, k1, k2, k3⟩ := stC (c := Y) (m := qy) gbu5 rfl
 have HE9 : Hid (∀ W, Below u5.heap.size u5 W → Calls Tryz.prog 21 #[.agg #[.int .i64 a.day, .slice qa.h a.hol.length qa.hc, .slice qa.u a.used.length qa.uc, .slice qa.m a.marks.length qa.mc]] W fun e w' => e = .returned (.string SA) ∧ Below W.heap.size W w') := fun W hw => HEA.out W (xAa HB4 hw) (hqa_4.then_ hw)
 have HR9 : Hid (∀ W, Below u5.heap.size u5 W → Calls Tryz.prog 22 #[.agg #[.int .i64 a.day, .slice qa.h a.hol.length qa.hc, .slice qa.u a.used.length qa.uc, .slice qa.m a.marks.length qa.mc]] W fun e w' => e = .returned (.string SA) ∧ Below W.heap.size W w') := fun W hw => HRA.out W (hqa_4.then_ hw)
 have HS9 : Hid (∀ W, Below u5.heap.size u5 W → Calls Tryz.prog 23 #[.agg #[.int .i64 Y.day, .slice qx.h Y.hol.length qx.hc, .slice qx.u Y.used.length qx.uc, .slice qx.m Y.marks.length qx.mc], .agg #[.int .i64 Y.day, .slice qy.h Y.hol.length qy.hc, .slice qy.u Y.used.length qy.uc, .slice qy.m Y.marks.length qy.mc]] W fun e w' => e = .returned (.bool true) ∧ Below W.heap.size W w') := fun W hw => by
  have h := HSM.out Y Y qx qy W (hqX_4.then_ hw) (hqY.then_ hw)
  rw [qzO rfl] at h
  exact h
 have HBW := qzL HB4
 go_upto_region 6 with (fail)
 have rg0 := cR s0
 have rg1 := cR s1
 have rg2 := cR s2
 have rg3 := cR s3
 have rg4 := cR r0
 have rg5 := cR r1
 have rg6 := cR r2
 have rg7 := cR r3
 have rg8 := cR k0
 have rg9 := cR k1
 have rg10 := cR k2
 have rg11 := cR k3
 refine xAe [0, 1, 2, 3, 4, 5, 6, 7, 8, 9, 10, 11, 12, 13, 14, 15, 16, 17] [18] (by kernel_rfl) (by kernel_rfl) pO ?_
 simp only [xAm, qzA, qzB, qzC, qzD, qzE, qzF]
 repeat (go_big_quiet_step ((first | (go_at_call 21; with_reducible exact xAp (fun W' hW' => HE9.out W' hW') _ _) | (go_at_call 22; with_reducible exact xAp (fun W' hW' => HR9.out W' hW') _ _) | (go_at_call 23; with_reducible exact xAp (fun W' hW' => HS9.out W' hW') _ _))))
 refine wpQuiet_nil ?_
 intro Z hw2
 have hbZ := xAh hw2
 clear hw2 rg0 rg1 rg2 rg3 rg4 rg5 rg6 rg7 rg8 rg9 rg10 rg11
 go_wp2
 go_ret
 exact ⟨xAb (by simp), xAa HBW.out hbZ⟩
end Go.Proofs.YtginnonjdbpamaaGreatDoor
