/- The walk of the reference's mark at every text. -/
import Derived.Test.YtginnonjdbpamaaGreatDoorYCr3
import Derived.Test.YtginnonjdbpamaaGreatDoorMc14
import Derived.Test.YtginnonjdbpamaaGreatDoorMc18
import Derived.Test.YtginnonjdbpamaaGreatDoorMc1
set_option maxHeartbeats 6400000
set_option maxRecDepth 100000
namespace Go.Proofs.YtginnonjdbpamaaGreatDoor
open Go.RowKit Go.Sort
theorem xFd (b : UInt8) : ∀ t : List UInt8, (spl b t).length ≤ t.length + 1 ∧ ∀ x ∈ spl b t, x.length ≤ t.length
 | [] => by simp [spl]
 | c :: l => by
  obtain ⟨h1, h2⟩ := xFd b l
  unfold spl
  split
  ·refine ⟨by simp only [List.length_cons]; omega, fun x hx => ?_⟩
   rcases List.mem_cons.1 hx with rfl | hx
   ·simp
   ·have := h2 x hx
    simp only [List.length_cons]; omega
  ·split
   ·exact ⟨by simp, fun x hx => by rw [List.mem_singleton.1 hx]; simp⟩
   ·next p ps e =>
    rw [e] at h1 h2
    refine ⟨by simpa using by simp only [List.length_cons] at h1; omega, fun x hx => ?_⟩
    rcases List.mem_cons.1 hx with rfl | hx
    ·have := h2 p (by simp)
     simp only [List.length_cons]; omega
    ·have := h2 x (by simp [hx])
     simp only [List.length_cons]; omega
theorem xGw {α : Type} {w : World} {B : Nat} {T : TypeId} {size : Nat} {enc : α → List Value} {v : Value} {xs : List α} (h : Own w B T size enc v xs) (hn : 0 < xs.length) : ∃ g cap, v = .slice (some ⟨g, 0, none⟩) xs.length cap := by
 rcases h.2 with ⟨_, h0⟩ | ⟨g, cap, cur, hv, _⟩
 ·omega
 ·exact ⟨g, cap, hv⟩
def Mk.zero : Mk := ⟨0, 0, 0, 0, false⟩
theorem markR_four {t : List UInt8} (h : (spl 46 t).length ≠ 4) : xDe t = none := by
 unfold xDe
 split
 ·next e => rw [e] at h; exact absurd rfl h
 ·rfl
theorem four {α : Type} {l : List α} (h : l.length = 4) : ∃ a b c d, l = [a, b, c, d] := by
 match l, h with
 | [a, b, c, d], _ => exact ⟨a, b, c, d, rfl⟩
theorem rmark_any (t : List UInt8) (w : World) (ht : t.length ≤ 900000) :
  Calls Tryz.prog 44 #[.string (tBy t)] w fun e w' => e = .returned (.tuple #[.agg (mA ((xDe t).getD Mk.zero)), .bool (xDe t).isSome]) ∧ Below w.heap.size w w' := by
 obtain ⟨R, hR⟩ : ∃ R, xDe t = R := ⟨_, rfl⟩
 obtain ⟨L, hL⟩ : ∃ L, spl 46 t = L := ⟨_, rfl⟩
 have hs : ∀ W, Calls Tryz.prog 42 #[.string (tBy t), .int .u8 46] W fun e w' => ∃ A c, e = .returned (.slice A L.length c) ∧ Own w' W.heap.size 9 1 eT (.slice A L.length c) L ∧ Below W.heap.size W w' := fun W => by
  subst hL
  exact xDz 46 t W (by omega)
 have HS := qzL hs
 have hR4 : Hid (L.length ≠ 4 → R = none) := fun h => by rw [← hR, ← hL] at *; exact markR_four h
 have hLL := xFd 46 t
 rw [hL] at hLL
 have hRm : Hid (∀ a b d e, L = [a, b, d, e] → R = some ⟨numR a, numR b, numR d, numR (xCz e).1, (xCz e).2⟩) := fun a b d e h => by rw [← hR]; unfold xDe; rw [hL, h]
 have hl1 := hLL.1
 have hl2 := qzL hLL.2
 rw [hR]
 clear hs hR hL hLL
 go_enter Tryz.func44, Tryz.ntmps44
 go_upto_region 1 with (fail)
 refine xAf ?_
 intro X hX
 have gr : Blk X w.heap.size 46 #[.int .i64 0, .int .i64 0, .int .i64 0, .int .i64 0, .bool false] := by rw [hX]; exact Blk.new _ _ _
 have HB : Below w.heap.size w X := by rw [hX]; exact wa1 _ _
 obtain ⟨br, ebr⟩ : ∃ b, w.heap.size = b := ⟨_, rfl⟩
 have lbr : w.heap.size ≤ br := by omega
 rw [ebr] at gr ⊢
 clear hX ebr
 go_upto_region 2 with (go_at_call 42; (with_reducible refine (HS.out _).mono ?_); rintro e w1 ⟨A, c, rfl, hO, hb1⟩)
 have gr1 := gr.then_ hb1
 have hB1 := xAa HB hb1
 by_cases h4 : L.length = 4
 ·have t1 : ((L.length : Int) != 4) = false := by rw [bne_eq_false_iff_eq]; omega
  obtain ⟨x0, x1, x2, x4, rfl⟩ := four h4
  have hM := hRm.out x0 x1 x2 x4 rfl
  obtain ⟨x3, pa, hlw⟩ : ∃ x p, xCz x4 = (x, p) := ⟨_, _, rfl⟩
  rw [hlw] at hM
  have HM := qzL hM
  have q0 := hl2.out x0 (by simp)
  have q1 := hl2.out x1 (by simp)
  have q2 := hl2.out x2 (by simp)
  have q4 := hl2.out x4 (by simp)
  obtain ⟨g, cap, eqA⟩ := xGw hO (by simp)
  obtain ⟨rfl, rfl⟩ : A = some ⟨g, 0, none⟩ ∧ c = cap := by injection eqA with a1 _ a3; exact ⟨a1, a3⟩
  have e0 : w1.cell? ⟨g, 0, none⟩ = some (.string (tBy x0)) := (hO.getAt xEp rfl (k := 0) (j := 0) rfl (by decide)).1
  have e1 : w1.cell? ⟨g, 1, none⟩ = some (.string (tBy x1)) := (hO.getAt xEp rfl (k := 1) (j := 0) rfl (by decide)).1
  have e2 : w1.cell? ⟨g, 2, none⟩ = some (.string (tBy x2)) := (hO.getAt xEp rfl (k := 2) (j := 0) rfl (by decide)).1
  have e3 : w1.cell? ⟨g, 3, none⟩ = some (.string (tBy x4)) := (hO.getAt xEp rfl (k := 3) (j := 0) rfl (by decide)).1
  have hi0 : ∀ W : World, (Instr.indexAt 100 (.slice (some ⟨g, 0, none⟩) 4 c) (.int .i64 0)).run Tryz.prog W = .ok (.pointer (some ⟨g, 0, none⟩)) W := xAy (t := 100) (size := 1) (g := g) (n := 4) (cap := c) (i := 0) (by omega) (by kernel_rfl) (fun W => by kernel_rfl)
  have hi1 : ∀ W : World, (Instr.indexAt 100 (.slice (some ⟨g, 0, none⟩) 4 c) (.int .i64 1)).run Tryz.prog W = .ok (.pointer (some ⟨g, 1, none⟩)) W := xAy (t := 100) (size := 1) (g := g) (n := 4) (cap := c) (i := 1) (by omega) (by kernel_rfl) (fun W => by kernel_rfl)
  have hi2 : ∀ W : World, (Instr.indexAt 100 (.slice (some ⟨g, 0, none⟩) 4 c) (.int .i64 2)).run Tryz.prog W = .ok (.pointer (some ⟨g, 2, none⟩)) W := xAy (t := 100) (size := 1) (g := g) (n := 4) (cap := c) (i := 2) (by omega) (by kernel_rfl) (fun W => by kernel_rfl)
  have hi3 : ∀ W : World, (Instr.indexAt 100 (.slice (some ⟨g, 0, none⟩) 4 c) (.int .i64 3)).run Tryz.prog W = .ok (.pointer (some ⟨g, 3, none⟩)) W := xAy (t := 100) (size := 1) (g := g) (n := 4) (cap := c) (i := 3) (by omega) (by kernel_rfl) (fun W => by kernel_rfl)
  have HN0 : Hid (∀ W, Calls Tryz.prog 43 #[.string (tBy x0)] W fun e w' => e = .returned (.int .i64 (numR x0)) ∧ Below W.heap.size W w') := fun W => (xBv x0 W (by omega)).mono fun e w' ⟨a, b⟩ => ⟨a, b ▸ Below.refl _ _⟩
  have HN1 : Hid (∀ W, Calls Tryz.prog 43 #[.string (tBy x1)] W fun e w' => e = .returned (.int .i64 (numR x1)) ∧ Below W.heap.size W w') := fun W => (xBv x1 W (by omega)).mono fun e w' ⟨a, b⟩ => ⟨a, b ▸ Below.refl _ _⟩
  have HN2 : Hid (∀ W, Calls Tryz.prog 43 #[.string (tBy x2)] W fun e w' => e = .returned (.int .i64 (numR x2)) ∧ Below W.heap.size W w') := fun W => (xBv x2 W (by omega)).mono fun e w' ⟨a, b⟩ => ⟨a, b ▸ Below.refl _ _⟩
  have HRB := qzL gr1
  have HBB := qzL hB1
  have HC3 := qzL e3
  have hgl : g < w1.heap.size := by obtain ⟨cs, hb⟩ := hO.tyB; exact hb.lt
  have HLW := qzL hlw
  clear h4 hRm hR4 hM eqA hO gr gr1 HB hB1 hb1 HS hl1 hl2 hlw e3
  go_upto_region 4 with (fail)
  refine xCo (T := 46) (zs := #[.int .i64 0, .int .i64 0, .int .i64 0, .int .i64 0, .bool false]) [0, 1, 2, 3, 4, 5, 6, 7, 8, 9, 10, 11, 12] [] [14] 13 5 (by kernel_rfl) (by kernel_rfl) pO (fun _ _ => by rfl) ?_
  apply Exists.intro
  refine ⟨?_, ?_⟩
  ·intro S gS hGS
   haveI := hGS.2.2
   have rg0 := xA3 hGS e0
   have rg1 := xA3 hGS e1
   have rg2 := xA3 hGS e2
   unfold cls
   simp only [xAm, qzA, qzB, qzC, qzD, qzE, qzF]
   repeat (go_big_quiet_step ((go_at_call 43; first | with_reducible exact xFh hGS (fun W' _ => HN0.out W') _ | with_reducible exact xFh hGS (fun W' _ => HN1.out W') _ | with_reducible exact xFh hGS (fun W' _ => HN2.out W') _)))
   refine wpQuiet_nil ?_
   exact rfl
  intro bm V hbm hbV gbm
  simp only [xAm, qzA, qzB, qzC, qzD, qzE, qzF, Act.put, qzG, qzH, qzI]
  go_upto_region 5 with (refine xAg rfl 46 _ _ rfl bm 46 [] [.int .i64 0, .int .i64 0, .int .i64 0, .int .i64 0, .bool false] [] [.int .i64 (numR x0), .int .i64 (numR x1), .int .i64 (numR x2), .int .i64 0, .bool false] rfl rfl gbm rfl (by kernel_rfl) (by simp [Value.oneCell']) ?_; intro Y gY uY)
  have HMY := qzL (show Blk Y bm 46 #[.int .i64 (numR x0), .int .i64 (numR x1), .int .i64 (numR x2), .int .i64 0, .bool false] from gY)
  have HRY := qzL ((HRB.out.then_ hbV).upd uY (by have := HRB.out.lt; omega))
  have lbm : w.heap.size ≤ bm := by have := HBB.out.size; omega
  have HBY := qzL ((xAa HBB.out hbV).trans (uY.b _ lbm))
  have HNE : Hid (br ≠ bm) := by unfold Hid; have := HRB.out.lt; omega
  have e3 : Y.cell? ⟨g, 3, none⟩ = some (.string (tBy x4)) := (World.cell?_of_block (w := V) (w' := Y) (a := ⟨g, 3, none⟩) (uY.f g (by omega))).trans ((hbV.cell (p := ⟨g, 3, none⟩) hgl).trans HC3.out)
  clear uY gY gbm HRB HBB hbV HC3 hbm hgl HN0 HN1 HN2 hi0 hi1 hi2 e0 e1 e2 t1
  go_upto_region 6 with (fail)
  clear e3 hi3
  obtain ⟨s, hs⟩ : ∃ s, tBy x4 = s := ⟨_, rfl⟩
  have hsz : s.size = x4.length := by rw [← hs, xBe]
  have HIX : Hid (∀ k (h : k < s.size), x4[k]? = some (s[k])) := by subst hs; exact tBy_ix x4
  have HSL : Hid (∀ (i : Nat), i ≤ x4.length → ∀ W, (Instr.slice 9 (.string s) none (some (.int .i64 (i : Nat))) none).run Tryz.prog W = .ok (.string (tBy (x4.take i))) W) := by subst hs; exact fun i h => slice_h x4 h
  have HSS := qzL hs
  rw [hs]
  have HSZ := qzL hsz
  have lsz : s.size ≤ 900000 := by omega
  clear hs hsz
  by_cases hz : s.size = 0
  ·have tz : decide ((0 : Int) < (s.size : Int)) = false := qzN (by omega)
   have tz' : decide (0 < s.size) = false := qzN (by omega)
   obtain ⟨rfl, rfl⟩ : x3 = x4 ∧ pa = false := by
    have h := HLW.out
    have h0 : x4 = [] := List.eq_nil_of_length_eq_zero (by have := HSZ.out; omega)
    subst h0
    injection h with h1 h2
    exact ⟨h1.symm, h2.symm⟩
   clear hz HIX HSL HLW
   go_upto_region 9 with (fail)
   rw [← HSS.out]
   clear tz tz' lsz HSS HSZ
   have HN3 := qzL (fun W => xBv x3 W (by omega))
   have l3' : Y.cell? ⟨bm, 3, none⟩ = some (.int .i64 0) := HMY.out.cell 3
   have f3' : Y.frozen? ⟨bm, 3, none⟩ = false := HMY.out.frozen 3
   go_upto_region 10 with (go_at_call 43; (with_reducible refine (HN3.out _).mono ?_); rintro e w5 ⟨rfl, rfl⟩)
   refine xAf ?_
   intro U hU
   have gmU : Blk U bm 46 #[.int .i64 (numR x0), .int .i64 (numR x1), .int .i64 (numR x2), .int .i64 (numR x3), .bool false] := by
    rw [hU]
    have h := HMY.out.set_ 3 (.int .i64 (numR x3))
    simpa using h
   have grU : Blk U br 46 #[.int .i64 0, .int .i64 0, .int .i64 0, .int .i64 0, .bool false] := by rw [hU]; exact HRY.out.far (p := ⟨bm, 3, none⟩) HNE.out _
   have hbU : Below w.heap.size w U := by rw [hU]; exact HBY.out.setCell (p := ⟨bm, 3, none⟩) lbm _
   clear hU l3' f3' HRY HBY HMY HN3
   go_wp2_with (first | (refine xAi (by rfl) 46 _ rfl bm rfl 46 _ gmU ⟨_, Tryz.underlying46⟩ (by kernel_rfl) ?_; simp only [Act.put, qzG, qzH, qzI]) | (refine xAg rfl 46 _ _ rfl br 46 [] [.int .i64 0, .int .i64 0, .int .i64 0, .int .i64 0, .bool false] [] [.int .i64 (numR x0), .int .i64 (numR x1), .int .i64 (numR x2), .int .i64 (numR x3), .bool false] rfl rfl grU rfl (by kernel_rfl) (by simp [Value.oneCell']) ?_; intro w6 g6 u6))
   refine bodyPost_ret (xBg rfl rfl g6 ⟨_, Tryz.underlying46⟩ (by kernel_rfl)) rfl ?_
   have hmm := HM.out
   exact ⟨by rw [hmm]; rfl, hbU.trans (u6.b _ lbr)⟩
  ·obtain ⟨n, hn⟩ : ∃ n, s.size - 1 = n := ⟨_, rfl⟩
   have hnl : n < s.size := by omega
   have tz : decide ((0 : Int) < (s.size : Int)) = true := qzO (by omega)
   have tz' : decide (0 < s.size) = true := qzO (by omega)
   have en : IntKind.i64.wrap ((s.size : Int) - 1) = (n : Int) := by rw [wrap_small _ (by omega) (by omega)]; omega
   obtain ⟨c8, hc⟩ : ∃ c, s[n] = c := ⟨_, rfl⟩
   have hix := HIX.out n hnl
   rw [hc] at hix
   have hgl : x4.getLast? = some c8 := by rw [List.getLast?_eq_getElem?, ← HSZ.out, hn]; exact hix
   have HN := qzL hn
   have hnx : n ≤ x4.length := by have := HSZ.out; omega
   clear hz hn hix HIX
   by_cases h112 : c8 = 112
   ·have t2 : ((c8.toNat : Int) == 112) = true := by subst h112; rfl
    obtain ⟨hx3, rfl⟩ : x4.take n = x3 ∧ pa = true := by
     have h := HLW.out
     unfold xCz at h
     rw [hgl, h112, if_pos rfl] at h
     injection h with h1 h2
     refine ⟨?_, h2.symm⟩
     rw [← h1, List.dropLast_eq_take]
     congr 1
     have := HN.out
     have := HSZ.out
     omega
    have hsl := HSL.out n hnx
    rw [hx3] at hsl
    have l3 : x3.length ≤ 900000 := by rw [← hx3, List.length_take]; omega
    clear h112 hgl HLW HSL hx3
    have f4 : Y.frozen? ⟨bm, 4, none⟩ = false := HMY.out.frozen 4
    have k4 : Y.cell? ⟨bm, 4, none⟩ = some (.bool false) := HMY.out.cell 4
    go_upto_region 8 with (fail)
    refine xAf ?_
    intro Z hZ
    have HMZ : Hid (Blk Z bm 46 #[.int .i64 (numR x0), .int .i64 (numR x1), .int .i64 (numR x2), .int .i64 0, .bool true]) := by
     unfold Hid
     rw [hZ]
     have h := HMY.out.set_ 4 (.bool true)
     simpa using h
    have HRZ : Hid (Blk Z br 46 #[.int .i64 0, .int .i64 0, .int .i64 0, .int .i64 0, .bool false]) := by unfold Hid; rw [hZ]; exact HRY.out.far (p := ⟨bm, 4, none⟩) HNE.out _
    have HBZ : Hid (Below w.heap.size w Z) := by unfold Hid; rw [hZ]; exact HBY.out.setCell (p := ⟨bm, 4, none⟩) lbm _
    clear hZ f4 k4 HMY HRY HBY t2 hc
    go_upto_region 9 with (fail)
    clear hsl tz tz' en hnl lsz HSS HSZ HN hnx
    have HN3 := qzL (fun W => xBv x3 W (by omega))
    have l3' : Z.cell? ⟨bm, 3, none⟩ = some (.int .i64 0) := HMZ.out.cell 3
    have f3' : Z.frozen? ⟨bm, 3, none⟩ = false := HMZ.out.frozen 3
    go_upto_region 10 with (go_at_call 43; (with_reducible refine (HN3.out _).mono ?_); rintro e w5 ⟨rfl, rfl⟩)
    refine xAf ?_
    intro U hU
    have gmU : Blk U bm 46 #[.int .i64 (numR x0), .int .i64 (numR x1), .int .i64 (numR x2), .int .i64 (numR x3), .bool true] := by
     rw [hU]
     have h := HMZ.out.set_ 3 (.int .i64 (numR x3))
     simpa using h
    have grU : Blk U br 46 #[.int .i64 0, .int .i64 0, .int .i64 0, .int .i64 0, .bool false] := by rw [hU]; exact HRZ.out.far (p := ⟨bm, 3, none⟩) HNE.out _
    have hbU : Below w.heap.size w U := by rw [hU]; exact HBZ.out.setCell (p := ⟨bm, 3, none⟩) lbm _
    clear hU l3' f3' HRZ HBZ HMZ HN3
    go_wp2_with (first | (refine xAi (by rfl) 46 _ rfl bm rfl 46 _ gmU ⟨_, Tryz.underlying46⟩ (by kernel_rfl) ?_; simp only [Act.put, qzG, qzH, qzI]) | (refine xAg rfl 46 _ _ rfl br 46 [] [.int .i64 0, .int .i64 0, .int .i64 0, .int .i64 0, .bool false] [] [.int .i64 (numR x0), .int .i64 (numR x1), .int .i64 (numR x2), .int .i64 (numR x3), .bool true] rfl rfl grU rfl (by kernel_rfl) (by simp [Value.oneCell']) ?_; intro w6 g6 u6))
    refine bodyPost_ret (xBg rfl rfl g6 ⟨_, Tryz.underlying46⟩ (by kernel_rfl)) rfl ?_
    have hmm := HM.out
    exact ⟨by rw [hmm]; rfl, hbU.trans (u6.b _ lbr)⟩
   ·have t2 : ((c8.toNat : Int) == 112) = false := by rw [beq_eq_false_iff_ne]; intro e; apply h112; apply UInt8.toNat_inj.1; show c8.toNat = 112; omega
    obtain ⟨rfl, rfl⟩ : x3 = x4 ∧ pa = false := by
     have h := HLW.out
     unfold xCz at h
     rw [hgl, if_neg (by simp [h112])] at h
     injection h with h1 h2
     exact ⟨h1.symm, h2.symm⟩
    clear h112 hgl HLW HSL
    go_upto_region 9 with (fail)
    rw [← HSS.out]
    clear tz tz' en hnl lsz HSS HSZ HN hnx hc t2
    have HN3 := qzL (fun W => xBv x3 W (by omega))
    have l3' : Y.cell? ⟨bm, 3, none⟩ = some (.int .i64 0) := HMY.out.cell 3
    have f3' : Y.frozen? ⟨bm, 3, none⟩ = false := HMY.out.frozen 3
    go_upto_region 10 with (go_at_call 43; (with_reducible refine (HN3.out _).mono ?_); rintro e w5 ⟨rfl, rfl⟩)
    refine xAf ?_
    intro U hU
    have gmU : Blk U bm 46 #[.int .i64 (numR x0), .int .i64 (numR x1), .int .i64 (numR x2), .int .i64 (numR x3), .bool false] := by
     rw [hU]
     have h := HMY.out.set_ 3 (.int .i64 (numR x3))
     simpa using h
    have grU : Blk U br 46 #[.int .i64 0, .int .i64 0, .int .i64 0, .int .i64 0, .bool false] := by rw [hU]; exact HRY.out.far (p := ⟨bm, 3, none⟩) HNE.out _
    have hbU : Below w.heap.size w U := by rw [hU]; exact HBY.out.setCell (p := ⟨bm, 3, none⟩) lbm _
    clear hU l3' f3' HRY HBY HMY HN3
    go_wp2_with (first | (refine xAi (by rfl) 46 _ rfl bm rfl 46 _ gmU ⟨_, Tryz.underlying46⟩ (by kernel_rfl) ?_; simp only [Act.put, qzG, qzH, qzI]) | (refine xAg rfl 46 _ _ rfl br 46 [] [.int .i64 0, .int .i64 0, .int .i64 0, .int .i64 0, .bool false] [] [.int .i64 (numR x0), .int .i64 (numR x1), .int .i64 (numR x2), .int .i64 (numR x3), .bool false] rfl rfl grU rfl (by kernel_rfl) (by simp [Value.oneCell']) ?_; intro w6 g6 u6))
    refine bodyPost_ret (xBg rfl rfl g6 ⟨_, Tryz.underlying46⟩ (by kernel_rfl)) rfl ?_
    have hmm := HM.out
    exact ⟨by rw [hmm]; rfl, hbU.trans (u6.b _ lbr)⟩
 ·have t1 : ((L.length : Int) != 4) = true := by rw [bne_iff_ne]; omega
  have hRn := qzL (hR4.out h4)
  clear h4 hR4 hRm gr HB hO
  go_wp2_with (refine xAg rfl 46 _ _ rfl br 46 [] [.int .i64 0, .int .i64 0, .int .i64 0, .int .i64 0, .bool false] [] [.int .i64 0, .int .i64 0, .int .i64 0, .int .i64 0, .bool false] rfl rfl gr1 rfl (by kernel_rfl) (by simp [Value.oneCell']) ?_; intro w6 g6 u6)
  refine bodyPost_ret (xBg rfl rfl g6 ⟨_, Tryz.underlying46⟩ (by kernel_rfl)) rfl ?_
  exact ⟨by rw [hRn.out]; rfl, hB1.trans (u6.b _ lbr)⟩
end Go.Proofs.YtginnonjdbpamaaGreatDoor
