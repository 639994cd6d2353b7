/- The walk of the reference's States. -/
import Derived.Test.YtginnonjdbpamaaGreatDoorZWs1
import Derived.Test.YtginnonjdbpamaaGreatDoorMb1
set_option maxHeartbeats 6400000
set_option maxRecDepth 100000
namespace Go.Proofs.YtginnonjdbpamaaGreatDoor
open Go.RowKit
theorem states_any (P1 P2 : List (Sta × Qm)) (A1 A2 : Option Addr) (k1 k2 : Nat) (w : World) (h1 : Stl w A1 P1) (h2 : Stl w A2 P2) (hn : P1.length ≤ 1000000) :
  Calls Tryz.prog 25 #[.slice A1 P1.length k1, .slice A2 P2.length k2] w fun e w' => e = .returned (.bool (decide (P1.map (·.1) = P2.map (·.1)))) ∧ Below w.heap.size w w' := by
 obtain ⟨R, eR⟩ : ∃ R, decide (P1.map (·.1) = P2.map (·.1)) = R := ⟨_, rfl⟩
 rw [eR]
 have HR : Hid (R = decide (P1.map (·.1) = P2.map (·.1))) := eR.symm
 have H1 := Lib.hid h1
 have H2 := Lib.hid h2
 have HN := Lib.hid hn
 clear h1 h2 hn eR
 by_cases hl : P1.length ≠ P2.length
 ·have u : (((P1.length : Nat) : Int) != ((P2.length : Nat) : Int)) = true := by rw [bne_iff_ne]; omega
  have hf : Hid (R = false) := by
   unfold Hid; rw [HR.out]
   exact decide_eq_false fun h => hl (by have := congrArg List.length h; simpa using this)
  clear hl
  go_enter Tryz.func25, Tryz.ntmps25
  go_wp2
  go_ret
  exact ⟨ret_bool hf.out.symm, Below.refl _ _⟩
 have gl : P1.length = P2.length := Decidable.byContradiction hl
 have u : (((P1.length : Nat) : Int) != ((P2.length : Nat) : Int)) = false := by rw [bne_eq_false_iff_eq]; omega
 have L := Lib.hid gl
 clear hl gl
 go_enter Tryz.func25, Tryz.ntmps25
 go_upto_region 4 with (fail)
 go_loopw [5] (fun v WR => ∃ (i : Nat), i ≤ P1.length ∧ v = .int .i64 i ∧ Hid (∀ j, j < i → (P1[j]?).map (·.1) = (P2[j]?).map (·.1)) ∧ Hid (Below w.heap.size w WR)) (fun v _ => 2000000 - (intOf v).toNat)
 case atStart => exact ⟨0, by omega, rfl, fun j hj => by omega, Below.refl _ _⟩
 case round =>
 obtain ⟨i, hi', rfl, hpre, hB⟩ := hrel
 by_cases hlt : i < P1.length
 ·have tn : decide ((i : Int) < (P1.length : Int)) = true := decide_eq_true (by omega)
  have hl2 : i < P2.length := by rw [← L.out]; exact hlt
  have hnn := HN.out
  obtain ⟨x, hs⟩ : ∃ s, P1[i]? = some s := ⟨_, qzJ hlt⟩
  obtain ⟨y, ht⟩ : ∃ t, P2[i]? = some t := ⟨_, qzJ hl2⟩
  obtain ⟨c1, o1, e1, hb1, hc1⟩ := segAt (H1.out.then_ hB.out).s hs
  obtain ⟨c2, o2, e2, hb2, hc2⟩ := segAt (H2.out.then_ hB.out).s ht
  have s0 : wr.cell? ⟨c1, o1 + i * 4, none⟩ = some (.int .i64 x.1.day) := by simpa using hc1 0 _ rfl
  have s1 : wr.cell? ⟨c1, o1 + i * 4 + 1, none⟩ = some (.slice x.2.h x.1.hol.length x.2.hc) := hc1 1 _ rfl
  have s2 : wr.cell? ⟨c1, o1 + i * 4 + 2, none⟩ = some (.slice x.2.u x.1.used.length x.2.uc) := hc1 2 _ rfl
  have s3 : wr.cell? ⟨c1, o1 + i * 4 + 3, none⟩ = some (.slice x.2.m x.1.marks.length x.2.mc) := hc1 3 _ rfl
  have t0 : wr.cell? ⟨c2, o2 + i * 4, none⟩ = some (.int .i64 y.1.day) := by simpa using hc2 0 _ rfl
  have t1 : wr.cell? ⟨c2, o2 + i * 4 + 1, none⟩ = some (.slice y.2.h y.1.hol.length y.2.hc) := hc2 1 _ rfl
  have t2 : wr.cell? ⟨c2, o2 + i * 4 + 2, none⟩ = some (.slice y.2.u y.1.used.length y.2.uc) := hc2 2 _ rfl
  have t3 : wr.cell? ⟨c2, o2 + i * 4 + 3, none⟩ = some (.slice y.2.m y.1.marks.length y.2.mc) := hc2 3 _ rfl
  have hix := fun W => idx_at (t := 30) (size := 4) (cap := k1) (len := P1.length) e1 hlt (by kernel_rfl) (fun W => by kernel_rfl) W
  have hiy := fun W => idx_at (t := 30) (size := 4) (cap := k2) (len := P2.length) e2 hl2 (by kernel_rfl) (fun W => by kernel_rfl) W
  obtain ⟨D, eD⟩ : ∃ D, decide (x.1 = y.1) = D := ⟨_, rfl⟩
  have HSM : Hid (∀ W, Below wr.heap.size wr W → Calls Tryz.prog 53 #[.agg #[.int .i64 x.1.day, .slice x.2.h x.1.hol.length x.2.hc, .slice x.2.u x.1.used.length x.2.uc, .slice x.2.m x.1.marks.length x.2.mc], .agg #[.int .i64 y.1.day, .slice y.2.h y.1.hol.length y.2.hc, .slice y.2.u y.1.used.length y.2.uc, .slice y.2.m y.1.marks.length y.2.mc]] W fun e w' => e = .returned (.bool D) ∧ Below W.heap.size W w') := fun W hb => by
   rw [← eD]
   exact rsame_any x.1 y.1 x.2 y.2 W ((H1.out.then_ (below_then hB.out hb)).r x (qzK hs)) ((H2.out.then_ (below_then hB.out hb)).r y (qzK ht))
  have HS := Lib.hid hs
  have HT := Lib.hid ht
  have HD := Lib.hid eD
  clear hc1 hc2 hs ht e1 e2 eD
  cases D with
  | true =>
   have hp2 : Hid (∀ j, j < i + 1 → (P1[j]?).map (·.1) = (P2[j]?).map (·.1)) := by
    intro j hj
    by_cases q : j = i
    ·rw [q, HS.out, HT.out]
     simp only [Option.map_some]
     rw [of_decide_eq_true HD.out]
    ·exact hpre.out j (by omega)
   clear hpre
   go_upto_region 6 with (fail)
   have rg0 := cR s0
   have rg1 := cR s1
   have rg2 := cR s2
   have rg3 := cR s3
   have rg4 := cR t0
   have rg5 := cR t1
   have rg6 := cR t2
   have rg7 := cR t3
   refine wp_region_qt [0, 1, 2, 3, 4, 5, 6, 7, 8, 9] [] (by kernel_rfl) (by kernel_rfl) pO ?_
   simp only [opsAt, qzA, qzB, qzC, qzD, qzE, qzF]
   repeat (go_big_quiet_step ((go_at_call 53; with_reducible exact qt_call (fun W' hW' => HSM.out W' hW') _ _)))
   refine wpQuiet_nil ?_
   intro W2 hw2
   have hbW2 := qt_world hw2
   clear hw2 rg0 rg1 rg2 rg3 rg4 rg5 rg6 rg7
   refine wpList_done ?_
   go_wp2
   go_roundw
   case rel => exact ⟨i + 1, by omega, by simp, hp2, below_then hB.out hbW2⟩
   case measure => simp [intOf]; omega
  | false =>
   have hf : Hid (R = false) := by
    unfold Hid
    rw [HR.out]
    refine decide_eq_false fun h => of_decide_eq_false HD.out ?_
    have e := congrArg (fun l => l[i]?) h
    simp only [List.getElem?_map, HS.out, HT.out, Option.map_some, Option.some.injEq] at e
    exact e
   clear hpre
   go_upto_region 6 with (fail)
   have rg0 := cR s0
   have rg1 := cR s1
   have rg2 := cR s2
   have rg3 := cR s3
   have rg4 := cR t0
   have rg5 := cR t1
   have rg6 := cR t2
   have rg7 := cR t3
   refine wp_region_qt [0, 1, 2, 3, 4, 5, 6, 7, 8, 9] [] (by kernel_rfl) (by kernel_rfl) pO ?_
   simp only [opsAt, qzA, qzB, qzC, qzD, qzE, qzF]
   repeat (go_big_quiet_step ((go_at_call 53; with_reducible exact qt_call (fun W' hW' => HSM.out W' hW') _ _)))
   refine wpQuiet_nil ?_
   intro W2 hw2
   have hbW2 := qt_world hw2
   clear hw2 rg0 rg1 rg2 rg3 rg4 rg5 rg6 rg7
   refine wpList_done ?_
   go_wp2
   go_ret
   exact ⟨ret_bool hf.out.symm, below_then hB.out hbW2⟩
 have tn : decide ((i : Int) < (P1.length : Int)) = false := decide_eq_false (by omega)
 have hf : Hid (R = true) := by
  unfold Hid
  rw [HR.out]
  refine decide_eq_true (List.ext_getElem? fun j => ?_)
  rw [List.getElem?_map, List.getElem?_map]
  by_cases hj : j < i
  ·exact hpre.out j hj
  ·rw [List.getElem?_eq_none (by omega), List.getElem?_eq_none (by have := L.out; omega)]
 clear hpre
 go_wp2
 go_ret
 exact ⟨ret_bool hf.out.symm, hB.out⟩
end Go.Proofs.YtginnonjdbpamaaGreatDoor
