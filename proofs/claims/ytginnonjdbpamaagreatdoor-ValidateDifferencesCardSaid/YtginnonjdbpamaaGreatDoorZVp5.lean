/- ValidateDifferences, proved as it stands: for every contract, trace and three small numbers the law returns true and its arguments read as before. The row's conditions: the listed variables of the library read as the program's text says; the card ties them to that text. -/
import Derived.Test.YtginnonjdbpamaaGreatDoorMb36
import Derived.Test.YtginnonjdbpamaaGreatDoorZVl5
import Derived.Test.YtginnonjdbpamaaGreatDoorZVo5
import Derived.Test.YtginnonjdbpamaaGreatDoorTie
import Derived.Test.YtginnonjdbpamaaGreatDoorCards
import Derived.SevenTiedAt
import Derived.ChangeMaps5
import Derived.ChangeShapes
import Derived.Test.YtginnonjdbpamaaGreatDoorMb1
set_option maxRecDepth 100000
namespace Go.Proofs.YtginnonjdbpamaaGreatDoor
open Go.ChangeShapes Go.WideShapes Go.ChangeAt Go.RowKit Go.Deep
theorem differs_lifted (os : Os) (started : os.Started) (H : Type) (enc : TypeId × Value → H) :
  ReturnsInHanded {} Tryz.checked os 5 .any (fun w args => (Rows.validateDifferencesSpec.pre enc Tryz.prog Tryz.f5 [] false w args ∧ laidMetH Tryz.prog laidB w) ∧ sizedMet enc Tryz.prog Tryz.f5 (OpenSpec.ofChange Rows.validateDifferencesSpec) false w args)
   (Rows.validateDifferencesSpec.post enc Tryz.prog Tryz.f5 false true false false) := by
 refine wrap_sh (C := Tryz.checked) (X := fun w _ => laidMetH Tryz.prog laidB w) (fun _ _ _ hh h => h.of_heap hh) Tryz.own started (by kernel_rfl) Tryz.func5
  (ChangeSpec.witness_shaped (enc := enc) (C := Tryz.checked) (os := os) (X := fun w _ => laidMetH Tryz.prog laidB w) false (World.laidAll Tryz.prog os laidB) #[.agg #[.int .i64 0, .slice none 0 0, .slice none 0 0, .slice none 0 0, .slice none 0 0, .int .i64 0, .slice none 0 0], .slice none 0 0, .int .u8 0, .int .u8 0, .int .u8 0] 8 (World.laidAll_os _ _ _)
   (World.shaped_of_ZipB (by kernel_rfl) (by kernel_rfl)) (by kernel_rfl) (by kernel_rfl) (by kernel_rfl)
   (by rw [MakeChecks.laidMetH_plain _ _ _ (by kernel_rfl)]; exact laidMet_laidAll _ (by kernel_rfl) (by kernel_rfl))) ?_
 intro W base args ds gs before hval0 hW hL hsh
 have hval : ∀ (j : Nat) t v, Tryz.f5.params[j]? = some t → args[j]? = some v → Value.okWide Tryz.prog W .any base t v := hval0
 have hW' := hW
 obtain ⟨p, q, hA0, hV, rfl, _, _⟩ := hW
 have hA : DataW.TrodAll enc Tryz.prog W 0 (fun _ => true) true Tryz.f5.params.toList args.toList ds p := hA0
 clear hA0 hval0
 rw [Tryz.params5] at hA hval
 have HA := hA
 obtain ⟨v0, r0, d0, s0, p0, q0, e0, rfl, rfl, h0, t0⟩ := trodAll_cons hA
 obtain ⟨v1, r1, d1, s1, p1, q1, rfl, rfl, rfl, h1, t1⟩ := trodAll_cons t0
 obtain ⟨v2, r2, d2, s2, p2, q2, rfl, rfl, rfl, h2, t2⟩ := trodAll_cons t1
 obtain ⟨v3, r3, d3, s3, p3, q3, rfl, rfl, rfl, h3, t3⟩ := trodAll_cons t2
 obtain ⟨v4, r4, d4, s4, p4, q4, rfl, rfl, rfl, h4, t4⟩ := trodAll_cons t3
 obtain ⟨rfl, rfl, rfl⟩ := trodAll_nil t4
 obtain rfl : args = #[v0, v1, v2, v3, v4] := by cases args; simp_all
 obtain ⟨rfl, rfl⟩ := trodVars_none hV
 obtain ⟨c, m, rfl, hc⟩ := open_con (hval 0 27 v0 rfl rfl) h0
 obtain ⟨Al, l, kl, rfl, hl⟩ := open_ints (hval 1 22 v1 rfl rfl) h1
 have g2 := h2
 obtain ⟨a, rfl, ea, fa, wa⟩ := open_int Tryz.underlying5 (hval 2 5 v2 rfl rfl) g2
 clear g2 ea fa
 have ba := wf_u8 wa
 have g3 := h3
 obtain ⟨b, rfl, eb, fb, wb⟩ := open_int Tryz.underlying5 (hval 3 5 v3 rfl rfl) g3
 clear g3 eb fb
 have bb := wf_u8 wb
 have g4 := h4
 obtain ⟨d, rfl, ed, fd, wd⟩ := open_int Tryz.underlying5 (hval 4 5 v4 rfl rfl) g4
 clear g4 ed fd
 have bd := wf_u8 wd
 simp only [List.append_nil] at hW' HA
 refine (differs_walk c m l Al kl a b d W (lw_of hL hsh) hc hl ba bb bd).mono fun e W' ⟨he, hnx⟩ => ?_
 subst he
 have hargs := below_all hnx (by kernel_rfl) HA (fun x hx => hW'.lt x (by simpa using hx))
 exact ⟨_, rfl, _, _, _, [], _, [], hW', trodAll_mk1 (shut_bool (by kernel_rfl) true), hargs, rfl, hnx.frame _, fun h => by cases h⟩
theorem differs_row : Rows.ValidateDifferencesSaid :=
 OpenClaim.holds_of_wide 5 Tryz.f5 rfl rfl rfl rfl rfl rfl rfl ⟨rfl, rfl, rfl, rfl, rfl⟩ rfl rfl rfl rfl rfl (by kernel_rfl) Tryz.func5 (by kernel_rfl)
  (of_decide_eq_true (by kernel_rfl)) (by unfold Func.isWrapper; first | (rw [if_pos (by decide +kernel)]; kernel_rfl) | (rw [if_neg (by decide +kernel)]; exact ⟨rfl, rfl⟩))
  (fun os started H enc _ => differs_lifted os started H enc)
theorem differs_holds : Rows.ValidateDifferencesCardSaid :=
 Claim7.holds_tied_plain_at .later [] [.data, .data, .data, .sentinel, .sentinel] true _ true
  differs_row (fun _ h => by cases h) (by kernel_rfl) (fun _ h => by cases h) validateDifferences_row_tie rfl ⟨rfl, rfl⟩ (by kernel_rfl) rfl
  (fun f fn hf hfn => by
   obtain rfl : f = 5 := Option.some.inj ((show Tryz.prog.funcNamed "estoppel/estoppellaw16.ValidateDifferences" = some 5 by kernel_rfl).symm.trans hf) |>.symm
   obtain rfl : fn = Tryz.f5 := (Option.some.inj (Tryz.func5.symm.trans hfn)).symm
   exact ⟨by kernel_rfl, fun j t ht => by
    rw [Tryz.params5] at ht
    have hm : t ∈ [27, 22, 5, 5, 5] := by simpa using Array.mem_of_getElem? ht
    have hall : ([27, 22, 5, 5, 5].all fun u => !Tryz.prog.wantsStandIn u) = true := by kernel_rfl
    exact (show Tryz.prog.wantsStandIn t = false by simpa using List.all_eq_true.1 hall t hm)⟩)
  (by kernel_rfl)
#print axioms differs_holds
end Go.Proofs.YtginnonjdbpamaaGreatDoor
