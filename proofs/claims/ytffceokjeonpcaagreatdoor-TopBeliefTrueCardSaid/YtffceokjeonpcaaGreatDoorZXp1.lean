/- TopBeliefTrue, proved as it stands: for every contract, small number and trace the law returns true and its arguments read as before. The row's conditions: the listed variables of the library read as the program's text says; the card ties them to that text. -/
import Derived.Test.YtffceokjeonpcaaGreatDoorMb19
import Derived.Test.YtffceokjeonpcaaGreatDoorZTz4
import Derived.Test.YtffceokjeonpcaaGreatDoorTie
import Derived.Test.YtffceokjeonpcaaGreatDoorCards
import Derived.SevenTiedAt
import Derived.ChangeMaps5
import Derived.ChangeShapes
import Derived.Test.YtffceokjeonpcaaGreatDoorMb1
set_option maxRecDepth 100000
namespace Go.Proofs.YtffceokjeonpcaaGreatDoor
open Go.ChangeShapes Go.WideShapes Go.ChangeAt Go.RowKit Go.Deep
theorem belief_lifted (os : Os) (started : os.Started) (H : Type) (enc : TypeId × Value → H) :
  ReturnsInHanded {} Tryz.checked os 4 .any (fun w args => (Rows.topBeliefTrueSpec.pre enc Tryz.prog Tryz.f4 [] false w args ∧ laidMetH Tryz.prog laidB w) ∧ sizedMet enc Tryz.prog Tryz.f4 (OpenSpec.ofChange Rows.topBeliefTrueSpec) false w args)
   (Rows.topBeliefTrueSpec.post enc Tryz.prog Tryz.f4 false true false false) := by
 refine wrap_sh (C := Tryz.checked) (X := fun w _ => laidMetH Tryz.prog laidB w) (fun _ _ _ hh h => h.of_heap hh) Tryz.own started (by kernel_rfl) Tryz.func4
  (ChangeSpec.witness_shaped (enc := enc) (C := Tryz.checked) (os := os) (X := fun w _ => laidMetH Tryz.prog laidB w) false (World.laidAll Tryz.prog os laidB) #[.agg #[.int .i64 0, .slice none 0 0, .slice none 0 0, .slice none 0 0, .slice none 0 0, .int .i64 0, .slice none 0 0], .int .u8 0, .slice none 0 0] 8 (World.laidAll_os _ _ _)
   (World.shaped_of_ZipB (by kernel_rfl) (by kernel_rfl)) (by kernel_rfl) (by kernel_rfl) (by kernel_rfl)
   (by rw [MakeChecks.laidMetH_plain _ _ _ (by kernel_rfl)]; exact laidMet_laidAll _ (by kernel_rfl) (by kernel_rfl))) ?_
 intro W base args ds gs before hval0 hW hL hsh
 have hval : ∀ (j : Nat) t v, Tryz.f4.params[j]? = some t → args[j]? = some v → Value.okWide Tryz.prog W .any base t v := hval0
 have hW' := hW
 obtain ⟨p, q, hA0, hV, rfl, _, _⟩ := hW
 have hA : DataW.TrodAll enc Tryz.prog W 0 (fun _ => true) true Tryz.f4.params.toList args.toList ds p := hA0
 clear hA0 hval0
 rw [Tryz.params4] at hA hval
 have HA := hA
 obtain ⟨v0, r0, d0, s0, p0, q0, e0, rfl, rfl, h0, t0⟩ := trodAll_cons hA
 obtain ⟨v1, r1, d1, s1, p1, q1, rfl, rfl, rfl, h1, t1⟩ := trodAll_cons t0
 obtain ⟨v2, r2, d2, s2, p2, q2, rfl, rfl, rfl, h2, t2⟩ := trodAll_cons t1
 obtain ⟨rfl, rfl, rfl⟩ := trodAll_nil t2
 obtain rfl : args = #[v0, v1, v2] := by cases args; simp_all
 obtain ⟨rfl, rfl⟩ := trodVars_none hV
 obtain ⟨c, m, rfl, hc⟩ := open_con (hval 0 27 v0 rfl rfl) h0
 have g1 := h1
 obtain ⟨a1, rfl, ea1, fa1, wa1⟩ := open_int Tryz.underlying5 (hval 1 5 v1 rfl rfl) g1
 clear g1 ea1 fa1
 have ba1 := wf_u8 wa1
 obtain ⟨Al, l, kl, rfl, hl⟩ := open_ints (hval 2 22 v2 rfl rfl) h2
 simp only [List.append_nil] at hW' HA
 refine (xI9 c m a1 l Al kl W (lx_of hL) hc hl ba1).mono fun e W' ⟨he, hnx⟩ => ?_
 subst he
 have hargs := below_all hnx (by kernel_rfl) HA (fun x hx => hW'.lt x (by simpa using hx))
 exact ⟨_, rfl, _, _, _, [], _, [], hW', trodAll_mk1 (shut_bool (by kernel_rfl) true), hargs, rfl, hnx.frame _, fun h => by cases h⟩
theorem belief_row : Rows.TopBeliefTrueSaid :=
 OpenClaim.holds_of_wide 4 Tryz.f4 rfl rfl rfl rfl rfl rfl rfl ⟨rfl, rfl, rfl, rfl, rfl⟩ rfl rfl rfl rfl rfl (by kernel_rfl) Tryz.func4 (by kernel_rfl)
  (of_decide_eq_true (by kernel_rfl)) (by unfold Func.isWrapper; first | (rw [if_pos (by decide +kernel)]; kernel_rfl) | (rw [if_neg (by decide +kernel)]; exact ⟨rfl, rfl⟩))
  (fun os started H enc _ => belief_lifted os started H enc)
theorem belief_holds : Rows.TopBeliefTrueCardSaid :=
 Claim7.holds_tied_plain_at .later [] [.data, .data, .data] true _ false
  belief_row (fun _ h => by cases h) (by kernel_rfl) (fun _ h => by cases h) topBeliefTrue_row_tie rfl ⟨rfl, rfl⟩ (by kernel_rfl) rfl
  (fun f fn hf hfn => by
   obtain rfl : f = 4 := Option.some.inj ((show Tryz.prog.funcNamed "estoppel/estoppeltop.TopBeliefTrue" = some 4 by kernel_rfl).symm.trans hf) |>.symm
   obtain rfl : fn = Tryz.f4 := (Option.some.inj (Tryz.func4.symm.trans hfn)).symm
   exact ⟨by kernel_rfl, fun j t ht => by
    rw [Tryz.params4] at ht
    have hm : t ∈ [27, 5, 22] := by simpa using Array.mem_of_getElem? ht
    have hall : ([27, 5, 22].all fun u => !Tryz.prog.wantsStandIn u) = true := by kernel_rfl
    exact (show Tryz.prog.wantsStandIn t = false by simpa using List.all_eq_true.1 hall t hm)⟩)
  (by kernel_rfl)
#print axioms belief_holds
end Go.Proofs.YtffceokjeonpcaaGreatDoor
