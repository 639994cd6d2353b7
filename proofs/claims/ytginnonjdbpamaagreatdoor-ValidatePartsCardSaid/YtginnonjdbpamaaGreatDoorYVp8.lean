/- ValidateParts, proved as it stands: for every contract, trace and list of clauses the law returns true and its arguments read as before. The row's conditions: the listed variables of the library read as the program's text says; the card ties them to that text. -/
import Derived.Test.YtginnonjdbpamaaGreatDoorMc35
import Derived.Test.YtginnonjdbpamaaGreatDoorYVl8
import Derived.Test.YtginnonjdbpamaaGreatDoorTie
import Derived.Test.YtginnonjdbpamaaGreatDoorCards
import Derived.SevenTiedAt
import Derived.ChangeMaps5
import Derived.ChangeShapes
import Derived.Test.YtginnonjdbpamaaGreatDoorMc1
set_option maxRecDepth 100000
namespace Go.Proofs.YtginnonjdbpamaaGreatDoor
open Go.ChangeShapes Go.WideShapes Go.ChangeAt Go.RowKit Go.Deep
theorem parts_lifted (os : Os) (started : os.Started) (H : Type) (enc : TypeId × Value → H) :
  ReturnsInHanded {} Tryz.checked os 10 .any (fun w args => (Rows.validatePartsSpec.pre enc Tryz.prog Tryz.f10 [] false w args ∧ laidMetH Tryz.prog xEs w) ∧ sizedMet enc Tryz.prog Tryz.f10 (OpenSpec.ofChange Rows.validatePartsSpec) false w args)
   (Rows.validatePartsSpec.post enc Tryz.prog Tryz.f10 false true false false) := by
 refine wrap_sh (C := Tryz.checked) (X := fun w _ => laidMetH Tryz.prog xEs w) (fun _ _ _ hh h => h.of_heap hh) Tryz.own started (by kernel_rfl) Tryz.func10
  (ChangeSpec.witness_shaped (enc := enc) (C := Tryz.checked) (os := os) (X := fun w _ => laidMetH Tryz.prog xEs w) false (World.laidAll Tryz.prog os xEs) #[.agg #[.int .i64 0, .slice none 0 0, .slice none 0 0, .slice none 0 0, .slice none 0 0, .int .i64 0, .slice none 0 0], .slice none 0 0, .slice none 0 0] 8 (World.laidAll_os _ _ _)
   (World.shaped_of_ZipB (by kernel_rfl) (by kernel_rfl)) (by kernel_rfl) (by kernel_rfl) (by kernel_rfl)
   (by rw [MakeChecks.laidMetH_plain _ _ _ (by kernel_rfl)]; exact laidMet_laidAll _ (by kernel_rfl) (by kernel_rfl))) ?_
 intro W base args ds gs before hval0 hW hL hsh
 have hval : ∀ (j : Nat) t v, Tryz.f10.params[j]? = some t → args[j]? = some v → Value.okWide Tryz.prog W .any base t v := hval0
 have hW' := hW
 obtain ⟨p, q, hA0, hV, rfl, _, _⟩ := hW
 have hA : DataW.TrodAll enc Tryz.prog W 0 (fun _ => true) true Tryz.f10.params.toList args.toList ds p := hA0
 clear hA0 hval0
 rw [Tryz.params10] at hA hval
 have HA := hA
 obtain ⟨v0, r0, d0, s0, p0, q0, e0, rfl, rfl, h0, t0⟩ := trodAll_cons hA
 obtain ⟨v1, r1, d1, s1, p1, q1, rfl, rfl, rfl, h1, t1⟩ := trodAll_cons t0
 obtain ⟨v2, r2, d2, s2, p2, q2, rfl, rfl, rfl, h2, t2⟩ := trodAll_cons t1
 obtain ⟨rfl, rfl, rfl⟩ := trodAll_nil t2
 obtain rfl : args = #[v0, v1, v2] := by cases args; simp_all
 obtain ⟨rfl, rfl⟩ := trodVars_none hV
 obtain ⟨c, m, rfl, hc⟩ := open_con (hval 0 27 v0 rfl rfl) h0
 obtain ⟨Al, l, kl, rfl, hl⟩ := xHp (hval 1 22 v1 rfl rfl) h1
 obtain ⟨Ax, x, kx, rfl, hx⟩ := xHp (hval 2 22 v2 rfl rfl) h2
 simp only [List.append_nil] at hW' HA
 refine (parts_walk c m l Al kl x Ax kx W (lw_of hL hsh) hc hl hx).mono fun e W' ⟨he, hnx⟩ => ?_
 subst he
 have hargs := xIi hnx (by kernel_rfl) HA (fun x hx => hW'.lt x (by simpa using hx))
 exact ⟨_, rfl, _, _, _, [], _, [], hW', trodAll_mk1 (shut_bool (by kernel_rfl) true), hargs, rfl, hnx.frame _, fun h => by cases h⟩
theorem parts_row : Rows.ValidatePartsSaid :=
 OpenClaim.holds_of_wide 10 Tryz.f10 rfl rfl rfl rfl rfl rfl rfl ⟨rfl, rfl, rfl, rfl, rfl⟩ rfl rfl rfl rfl rfl (by kernel_rfl) Tryz.func10 (by kernel_rfl)
  (of_decide_eq_true (by kernel_rfl)) (by unfold Func.isWrapper; first | (rw [if_pos (by decide +kernel)]; kernel_rfl) | (rw [if_neg (by decide +kernel)]; exact ⟨rfl, rfl⟩))
  (fun os started H enc _ => parts_lifted os started H enc)
theorem parts_holds : Rows.ValidatePartsCardSaid :=
 Claim7.holds_tied_plain_at .later [] [.data, .data, .data, .sentinel, .sentinel] true _ true
  parts_row (fun _ h => by cases h) (by kernel_rfl) (fun _ h => by cases h) validateParts_row_tie rfl ⟨rfl, rfl⟩ (by kernel_rfl) rfl
  (fun f fn hf hfn => by
   obtain rfl : f = 10 := Option.some.inj ((show Tryz.prog.funcNamed "estoppel/estoppellaw16.ValidateParts" = some 10 by kernel_rfl).symm.trans hf) |>.symm
   obtain rfl : fn = Tryz.f10 := (Option.some.inj (Tryz.func10.symm.trans hfn)).symm
   exact ⟨by kernel_rfl, fun j t ht => by
    rw [Tryz.params10] at ht
    have hm : t ∈ [27, 22, 22] := by simpa using Array.mem_of_getElem? ht
    have hall : ([27, 22, 22].all fun u => !Tryz.prog.wantsStandIn u) = true := by kernel_rfl
    exact (show Tryz.prog.wantsStandIn t = false by simpa using List.all_eq_true.1 hall t hm)⟩)
  (by kernel_rfl)
#print axioms parts_holds
end Go.Proofs.YtginnonjdbpamaaGreatDoor
