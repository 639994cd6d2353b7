/- RatioLowest, proved as it stands: for every two integers the law returns true and its arguments read as before. The row's conditions: the listed variables of the library read as the program's text says; the card ties them to that text. -/
import Derived.Test.YtbkekabhdpoddaaDoorRe3
import Derived.Test.YtbkekabhdpoddaaDoorRd7
import Derived.Test.YtbkekabhdpoddaaDoorTie
import Derived.Test.YtbkekabhdpoddaaDoorCards
import Derived.SevenTiedAt
import Derived.ChangeMaps5
import Derived.ChangeShapes
namespace Go.Proofs.YtbkekabhdpoddaaDoor
open Go.ChangeShapes Go.WideShapes Go.ChangeAt Go.RowKit

set_option maxRecDepth 100000 in
theorem lowest_lifted (os : Os) (started : os.Started) (H : Type) (enc : TypeId × Value → H) :
    ReturnsInHanded {} Tryd.checked os 3 .any (fun w args => (Rows.ratioLowestSpec.pre enc Tryd.prog Tryd.f3 [] false w args ∧ laidMetH Tryd.prog laidB w) ∧ sizedMet enc Tryd.prog Tryd.f3 (OpenSpec.ofChange Rows.ratioLowestSpec) false w args)
      (Rows.ratioLowestSpec.post enc Tryd.prog Tryd.f3 false true false false) := by
  refine wrap_sh (C := Tryd.checked) (X := fun w _ => laidMetH Tryd.prog laidB w) (fun _ _ _ hh h => h.of_heap hh) Tryd.own started (by kernel_rfl) Tryd.func3
    (ChangeSpec.witness_shaped (enc := enc) (C := Tryd.checked) (os := os) (X := fun w _ => laidMetH Tryd.prog laidB w) false (World.laidAll Tryd.prog os laidB) #[.int .i64 0, .int .i64 0] 8 (World.laidAll_os _ _ _)
      (World.shaped_of_ZipB (by kernel_rfl) (by kernel_rfl)) (by kernel_rfl) (by kernel_rfl) (by kernel_rfl)
      (by rw [MakeChecks.laidMetH_plain _ _ _ (by kernel_rfl)]; exact laidMet_laidAll _ (by kernel_rfl) (by kernel_rfl))) ?_
  intro W base args ds gs before hval0 hW hL hsh
  have hval : ∀ (j : Nat) t v, Tryd.f3.params[j]? = some t → args[j]? = some v → Value.okWide Tryd.prog W .any base t v := hval0
  have hW' := hW
  obtain ⟨p, q, hA0, hV, rfl, _, _⟩ := hW
  have hA : DataW.TrodAll enc Tryd.prog W 0 (fun _ => true) true Tryd.f3.params.toList args.toList ds p := hA0
  rw [Tryd.params3] at hA hval
  obtain ⟨v0, v1, d0, d1, p0, p1, rfl, rfl, rfl, h0, h1⟩ := trodAll_two hA
  obtain ⟨rfl, rfl⟩ := trodVars_none hV
  simp only [List.append_nil, List.nil_append] at hW'
  have l0 : ∀ x ∈ p0, x.block < W.heap.size := fun x hx => by simpa using hW'.lt x (by simp [hx])
  have l1 : ∀ x ∈ p1, x.block < W.heap.size := fun x hx => by simpa using hW'.lt x (by simp [hx])
  have g0 := h0
  obtain ⟨n0, rfl, e0, f0, w0⟩ := open_int Tryd.underlying3 (hval 0 3 v0 rfl rfl) g0
  clear g0 e0 f0
  have b0 := bounds_i64 w0
  have g1 := h1
  obtain ⟨n1, rfl, e1, f1, w1⟩ := open_int Tryd.underlying3 (hval 1 3 v1 rfl rfl) g1
  clear g1 e1 f1
  have b1 := bounds_i64 w1
  clear hA0 hval0
  refine (lowest_law n0 n1 W (lw_of hL hsh) b0 b1).mono fun e W' ⟨he, hnx⟩ => ?_
  subst he
  have hargs : DataW.TrodAll enc Tryd.prog W' 0 (fun b => decide (b < W.heap.size)) true [3, 3] [.int .i64 n0, .int .i64 n1] [d0, d1] (p0 ++ p1) := by
    have := trodAll_mk2 (Below.trod Tryd.laidOut (by kernel_rfl) (of_decide_eq_true (by kernel_rfl)) h0 hnx l0) (Below.trod Tryd.laidOut (by kernel_rfl) (of_decide_eq_true (by kernel_rfl)) h1 hnx l1)
    simpa [List.append_assoc] using this
  exact ⟨_, rfl, _, _, _, [], (p0 ++ p1), [], hW', trodAll_mk1 (shut_bool (by kernel_rfl) true), hargs, rfl, hnx.frame _, fun h => by cases h⟩
theorem lowest_row : Rows.RatioLowestSaid :=
  OpenClaim.holds_of_wide 3 Tryd.f3 rfl rfl rfl rfl rfl rfl rfl ⟨rfl, rfl, rfl, rfl, rfl⟩ rfl rfl rfl rfl rfl (by kernel_rfl) Tryd.func3 (by kernel_rfl)
    (of_decide_eq_true (by kernel_rfl)) (by unfold Func.isWrapper; first | (rw [if_pos (by decide +kernel)]; kernel_rfl) | (rw [if_neg (by decide +kernel)]; exact ⟨rfl, rfl⟩))
    (fun os started H enc _ => lowest_lifted os started H enc)
theorem lowest_holds : Rows.RatioLowestCardSaid :=
  Claim7.holds_tied_plain_at .later [] [.data, .data, .data, .sentinel, .sentinel] true _ true
    lowest_row (fun _ h => by cases h) (by kernel_rfl) (fun _ h => by cases h) ratioLowest_row_tie rfl ⟨rfl, rfl⟩ (by kernel_rfl) rfl
    (fun f fn hf hfn => by
      obtain rfl : f = 3 := Option.some.inj ((show Tryd.prog.funcNamed "estoppel/estoppellaw01.RatioLowest" = some 3 by kernel_rfl).symm.trans hf) |>.symm
      obtain rfl : fn = Tryd.f3 := (Option.some.inj (Tryd.func3.symm.trans hfn)).symm
      exact ⟨by kernel_rfl, fun j t ht => by
        rw [Tryd.params3] at ht
        have hm : t ∈ [3, 3] := by simpa using Array.mem_of_getElem? ht
        have hall : ([3, 3].all fun u => !Tryd.prog.wantsStandIn u) = true := by kernel_rfl
        exact (show Tryd.prog.wantsStandIn t = false by simpa using List.all_eq_true.1 hall t hm)⟩)
    (by kernel_rfl)
#print axioms lowest_holds
end Go.Proofs.YtbkekabhdpoddaaDoor
