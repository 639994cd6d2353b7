/- NettingConserves, proved as it stands: for every number of parties and every list of debts the law (the positions add up to 0 and are kept) returns true and its arguments read as before. No condition. -/
import Derived.Test.YthgbdpiihdhfiaaOpen
import Derived.Test.YthgbdpiihdhfiaaN24
namespace Go.Proofs.Ythgbdpiihdhfiaa
open Go.ChangeShapes Go.WideShapes Go.ChangeAt Go.RowKit Go.Deep

set_option maxRecDepth 100000 in
theorem conserves_lifted (os : Os) (started : os.Started) (H : Type) (enc : TypeId × Value → H) :
    ReturnsInHanded {} Try.checked os 4 .any (Rows.nettingConservesSpec.pre6 enc Try.prog Try.f4 Rows.nettingConservesRow.domain false) (Rows.nettingConservesSpec.post enc Try.prog Try.f4 false true false false) := by
  refine returnsInHanded_of_change_sized (C := Try.checked) Try.own started (by kernel_rfl) Try.func4
    (ChangeSpec.witness6 (enc := enc) (C := Try.checked) false ⟨#[], #[.int .i64 0, .slice none 0 0], []⟩ 8 (by kernel_rfl) (by kernel_rfl) (by kernel_rfl) (by kernel_rfl)) ?_
  intro W base args ds gs before hval0 hW _ hsz0 _
  have hsz : (DataW.weightsEach Try.prog (Try.f4.params.toList ++ Rows.nettingConservesSpec.plain.varTypes Try.prog) (ds ++ gs)).all (· ≤ reachBytes) = true := hsz0
  clear hsz0
  have hval : ∀ (j : Nat) t v, Try.f4.params[j]? = some t → args[j]? = some v → Value.okWide Try.prog W .any base t v := hval0
  have hW' := hW
  obtain ⟨p, q, hA0, hV, rfl, _, _⟩ := hW
  have hA : DataW.TrodAll enc Try.prog W 0 (fun _ => true) true Try.f4.params.toList args.toList ds p := hA0
  rw [Try.params4] at hA hval hsz
  obtain ⟨v0, v1, d0, d1, p0, p1, rfl, rfl, rfl, h0, h1⟩ := trodAll_two hA
  obtain ⟨rfl, rfl⟩ := trodVars_none hV
  obtain ⟨n, rfl, rfl, rfl, wn⟩ := open_int Try.underlying3 (hval 0 3 v0 rfl rfl) h0
  obtain ⟨A, l, c, rfl, hd, hfit, hseg⟩ := open_debts (hval 1 22 v1 rfl rfl) h1
  clear hA0 hval0
  simp only [List.append_nil, List.nil_append] at hW'
  have hlt : ∀ x ∈ p1, x.block < W.heap.size := fun x hx => by simpa using hW'.lt x (by simpa using hx)
  have hlen : l.length ≤ 4611686018427387904 := by
    rcases hd with rfl | ⟨es, sp, rfl, hes⟩
    · simp
    · have := sized_slice hsz (j := 1) (t := 22) (e := 38) rfl rfl Try.underlying22
      rw [show Try.prog.bytesOf 38 = 32 from by kernel_rfl] at this
      simp only [reachBytes] at this
      omega
  have hb := bounds_i64 wn
  refine (conserves_any ⟨hb.1, hb.2, hlen, hfit⟩ A c W hseg).mono fun e W' ⟨he, hnx⟩ => ?_
  subst he
  have hargs : DataW.TrodAll enc Try.prog W' 0 (fun b => decide (b < W.heap.size)) true [3, 22] [.int .i64 n, .slice A l.length c] [.lit (.int .i64 n), d1] p1 := by
    have := trodAll_mk2 (p := []) (shut_int (enc := enc) (w := W') (base := 0) (spare := fun b => decide (b < W.heap.size)) (held := true) Try.underlying3 wn) (Below.trod Try.laidOut (by kernel_rfl) (of_decide_eq_true (by kernel_rfl)) h1 hnx hlt)
    simpa using this
  exact ⟨_, rfl, _, _, _, [], p1, [], hW', trodAll_mk1 (shut_bool (by kernel_rfl) true), hargs, rfl, hnx.frame _, fun h => by cases h⟩
theorem conserves_holds : Rows.NettingConservesSaid :=
  OpenClaim.holds_of_wide 4 Try.f4 rfl rfl rfl rfl rfl rfl rfl ⟨rfl, rfl, rfl, rfl, rfl⟩ rfl rfl rfl rfl rfl (by kernel_rfl) Try.func4 (by kernel_rfl)
    (of_decide_eq_true (by kernel_rfl)) (by unfold Func.isWrapper; first | (rw [if_pos (by decide +kernel)]; kernel_rfl) | (rw [if_neg (by decide +kernel)]; exact ⟨rfl, rfl⟩))
    (fun os started H enc _ => conserves_lifted os started H enc)
#print axioms conserves_holds
end Go.Proofs.Ythgbdpiihdhfiaa
