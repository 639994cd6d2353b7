/- MergeSymmetric, proved as it stands: for every contract and two lists of patches the law returns true and its arguments read as before. No condition. -/
import Derived.Test.YtcplneglfbdooaaZLc5
import Derived.Test.YtcplneglfbdooaaMb13
import Derived.Test.YtcplneglfbdooaaMb30
import Derived.Test.YtcplneglfbdooaaRows
namespace Go.Proofs.Ytcplneglfbdooaa
open Go.ChangeShapes Go.WideShapes Go.ChangeAt Go.RowKit Go.Deep

set_option maxRecDepth 100000 in
theorem symmetric_lifted (os : Os) (started : os.Started) (H : Type) (enc : TypeId × Value → H) :
    ReturnsInHanded {} Try.checked os 4 .any (Rows.mergeSymmetricSpec.pre6 enc Try.prog Try.f4 Rows.mergeSymmetricRow.domain false) (Rows.mergeSymmetricSpec.post enc Try.prog Try.f4 false true false false) := by
  refine returnsInHanded_of_change_sized (C := Try.checked) Try.own started (by kernel_rfl) Try.func4
    (ChangeSpec.witness6 (enc := enc) (C := Try.checked) false ⟨#[], #[.agg #[.int .i64 0, .slice none 0 0, .slice none 0 0, .slice none 0 0, .slice none 0 0, .int .i64 0, .slice none 0 0], .slice none 0 0, .slice none 0 0], []⟩ 8 (by kernel_rfl) (by kernel_rfl) (by kernel_rfl) (by kernel_rfl)) ?_
  intro W base args ds gs before hval0 hW _ hsz0 _
  clear hsz0
  have hval : ∀ (j : Nat) t v, Try.f4.params[j]? = some t → args[j]? = some v → Value.okWide Try.prog W .any base t v := hval0
  have hW' := hW
  obtain ⟨p, q, hA0, hV, rfl, _, _⟩ := hW
  have hA : DataW.TrodAll enc Try.prog W 0 (fun _ => true) true Try.f4.params.toList args.toList ds p := hA0
  clear hA0 hval0
  rw [Try.params4] at hA hval
  have HA := hA
  obtain ⟨v0, r0, d0, s0, p0, q0, e0, rfl, rfl, h0, t0⟩ := trodAll_cons hA
  obtain ⟨v1, r1, d1, s1, p1, q1, rfl, rfl, rfl, h1, t1⟩ := trodAll_cons t0
  obtain ⟨v2, r2, d2, s2, p2, q2, rfl, rfl, rfl, h2, t2⟩ := trodAll_cons t1
  obtain ⟨rfl, rfl, rfl⟩ := trodAll_nil t2
  obtain rfl : args = #[v0, v1, v2] := by cases args; simp_all
  obtain ⟨rfl, rfl⟩ := trodVars_none hV
  obtain ⟨c, m, rfl, hc⟩ := open_con (hval 0 27 v0 rfl rfl) h0
  obtain ⟨AL, L, kL, rfl, hL⟩ := open_pats (hval 1 28 v1 rfl rfl) h1
  obtain ⟨AR, R, kR, rfl, hR⟩ := open_pats (hval 2 28 v2 rfl rfl) h2
  simp only [List.append_nil] at hW' HA
  refine (symmetric_any c m L R AL AR kL kR W hc hL hR).mono fun e W' ⟨he, hnx⟩ => ?_
  subst he
  have hargs := below_all hnx (by kernel_rfl) HA (fun x hx => hW'.lt x (by simpa using hx))
  exact ⟨_, rfl, _, _, _, [], _, [], hW', trodAll_mk1 (shut_bool (by kernel_rfl) true), hargs, rfl, hnx.frame _, fun h => by cases h⟩
theorem symmetric_holds : Rows.MergeSymmetricSaid :=
  OpenClaim.holds_of_wide 4 Try.f4 rfl rfl rfl rfl rfl rfl rfl ⟨rfl, rfl, rfl, rfl, rfl⟩ rfl rfl rfl rfl rfl (by kernel_rfl) Try.func4 (by kernel_rfl)
    (of_decide_eq_true (by kernel_rfl)) (by unfold Func.isWrapper; first | (rw [if_pos (by decide +kernel)]; kernel_rfl) | (rw [if_neg (by decide +kernel)]; exact ⟨rfl, rfl⟩))
    (fun os started H enc _ => symmetric_lifted os started H enc)
#print axioms symmetric_holds
end Go.Proofs.Ytcplneglfbdooaa
