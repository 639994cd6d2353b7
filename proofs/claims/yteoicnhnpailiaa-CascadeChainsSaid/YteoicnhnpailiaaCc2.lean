/- The walk of cascade.Defaults. -/
import Derived.Test.YteoicnhnpailiaaCc1
import Derived.Test.YteoicnhnpailiaaCb9
namespace Go.Proofs.Yteoicnhnpailiaa
open Go.RowKit Go.Sort Go.Maps

/-- what Defaults gives -/
def DfP (p : Pf) (w w' : World) (e : Ending) : Prop :=
  (vldP p = false ∧ e = .returned (.tuple #[.slice none 0 0, .int .i64 1])) ∨ (vldP p = true ∧ ∃ K, SpNo p K ∧ e = .returned (.tuple #[.slice none 0 0, .int .i64 2])) ∨
  (vldP p = true ∧ ∃ K v, SpOk p K ∧ e = .returned (.tuple #[v, .int .i64 0]) ∧ GotB w.heap.size w' (outD p K) v)
theorem spread_ok (p : Pf) (m : Ms) (w : World) (hv : VP p) (hm : Pm w p m) {K : Nat} (hK : SpOk p K) :
    Calls Try.prog 30 #[.agg (pfA p m)] w fun e w' => (∃ bM cnt D, e = .returned (.tuple #[.agg (setA (Dk p K)), .map (some bM), .int .i64 0]) ∧ mapO w' bM cnt D ∧ MapIs p K 0 D ∧ w.heap.size ≤ bM) ∧ Below w.heap.size w w' := by
  refine (spread_any p m w hv hm).mono ?_
  rintro e w' ⟨⟨K', h, _⟩ | ⟨K', bM, cnt, D, h, he, h1, h2, h3⟩, hb⟩
  · exact (hK.no h).elim
  · obtain rfl := h.uniq hK
    exact ⟨⟨bM, cnt, D, he, h1, h2, h3⟩, hb⟩
theorem spread_no (p : Pf) (m : Ms) (w : World) (hv : VP p) (hm : Pm w p m) (hK : ¬ ∃ K, SpOk p K) :
    Calls Try.prog 30 #[.agg (pfA p m)] w fun e w' => (∃ K, SpNo p K ∧ e = .returned (.tuple #[.agg #[.bool false, .bool false, .bool false, .bool false, .bool false, .bool false, .bool false, .bool false, .bool false, .bool false, .bool false, .bool false], .map none, .int .i64 2])) ∧ Below w.heap.size w w' := by
  refine (spread_any p m w hv hm).mono ?_
  rintro e w' ⟨⟨K', h, he⟩ | ⟨K', bM, cnt, D, h, _⟩, hb⟩
  · exact ⟨⟨K', h, he⟩, hb⟩
  · exact (hK ⟨K', h⟩).elim
theorem sl_any (b : Nat) (n : Int) (h1 : 1 ≤ n) (h2 : n ≤ 12) (W : World) : (Instr.sliceAt 66 (.pointer (some ⟨b, 0, none⟩)) none (some (.int .i64 n)) none).run Try.prog W = .ok (.slice (some ⟨b, 0, none⟩) n.toNat 12) W := by
  rcases (show n = 1 ∨ n = 2 ∨ n = 3 ∨ n = 4 ∨ n = 5 ∨ n = 6 ∨ n = 7 ∨ n = 8 ∨ n = 9 ∨ n = 10 ∨ n = 11 ∨ n = 12 by omega) with rfl | rfl | rfl | rfl | rfl | rfl | rfl | rfl | rfl | rfl | rfl | rfl <;> kernel_rfl
set_option maxRecDepth 100000 in
set_option maxHeartbeats 3200000 in
theorem defaults_any (p : Pf) (m : Ms) (w : World) (hf : Fp p) (hm : Pm w p m) :
    Calls Try.prog 13 #[.agg (pfA p m)] w fun e w' => DfP p w w' e ∧ Below w.heap.size w w' := by
  have HF := Lib.hid hf
  have HM := Lib.hid hm
  clear hf hm
  go_enter Try.func13, Try.ntmps13
  go_upto_region 1 with (fail)
  refine name_wp ?_
  intro X hX
  have gP : Blk X w.heap.size 27 (pfA p m) := by rw [hX]; exact Blk.new _ _ _
  have hbX : Below w.heap.size w X := by rw [hX]; exact wa1 _ _
  obtain ⟨bP, e0⟩ : ∃ b, w.heap.size = b := ⟨_, rfl⟩
  rw [e0] at gP ⊢
  have HCV := Lib.hid (cvalid_any p m X HF.out (HM.out.then_ hbX))
  have GP := Lib.hid gP
  have HX := Lib.hid hbX
  obtain ⟨k0, k1, k2, k3, k4, k5⟩ := pfCells gP
  clear hX gP hbX e0
  rcases hbb (vldP p) with hv | hv
  · rw [hv] at HCV
    have HV := Lib.hid (vldP_of hv)
    have HVV := Lib.hid hv
    have n1 := HV.out.n1
    have n12 := HV.out.n12
    clear hv
    go_upto_region 3 with (go_at_call 14; with_reducible refine HCV.out.mono ?_; rintro e w1 ⟨rfl, hk⟩)
    have GP1 := Lib.hid (GP.out.then_ hk)
    have HB1 := Lib.hid (below_then HX.out hk)
    clear k0 k1 k2 k3 k4 k5 hk HCV
    obtain ⟨k0, k1, k2, k3, k4, k5⟩ := pfCells GP1.out
    have lP1 := GP1.out.lt
    have hld : (p.n.toNat : Int) = p.n := by omega
    rcases Classical.em (∃ K, SpOk p K) with ⟨K, hK⟩ | hK
    · obtain ⟨z0, z1, z2, z3, z4, z5, z6, z7, z8, z9, z10, z11, hz⟩ := ex12 (Dk_len p K)
      have HZ := Lib.hid hz
      have HSP : Hid (Calls Try.prog 30 #[.agg (pfA p m)] w1 fun e w' => (∃ bM cnt D, e = .returned (.tuple #[.agg #[.bool z0, .bool z1, .bool z2, .bool z3, .bool z4, .bool z5, .bool z6, .bool z7, .bool z8, .bool z9, .bool z10, .bool z11], .map (some bM), .int .i64 0]) ∧ mapO w' bM cnt D ∧ MapIs p K 0 D ∧ w1.heap.size ≤ bM) ∧ Below w1.heap.size w1 w') := by
        have := spread_ok p m w1 HV.out (HM.out.then_ HB1.out) hK
        rw [hz] at this
        exact this
      have HKK := Lib.hid hK
      clear hz hK
      go_upto_region 6 with (go_at_call 30; with_reducible refine HSP.out.mono ?_; rintro e w2 ⟨⟨bM, cnt, D, rfl, _, _, _⟩, hk⟩)
      refine name_wp ?_
      intro Y hY
      obtain ⟨bD, e1⟩ : ∃ b, w2.heap.size = b := ⟨_, rfl⟩
      have gD : Blk Y bD 66 (setA [z0, z1, z2, z3, z4, z5, z6, z7, z8, z9, z10, z11]) := by rw [hY, ← e1]; exact Blk.new _ _ _
      have hbY : Below w.heap.size w Y := by rw [hY]; exact below_alloc (below_then HB1.out hk) _
      have gPY : Blk Y bP 27 (pfA p m) := by rw [hY]; exact (GP1.out.then_ hk).alloc _
      rw [e1]
      clear k0 k1 k2 k3 k4 k5 hY e1 hk
      obtain ⟨k0, k1, k2, k3, k4, k5⟩ := pfCells gPY
      have hseg : Seg Y Y.heap.size 1 encB (some ⟨bD, 0, none⟩) (outD p K) := by
        intro q x hx
        refine ⟨bD, 0, rfl, gD.lt, fun jj u hu => ?_⟩
        have hj : jj = 0 := by
          have := (List.getElem?_eq_some_iff.1 hu).1
          simp [encB] at this; omega
        subst hj
        simp [encB] at hu
        subst hu
        rw [gD.cell, ← HZ.out]
        have hq := (List.getElem?_eq_some_iff.1 hx).1
        have hx2 : (Dk p K)[q]? = some x := by
          unfold outD at hx hq
          rw [List.getElem?_take] at hx
          split at hx
          · exact hx
          · cases hx
        simp [setA, hx2]
      have hol : (outD p K).length = p.n.toNat := by have := outD_len HV.out K; omega
      have HCL : Hid (Calls Try.prog 31 #[.slice (some ⟨bD, 0, none⟩) p.n.toNat 12] Y fun e w' => (∃ v, e = .returned v ∧ GotB Y.heap.size w' (outD p K) v) ∧ Below Y.heap.size Y w') := by
        have := clone_any ⟨bD, 0, none⟩ 12 (outD p K) Y (by omega) hseg
        rw [hol] at this
        exact this
      have HBY := Lib.hid hbY
      have hsl := fun W => sl_any bD p.n n1 n12 W
      clear gD gPY hseg hol hbY
      go_wp2_with (go_at_call 31; with_reducible refine HCL.out.mono ?_; rintro e w3 ⟨⟨v, rfl, hg⟩, hk⟩)
      go_ret2
      exact ⟨.inr (.inr ⟨HVV.out, K, v, HKK.out, rfl, hg.more HBY.out.size⟩), below_then HBY.out hk⟩
    · have HSP := Lib.hid (spread_no p m w1 HV.out (HM.out.then_ HB1.out) hK)
      clear hK
      go_wp2_with (go_at_call 30; with_reducible refine HSP.out.mono ?_; rintro e w2 ⟨⟨K, hno, rfl⟩, hk⟩)
      go_ret2
      exact ⟨.inr (.inl ⟨HVV.out, K, hno, rfl⟩), below_alloc (below_then HB1.out hk) _⟩
  · rw [hv] at HCV
    have HVV := Lib.hid hv
    clear hv
    go_wp2_with (go_at_call 14; with_reducible refine HCV.out.mono ?_; rintro e w1 ⟨rfl, hk⟩)
    go_ret2
    exact ⟨.inl ⟨HVV.out, rfl⟩, below_then HX.out hk⟩
end Go.Proofs.Yteoicnhnpailiaa
