/- The walk of cascade.Owed at a valid portfolio. -/
import Derived.Test.YteoicnhnpailiaaCb4
import Derived.Test.YteoicnhnpailiaaCb6
import Derived.Laws.CopyOwn
namespace Go.Proofs.Yteoicnhnpailiaa
open Go.RowKit Go.Sort

theorem vp_fp {p : Pf} (h : VP p) : Fp p := by
  have h1 := h.n1
  have h2 := h.n12
  have h3 := h.len
  refine ⟨by omega, fun a ha => ?_, fun d hd => ?_, fun d hd => ?_, by omega, h.ldu, h.lla, h.lgu, h.ltr⟩
  · have := vld_of (h.as a ha).1
    omega
  · obtain ⟨⟨a1, a2, a3, a4, _⟩, hv, _⟩ := okD_of (h.du d hd)
    have := vld_of hv
    exact ⟨by omega, by omega, by omega, by omega⟩
  · obtain ⟨⟨a1, a2, a3, a4, _⟩, hv, _⟩ := okD_of (h.la d hd)
    have := vld_of hv
    exact ⟨by omega, by omega, by omega, by omega⟩
theorem cvalid_yes {p : Pf} (m : Ms) (w : World) (hv : VP p) (hm : Pm w p m) : Calls Try.prog 14 #[.agg (pfA p m)] w fun e w' => e = .returned (.bool true) ∧ Below w.heap.size w w' := by
  have := cvalid_any p m w (vp_fp hv) hm
  rwa [vldP_mk hv] at this
theorem splice_pad {d : List Bool} (h : d.length ≤ 12) : (splice (List.replicate 12 (Value.bool false)) 0 (d.map Value.bool)).toArray = setA (pad d) := by
  unfold splice setA pad
  congr 1
  simp only [List.take_zero, List.nil_append, List.length_map, Nat.zero_add, List.drop_replicate, List.map_map]
  refine List.ext_getElem (by simp; omega) fun i h1 h2 => ?_
  simp only [List.length_map, List.length_range] at h2
  simp only [List.getElem_map, List.getElem_range, Function.comp, List.getD_eq_getElem?_getD]
  by_cases hi : i < d.length
  · rw [List.getElem_append_left (by simpa using hi)]
    simp [hi]
  · rw [List.getElem_append_right (by simpa using hi), List.getElem?_eq_none (by omega)]
    simp
set_option maxRecDepth 100000 in
set_option maxHeartbeats 3200000 in
theorem Owed_any (p : Pf) (m : Ms) (i : Int) (d : List Bool) (A : Option Addr) (c : Nat) (w : World) (hv : VP p) (hm : Pm w p m) (hi : 0 ≤ i ∧ i < p.n) (hd : (d.length : Int) = p.n) (hs : Seg w w.heap.size 1 encB A d) :
    Calls Try.prog 17 #[.agg (pfA p m), .int .i64 i, .slice A d.length c] w fun e w' => e = OwE (ow p (pad d) i) ∧ Below w.heap.size w w' := by
  have HV := Lib.hid hv
  have HM := Lib.hid hm
  have HS := Lib.hid hs
  have HI := Lib.hid hi
  have n1 := hv.n1
  have n12 := hv.n12
  have hdl : d.length ≤ 12 := by omega
  have hd0 : 0 < d.length := by omega
  have HD := Lib.hid hd
  clear hv hm hs hi
  obtain ⟨z0, z1, z2, z3, z4, z5, z6, z7, z8, z9, z10, z11, hz⟩ := ex12 (pad_len d)
  have HZ := Lib.hid hz
  clear hz
  have HSP := Lib.hid (splice_pad hdl)
  go_enter Try.func17, Try.ntmps17
  go_upto_region 1 with (fail)
  refine name_wp ?_
  intro X hX
  have gP0 : Blk X w.heap.size 27 (pfA p m) := by rw [hX]; exact (Blk.new _ _ _).alloc _
  have gR0 : Blk X (w.heap.size + 1) 44 #[.int .i64 0, .int .i64 0] := by rw [hX, ← size_alloc w (.cells (pfA p m) 27)]; exact Blk.new _ _ _
  have hbX : Below w.heap.size w X := by rw [hX]; exact below_alloc (below_alloc (Below.refl _ _) _) _
  obtain ⟨bR, e1⟩ : ∃ b, w.heap.size + 1 = b := ⟨_, rfl⟩
  obtain ⟨bP, e0⟩ : ∃ b, w.heap.size = b := ⟨_, rfl⟩
  rw [e1] at gR0 ⊢
  rw [e0] at gP0 ⊢
  have nr : w.heap.size ≤ bR := by omega
  have GP := Lib.hid gP0
  have GR := Lib.hid gR0
  have HX := Lib.hid hbX
  obtain ⟨k0, k1, k2, k3, k4, k5⟩ := pfCells gP0
  have HCV := Lib.hid (cvalid_yes m X HV.out (HM.out.then_ hbX))
  clear hX gP0 gR0 hbX e0 e1
  go_upto_region 3 with (first | (go_at_call 14; with_reducible refine HCV.out.mono ?_; rintro e w1 ⟨rfl, hk⟩; have k0' := pfCells (GP.out.then_ hk); obtain ⟨k0, k1, k2, k3, k4, k5⟩ := k0'; have lP1 := (GP.out.then_ hk).lt; have hy := Lib.hid hk; clear hk) | (go_at_call 34; with_reducible refine (party_yes p m _ _ HI.out).mono ?_; rintro e w2 ⟨rfl, hk⟩; have k0' := pfCells (GP.out.then_ (below_then hy.out hk)); obtain ⟨k0, k1, k2, k3, k4, k5⟩ := k0'; have lP2 := (GP.out.then_ (below_then hy.out hk)).lt; replace hy := Lib.hid (below_then hy.out hk); clear hk))
  have GP2 := Lib.hid (GP.out.then_ hy.out)
  have GR2 := Lib.hid (GR.out.then_ hy.out)
  have HB2 := Lib.hid (below_then HX.out hy.out)
  clear hy k0 k1 k2 k3 k4 k5 GP GR HX HCV
  go_upto_region 4 with (fail)
  refine name_wp ?_
  intro V hV
  obtain ⟨bM, e2⟩ : ∃ b, w2.heap.size = b := ⟨_, rfl⟩
  have gM : V.heap[bM]? = some (.cells (List.replicate 12 (Value.bool false)).toArray 66 (0, 0)) := by rw [hV, ← e2]; exact heap_alloc_new _ _
  have HBV := Lib.hid (show Below w.heap.size w V by rw [hV]; exact below_alloc HB2.out _)
  have hV2 : Below w2.heap.size w2 V := by rw [hV]; exact wa1 _ _
  have GPV := Lib.hid (GP2.out.then_ hV2)
  have GRV := Lib.hid (GR2.out.then_ hV2)
  have lM : bM < V.heap.size := by rw [hV, ← e2]; simp
  have nM : w.heap.size ≤ bM := by rw [← e2]; exact HB2.out.size
  have HN := Lib.hid (show bP < bM ∧ bR < bM from ⟨by rw [← e2]; exact GP2.out.lt, by rw [← e2]; exact GR2.out.lt⟩)
  rw [e2]
  have GM := Lib.hid gM
  clear hV hV2 gM e2 GP2 GR2 HB2
  have hsrc : ∃ ad, A = some ad ∧ ∀ j v, (d.map Value.bool)[j]? = some v → V.cell? (ad.add j) = some v := by
    obtain ⟨x, hx⟩ : ∃ x, d[0]? = some x := ⟨_, List.getElem?_eq_getElem hd0⟩
    obtain ⟨b, off, rfl, _, _⟩ := segB HS.out hx
    refine ⟨_, rfl, fun j v hv => ?_⟩
    rw [List.getElem?_map] at hv
    cases hj : d[j]? with
    | none => rw [hj] at hv; cases hv
    | some y =>
      rw [hj] at hv
      cases hv
      obtain ⟨b', off', e, hb', hc⟩ := segB HS.out hj
      cases e
      have := (HBV.out.cell (p := ⟨b, off + j, none⟩) hb').trans hc
      unfold Addr.add
      split
      · rename_i h0; subst h0; simpa using this
      · exact this
  have HSR := Lib.hid hsrc
  have h1c : ∀ v ∈ d.map Value.bool, v.oneCell' = true := by
    intro v hv
    simp at hv
    rcases hv with ⟨_, rfl⟩ | ⟨_, rfl⟩ <;> rfl
  have H1 := Lib.hid h1c
  clear hsrc h1c
  have HMN := Lib.hid (show (d.map Value.bool).length = Nat.min d.length 12 by rw [List.length_map]; exact (Nat.min_eq_left hdl).symm)
  have hfit := Lib.hid (show 0 + (d.map Value.bool).length ≤ (List.replicate 12 (Value.bool false)).length by simp; omega)
  go_upto_region 5 with ((refine wpList_copy_splice rfl (.tmp 26) (.tmp 27) _ _ rfl 4 Try.underlying30 (by kernel_rfl) _ _ _ _ _ _ rfl rfl bM 0 (List.replicate 12 (.bool false)) 66 GM.out (d.map .bool) HMN.out (fun _ => ⟨rfl, HSR.out⟩) hfit.out H1.out bM V (Below.refl _ _) (Nat.le_refl _) ?_); intro w4 hw4 hb4)
  have hgm : Blk w4 bM 66 (setA [z0, z1, z2, z3, z4, z5, z6, z7, z8, z9, z10, z11]) := by
    have h := hw4.out
    rw [HSP.out, HZ.out] at h
    exact h
  have HGM := Lib.hid hgm
  have HB4 := Lib.hid hb4
  clear hw4 hb4 GM HSR H1
  have gp4 := GPV.out.below HB4.out HN.out.1
  have gr4 := GRV.out.below HB4.out HN.out.2
  obtain ⟨k0, k1, k2, k3, k4, k5⟩ := pfCells gp4
  obtain ⟨qz0, qz1, qz2, qz3, qz4, qz5, qz6, qz7, qz8, qz9, qz10, qz11⟩ := cells12 hgm
  obtain ⟨r0, r1, fr0, fr1⟩ := gr4.two
  have lR4 := gr4.lt
  have GR4 := Lib.hid gr4
  have HB5 := Lib.hid (HBV.out.trans (HB4.out.mono nM))
  obtain ⟨o, ho⟩ : ∃ o, ow p (pad d) i = o := ⟨_, rfl⟩
  have HO : Hid (Calls Try.prog 35 #[.agg (pfA p m), .int .i64 i, .agg #[.bool z0, .bool z1, .bool z2, .bool z3, .bool z4, .bool z5, .bool z6, .bool z7, .bool z8, .bool z9, .bool z10, .bool z11]] w4 fun e w' => e = .returned (.tuple #[.agg #[.int .i64 (stN o), .int .i64 (stD o)], .int .i64 (stE o)]) ∧ Below w4.heap.size w4 w') := by
    have := owed_any p m [z0, z1, z2, z3, z4, z5, z6, z7, z8, z9, z10, z11] i w4 HV.out (HM.out.then_ HB5.out) rfl
    rw [show ow p [z0, z1, z2, z3, z4, z5, z6, z7, z8, z9, z10, z11] i = o by rw [← HZ.out]; exact ho] at this
    exact this
  have HOO := Lib.hid ho
  clear gp4 gr4 hgm ho
  go_wp2_with (go_at_call 35; with_reducible refine HO.out.mono ?_; rintro e w5 ⟨rfl, hk⟩; obtain ⟨s0, s1, fs0, fs1⟩ := (GR4.out.then_ hk).two; have lR5 := (GR4.out.then_ hk).lt)
  refine bodyPost_ret (ret_rat rfl rfl ((GR4.out.then_ hk).setT0.setT1)) rfl ⟨?_, ?_⟩
  · rw [HOO.out]; rfl
  · exact (((HB5.out.trans (hk.mono HB5.out.size)).setCell nr _).setCell nr _)
end Go.Proofs.Yteoicnhnpailiaa
