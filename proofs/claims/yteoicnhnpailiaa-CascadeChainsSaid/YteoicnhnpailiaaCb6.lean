/- The walk of cascade.Valid. -/
import Derived.Test.YteoicnhnpailiaaCb5
namespace Go.Proofs.Yteoicnhnpailiaa
open Go.RowKit Go.Sort

/-- the numbers of a portfolio fit, its lists are short -/
structure Fp (p : Pf) : Prop where
  n : -9223372036854775808 ≤ p.n ∧ p.n ≤ 9223372036854775807
  fas : ∀ a ∈ p.as, (-9223372036854775808 ≤ a.1 ∧ a.1 ≤ 9223372036854775807) ∧ (-9223372036854775808 ≤ a.2 ∧ a.2 ≤ 9223372036854775807)
  du : ∀ d ∈ p.du, fitD d
  la : ∀ d ∈ p.la, fitD d
  las : p.as.length ≤ 400
  ldu : p.du.length ≤ 400
  lla : p.la.length ≤ 400
  lgu : p.gu.length ≤ 400
  ltr : p.tr.length ≤ 400
theorem v_n {p : Pf} (h : ¬ (1 ≤ p.n ∧ p.n ≤ 12 ∧ (p.as.length : Int) = p.n)) : vldP p = false := by simp only [vldP, h, decide_false, Bool.false_and]
theorem v_as {p : Pf} (h : p.as.all okA = false) : vldP p = false := by simp [vldP, h]
theorem v_du {p : Pf} (h : p.du.all (okD p.n) = false) : vldP p = false := by simp [vldP, h]
theorem v_la {p : Pf} (h : p.la.all (okD p.n) = false) : vldP p = false := by simp [vldP, h]
theorem v_gu {p : Pf} (h : p.gu.all (okG p.n) = false) : vldP p = false := by simp [vldP, h]
theorem v_tr {p : Pf} (h : p.tr.all (okT p.n) = false) : vldP p = false := by simp [vldP, h]
theorem v_ok {p : Pf} (h0 : 1 ≤ p.n ∧ p.n ≤ 12 ∧ (p.as.length : Int) = p.n) (hf : Fp p) (h1 : p.as.all okA = true) (h2 : p.du.all (okD p.n) = true) (h3 : p.la.all (okD p.n) = true) (h4 : p.gu.all (okG p.n) = true) (h5 : p.tr.all (okT p.n) = true) : vldP p = true := by
  unfold vldP
  rw [decide_eq_true h0, decide_eq_true ⟨hf.ldu, hf.lla, hf.lgu, hf.ltr⟩, h1, h2, h3, h4, h5]; rfl
theorem okA_cases {a : Int × Int} (h : okA a = false) : vld a.1 a.2 = false ∨ (vld a.1 a.2 = true ∧ a.1 < 0) := by
  cases hv : vld a.1 a.2 with
  | false => exact .inl rfl
  | true => right; simp [okA, hv] at h; exact ⟨rfl, h⟩
theorem okA_of {a : Int × Int} (h : okA a = true) : vld a.1 a.2 = true ∧ 0 ≤ a.1 := by simpa [okA] using h
theorem okG_of {n : Int} {g : Gu} (h : okG n g = true) : (0 ≤ g.x ∧ g.x < n) ∧ (0 ≤ g.b ∧ g.b < n) ∧ (0 ≤ g.t ∧ g.t < n) ∧ (g.b == g.x) = false ∧ (g.b == g.t) = false ∧ (g.x == g.t) = false := by simpa [okG] using h
theorem okG_cases {n : Int} {g : Gu} (h : okG n g = false) : ¬ (0 ≤ g.x ∧ g.x < n) ∨ ((0 ≤ g.x ∧ g.x < n) ∧ ¬ (0 ≤ g.b ∧ g.b < n)) ∨ ((0 ≤ g.x ∧ g.x < n) ∧ (0 ≤ g.b ∧ g.b < n) ∧ ¬ (0 ≤ g.t ∧ g.t < n)) ∨
    ((0 ≤ g.x ∧ g.x < n) ∧ (0 ≤ g.b ∧ g.b < n) ∧ (0 ≤ g.t ∧ g.t < n) ∧ (g.b == g.x) = true) ∨ ((0 ≤ g.x ∧ g.x < n) ∧ (0 ≤ g.b ∧ g.b < n) ∧ (0 ≤ g.t ∧ g.t < n) ∧ (g.b == g.x) = false ∧ (g.b == g.t) = true) ∨
    ((0 ≤ g.x ∧ g.x < n) ∧ (0 ≤ g.b ∧ g.b < n) ∧ (0 ≤ g.t ∧ g.t < n) ∧ (g.b == g.x) = false ∧ (g.b == g.t) = false ∧ (g.x == g.t) = true) := by
  simp only [okG, decide_eq_false_iff_not] at h
  simp only [beq_iff_eq, beq_eq_false_iff_ne, ne_eq]
  by_cases h1 : 0 ≤ g.x ∧ g.x < n
  · by_cases h2 : 0 ≤ g.b ∧ g.b < n
    · by_cases h3 : 0 ≤ g.t ∧ g.t < n
      · by_cases h4 : g.b = g.x
        · exact .inr (.inr (.inr (.inl ⟨h1, h2, h3, h4⟩)))
        · by_cases h5 : g.b = g.t
          · exact .inr (.inr (.inr (.inr (.inl ⟨h1, h2, h3, h4, h5⟩))))
          · exact .inr (.inr (.inr (.inr (.inr ⟨h1, h2, h3, h4, h5, by omega⟩))))
      · exact .inr (.inr (.inl ⟨h1, h2, h3⟩))
    · exact .inr (.inl ⟨h1, h2⟩)
  · exact .inl h1
theorem okT_of {n : Int} {t : Tr} (h : okT n t = true) : (0 ≤ t.p ∧ t.p < n) ∧ (0 ≤ t.d ∧ t.d < n) ∧ (t.p == t.d) = false := by simpa [okT] using h
theorem okT_cases {n : Int} {t : Tr} (h : okT n t = false) : ¬ (0 ≤ t.p ∧ t.p < n) ∨ ((0 ≤ t.p ∧ t.p < n) ∧ ¬ (0 ≤ t.d ∧ t.d < n)) ∨ ((0 ≤ t.p ∧ t.p < n) ∧ (0 ≤ t.d ∧ t.d < n) ∧ (t.p == t.d) = true) := by
  simp only [okT, decide_eq_false_iff_not] at h
  simp only [beq_iff_eq]
  by_cases h1 : 0 ≤ t.p ∧ t.p < n
  · by_cases h2 : 0 ≤ t.d ∧ t.d < n
    · exact .inr (.inr ⟨h1, h2, by omega⟩)
    · exact .inr (.inl ⟨h1, h2⟩)
  · exact .inl h1
set_option maxRecDepth 100000 in
set_option maxHeartbeats 3200000 in
theorem cvalid_any (p : Pf) (m : Ms) (w : World) (hf : Fp p) (hm : Pm w p m) :
    Calls Try.prog 14 #[.agg (pfA p m)] w fun e w' => e = .returned (.bool (vldP p)) ∧ Below w.heap.size w w' := by
  have HM := Lib.hid hm
  have HF := Lib.hid hf
  have f1 := hf.las
  have f2 := hf.ldu
  have f3 := hf.lla
  have f4 := hf.lgu
  have f5 := hf.ltr
  clear hf hm
  go_enter Try.func14, Try.ntmps14
  go_upto_region 1 with (fail)
  refine name_wp ?_
  intro X hX
  obtain ⟨bP, e0⟩ : ∃ b, w.heap.size = b := ⟨_, rfl⟩
  have gX : Blk X bP 27 (pfA p m) := by rw [hX, ← e0]; exact Blk.new _ _ _
  have hbX : Below w.heap.size w X := by rw [hX]; exact below_alloc (Below.refl _ _) _
  rw [e0]
  have HX := Lib.hid hbX
  have lP : bP < X.heap.size := gX.lt
  have GX := Lib.hid gX
  clear hX hbX e0
  obtain ⟨k0, k1, k2, k3, k4, k5⟩ := pfCells gX
  clear gX
  by_cases hn : 1 ≤ p.n ∧ p.n ≤ 12 ∧ (p.as.length : Int) = p.n
  · have HN := Lib.hid hn
    obtain ⟨n1, n2, n3⟩ := hn
    go_upto_region 8 with (fail)
    go_loopw [48] (fun i wr => ∃ k : Nat, k ≤ p.as.length ∧ i = .int .i64 k ∧ Hid ((p.as.take k).all okA = true) ∧ Below X.heap.size X wr) (fun i _ => p.as.length - (intOf i).toNat)
    case atStart => exact ⟨0, by omega, rfl, by simp [Hid], Below.refl _ _⟩
    case round =>
      obtain ⟨k, hk, rfl, hall, hB⟩ := hrel
      have HB := Lib.hid hB
      by_cases hlt : k < p.as.length
      · obtain ⟨x, hx⟩ : ∃ x, p.as[k]? = some x := ⟨_, List.getElem?_eq_getElem hlt⟩
        have hbw := below_then HX.out hB
        obtain ⟨b, off, ea, hb, c0, c1⟩ := segA (HM.out.s1.below hbw) hx
        obtain ⟨⟨q1, q2⟩, ⟨q3, q4⟩⟩ := HF.out.fas x (List.mem_of_getElem? hx)
        have hbl : b < wr.heap.size := Nat.lt_of_lt_of_le hb hbw.size
        have lPr : bP < wr.heap.size := Nat.lt_of_lt_of_le lP hB.size
        have hy := Lib.hid (Below.refl wr.heap.size wr)
        have HX2 := Lib.hid hx
        rw [ea]
        clear hx hbw ea hB k0 k1 k2 k3 k4 k5
        cases hok : okA x
        · have HO := Lib.hid (v_as (all_no HX2.out hok))
          have hc := okA_cases hok
          clear hok
          rcases hc with a1 | ⟨a1, a2⟩
          all_goals
            go_wp2_with (go_at_call 32; refine (valid_any _ _ _ (by omega) (by omega) (by omega) (by omega)).mono ?_; rintro e w1 ⟨rfl, hb⟩; obtain ⟨hc, hf⟩ := bcell hb; have hz := hb.size; (try simp at hz); (have zl0 : wr.heap.size < w1.heap.size := by omega); (have ze0 : wr.heap.size ≤ w1.heap.size := by omega); have zp : bP < w1.heap.size := (by omega); first | (replace hy := Lib.hid (below_then hy.out hb)) | (replace hy := Lib.hid (below_then (below_alloc hy.out _) hb)))
            go_ret
            exact ⟨ret_bool HO.out.symm, below_then HX.out (below_then HB.out hy.out)⟩
        · have HO := Lib.hid hok
          obtain ⟨a1, a2⟩ := okA_of hok
          clear hok
          go_wp2_with (go_at_call 32; refine (valid_any _ _ _ (by omega) (by omega) (by omega) (by omega)).mono ?_; rintro e w1 ⟨rfl, hb⟩; obtain ⟨hc, hf⟩ := bcell hb; have hz := hb.size; (try simp at hz); (have zl0 : wr.heap.size < w1.heap.size := by omega); (have ze0 : wr.heap.size ≤ w1.heap.size := by omega); have zp : bP < w1.heap.size := (by omega); first | (replace hy := Lib.hid (below_then hy.out hb)) | (replace hy := Lib.hid (below_then (below_alloc hy.out _) hb)))
          go_roundw
          case rel => exact ⟨k + 1, by omega, by go_num, take_allF HX2.out hall.out HO.out, below_then HB.out hy.out⟩
          case measure => simp [intOf]; omega
      · obtain rfl : k = p.as.length := by omega
        have HA : Hid (p.as.all okA = true) := by have := hall.out; rwa [List.take_length] at this
        have HBX := Lib.hid (below_then HX.out HB.out)
        have GR := Lib.hid (GX.out.then_ HB.out)
        have HD := Lib.hid (vdebts_any p m m.a2 m.c2 p.du wr (by omega) HF.out.du (HM.out.then_ HBX.out).s2)
        clear hall k0 k1 k2 k3 k4 k5
        obtain ⟨k0, k1, k2, k3, k4, k5⟩ := pfCells GR.out
        have lP2 := GR.out.lt
        rcases hbb (p.du.all (okD p.n)) with hd | hd
        · rw [hd] at HD
          have HDU := Lib.hid hd
          clear hd
          go_upto_region 13 with (fail)
          rcases hbb (p.la.all (okD p.n)) with hl | hl
          · have HLA := Lib.hid hl
            have HL : Hid (∀ W, Below wr.heap.size wr W → Calls Try.prog 33 #[.agg (pfA p m), .slice m.a3 p.la.length m.c3] W fun e w' => e = .returned (.bool true) ∧ Below W.heap.size W w') := fun W hW => by
              have := vdebts_any p m m.a3 m.c3 p.la W (by omega) HF.out.la (HM.out.then_ (below_then HBX.out hW)).s3
              rwa [HLA.out] at this
            clear hl
            have hs := Lib.hid (Below.refl wr.heap.size wr)
            go_upto_region 15 with (go_at_call 33; first | (with_reducible refine HD.out.mono ?_; rintro e w1 ⟨rfl, hb⟩; replace hs := Lib.hid (below_then hs.out hb); obtain ⟨k0, k1, k2, k3, k4, k5⟩ := (pfCells (GR.out.then_ hs.out)); have lP3 := (GR.out.then_ hs.out).lt; clear hb) | (with_reducible refine (HL.out _ hs.out).mono ?_; rintro e w2 ⟨rfl, hb⟩; replace hs := Lib.hid (below_then hs.out hb); clear hb))
            have HBY := Lib.hid (below_then HBX.out hs.out)
            have GY := Lib.hid (GR.out.then_ hs.out)
            clear hs HL HD k0 k1 k2 k3 k4 k5 GR
            obtain ⟨k0, k1, k2, k3, k4, k5⟩ := pfCells GY.out
            have lPY := GY.out.lt
            go_upto_region 16 with (fail)
            go_loopw [76] (fun i WQ => ∃ k : Nat, k ≤ p.gu.length ∧ i = .int .i64 k ∧ Hid ((p.gu.take k).all (okG p.n) = true) ∧ Below w2.heap.size w2 WQ) (fun i _ => p.gu.length - (intOf i).toNat)
            case atStart => exact ⟨0, by omega, rfl, by simp [Hid], Below.refl _ _⟩
            case round =>
              obtain ⟨k, hk, rfl, hall, hB⟩ := hrel
              have HB2 := Lib.hid hB
              have hbw := below_then HBY.out hB
              have lPr : bP < wr.heap.size := Nat.lt_of_lt_of_le lPY hB.size
              by_cases hlt : k < p.gu.length
              · obtain ⟨x, hx⟩ : ∃ x, p.gu[k]? = some x := ⟨_, List.getElem?_eq_getElem hlt⟩
                obtain ⟨b, off, ea, hb, c0, c1, c2⟩ := segG (HM.out.s4.below hbw) hx
                have hbl : b < wr.heap.size := Nat.lt_of_lt_of_le hb hbw.size
                have hy := Lib.hid (Below.refl wr.heap.size wr)
                have HX2 := Lib.hid hx
                rw [ea]
                clear k0 k1 k2 k3 k4 k5
                obtain ⟨k0, k1, k2, k3, k4, k5⟩ := pfCells (GY.out.then_ hB)
                clear hx hbw ea hB
                cases hok : okG p.n x
                · have HO := Lib.hid (v_gu (all_no HX2.out hok))
                  have hc := okG_cases hok
                  clear hok
                  rcases hc with a1 | ⟨a1, a2⟩ | ⟨a1, a2, a3⟩ | ⟨a1, a2, a3, a4⟩ | ⟨a1, a2, a3, a4, a5⟩ | ⟨a1, a2, a3, a4, a5, a6⟩
                  all_goals
                    go_wp2_with (go_at_call 34; first | (with_reducible refine (party_yes p m _ _ (by omega)).mono ?_; rintro e w1 ⟨rfl, hb⟩; obtain ⟨hc, hf⟩ := bcell hb; have hz := hb.size; (try simp at hz); (have zl0 : wr.heap.size < w1.heap.size := by omega); (have ze0 : wr.heap.size ≤ w1.heap.size := by omega); have zp : bP < w1.heap.size := (by omega); first | (replace hy := Lib.hid (below_then hy.out hb)) | (replace hy := Lib.hid (below_then (below_alloc hy.out _) hb))) | (with_reducible refine (party_no p m _ _ (by omega)).mono ?_; rintro e w1 ⟨rfl, hb⟩; obtain ⟨hc, hf⟩ := bcell hb; have hz := hb.size; (try simp at hz); (have zl0 : wr.heap.size < w1.heap.size := by omega); (have ze0 : wr.heap.size ≤ w1.heap.size := by omega); have zp : bP < w1.heap.size := (by omega); first | (replace hy := Lib.hid (below_then hy.out hb)) | (replace hy := Lib.hid (below_then (below_alloc hy.out _) hb))))
                    go_ret
                    exact ⟨ret_bool HO.out.symm, below_then HBY.out (below_then HB2.out hy.out)⟩
                · have HO := Lib.hid hok
                  obtain ⟨a1, a2, a3, a4, a5, a6⟩ := okG_of hok
                  clear hok
                  go_wp2_with (go_at_call 34; first | (with_reducible refine (party_yes p m _ _ (by omega)).mono ?_; rintro e w1 ⟨rfl, hb⟩; obtain ⟨hc, hf⟩ := bcell hb; have hz := hb.size; (try simp at hz); (have zl0 : wr.heap.size < w1.heap.size := by omega); (have ze0 : wr.heap.size ≤ w1.heap.size := by omega); have zp : bP < w1.heap.size := (by omega); first | (replace hy := Lib.hid (below_then hy.out hb)) | (replace hy := Lib.hid (below_then (below_alloc hy.out _) hb))) | (with_reducible refine (party_no p m _ _ (by omega)).mono ?_; rintro e w1 ⟨rfl, hb⟩; obtain ⟨hc, hf⟩ := bcell hb; have hz := hb.size; (try simp at hz); (have zl0 : wr.heap.size < w1.heap.size := by omega); (have ze0 : wr.heap.size ≤ w1.heap.size := by omega); have zp : bP < w1.heap.size := (by omega); first | (replace hy := Lib.hid (below_then hy.out hb)) | (replace hy := Lib.hid (below_then (below_alloc hy.out _) hb))))
                  go_roundw
                  case rel => exact ⟨k + 1, by omega, by go_num, take_allF HX2.out hall.out HO.out, below_then HB2.out hy.out⟩
                  case measure => simp [intOf]; omega
              · obtain rfl : k = p.gu.length := by omega
                have HGU : Hid (p.gu.all (okG p.n) = true) := by have := hall.out; rwa [List.take_length] at this
                have HBZ := Lib.hid hbw
                have GZ := Lib.hid (GY.out.then_ hB)
                clear hall hbw hB k0 k1 k2 k3 k4 k5
                obtain ⟨k0, k1, k2, k3, k4, k5⟩ := pfCells GZ.out
                go_upto_region 24 with (fail)
                go_loopw [122] (fun i WZ => ∃ k : Nat, k ≤ p.tr.length ∧ i = .int .i64 k ∧ Hid ((p.tr.take k).all (okT p.n) = true) ∧ Below wr.heap.size wr WZ) (fun i _ => p.tr.length - (intOf i).toNat)
                case atStart => exact ⟨0, by omega, rfl, by simp [Hid], Below.refl _ _⟩
                case round =>
                  obtain ⟨k, hk, rfl, hall, hB⟩ := hrel
                  have HB3 := Lib.hid hB
                  have hbw := below_then HBZ.out hB
                  have lPz := Nat.lt_of_lt_of_le lPr hB.size
                  by_cases hlt : k < p.tr.length
                  · obtain ⟨x, hx⟩ : ∃ x, p.tr[k]? = some x := ⟨_, List.getElem?_eq_getElem hlt⟩
                    obtain ⟨b, off, ea, hb, c0, c1⟩ := segT (HM.out.s5.below hbw) hx
                    have hbl : b < wr.heap.size := Nat.lt_of_lt_of_le hb hbw.size
                    have hy := Lib.hid (Below.refl wr.heap.size wr)
                    have HX2 := Lib.hid hx
                    rw [ea]
                    clear k0 k1 k2 k3 k4 k5
                    obtain ⟨k0, k1, k2, k3, k4, k5⟩ := pfCells (GZ.out.then_ hB)
                    clear hx hbw ea hB
                    cases hok : okT p.n x
                    · have HO := Lib.hid (v_tr (all_no HX2.out hok))
                      have hc := okT_cases hok
                      clear hok
                      rcases hc with a1 | ⟨a1, a2⟩ | ⟨a1, a2, a3⟩
                      all_goals
                        go_wp2_with (go_at_call 34; first | (with_reducible refine (party_yes p m _ _ (by omega)).mono ?_; rintro e w1 ⟨rfl, hb⟩; obtain ⟨hc, hf⟩ := bcell hb; have hz := hb.size; (try simp at hz); (have zl0 : wr.heap.size < w1.heap.size := by omega); (have ze0 : wr.heap.size ≤ w1.heap.size := by omega); have zp : bP < w1.heap.size := (by omega); first | (replace hy := Lib.hid (below_then hy.out hb)) | (replace hy := Lib.hid (below_then (below_alloc hy.out _) hb))) | (with_reducible refine (party_no p m _ _ (by omega)).mono ?_; rintro e w1 ⟨rfl, hb⟩; obtain ⟨hc, hf⟩ := bcell hb; have hz := hb.size; (try simp at hz); (have zl0 : wr.heap.size < w1.heap.size := by omega); (have ze0 : wr.heap.size ≤ w1.heap.size := by omega); have zp : bP < w1.heap.size := (by omega); first | (replace hy := Lib.hid (below_then hy.out hb)) | (replace hy := Lib.hid (below_then (below_alloc hy.out _) hb))))
                        go_ret
                        exact ⟨ret_bool HO.out.symm, below_then HBZ.out (below_then HB3.out hy.out)⟩
                    · have HO := Lib.hid hok
                      obtain ⟨a1, a2, a3⟩ := okT_of hok
                      clear hok
                      go_wp2_with (go_at_call 34; first | (with_reducible refine (party_yes p m _ _ (by omega)).mono ?_; rintro e w1 ⟨rfl, hb⟩; obtain ⟨hc, hf⟩ := bcell hb; have hz := hb.size; (try simp at hz); (have zl0 : wr.heap.size < w1.heap.size := by omega); (have ze0 : wr.heap.size ≤ w1.heap.size := by omega); have zp : bP < w1.heap.size := (by omega); first | (replace hy := Lib.hid (below_then hy.out hb)) | (replace hy := Lib.hid (below_then (below_alloc hy.out _) hb))) | (with_reducible refine (party_no p m _ _ (by omega)).mono ?_; rintro e w1 ⟨rfl, hb⟩; obtain ⟨hc, hf⟩ := bcell hb; have hz := hb.size; (try simp at hz); (have zl0 : wr.heap.size < w1.heap.size := by omega); (have ze0 : wr.heap.size ≤ w1.heap.size := by omega); have zp : bP < w1.heap.size := (by omega); first | (replace hy := Lib.hid (below_then hy.out hb)) | (replace hy := Lib.hid (below_then (below_alloc hy.out _) hb))))
                      go_roundw
                      case rel => exact ⟨k + 1, by omega, by go_num, take_allF HX2.out hall.out HO.out, below_then HB3.out hy.out⟩
                      case measure => simp [intOf]; omega
                  · obtain rfl : k = p.tr.length := by omega
                    have HTR : Hid (p.tr.all (okT p.n) = true) := by have := hall.out; rwa [List.take_length] at this
                    go_wp2
                    go_ret
                    exact ⟨ret_bool (v_ok HN.out HF.out HA.out HDU.out HLA.out HGU.out HTR.out).symm, hbw⟩
          · have HO := Lib.hid (v_la hl)
            have HL : Hid (∀ W, Below wr.heap.size wr W → Calls Try.prog 33 #[.agg (pfA p m), .slice m.a3 p.la.length m.c3] W fun e w' => e = .returned (.bool false) ∧ Below W.heap.size W w') := fun W hW => by
              have := vdebts_any p m m.a3 m.c3 p.la W (by omega) HF.out.la (HM.out.then_ (below_then HBX.out hW)).s3
              rwa [hl] at this
            clear hl
            have hs := Lib.hid (Below.refl wr.heap.size wr)
            go_wp2_with (go_at_call 33; first | (with_reducible refine HD.out.mono ?_; rintro e w1 ⟨rfl, hb⟩; replace hs := Lib.hid (below_then hs.out hb); obtain ⟨k0, k1, k2, k3, k4, k5⟩ := (pfCells (GR.out.then_ hs.out)); have lP3 := (GR.out.then_ hs.out).lt; clear hb) | (with_reducible refine (HL.out _ hs.out).mono ?_; rintro e w2 ⟨rfl, hb⟩; replace hs := Lib.hid (below_then hs.out hb); clear hb))
            go_ret
            exact ⟨ret_bool HO.out.symm, below_then HBX.out hs.out⟩
        · rw [hd] at HD
          have HO := Lib.hid (v_du hd)
          clear hd
          go_wp2_with (go_at_call 33; with_reducible refine HD.out.mono ?_; rintro e w1 ⟨rfl, hb⟩)
          go_ret
          exact ⟨ret_bool HO.out.symm, below_then HBX.out hb⟩
  · have HO := Lib.hid (v_n hn)
    have hc : p.n < 1 ∨ (1 ≤ p.n ∧ 12 < p.n) ∨ (1 ≤ p.n ∧ p.n ≤ 12 ∧ ((p.as.length : Int) != p.n) = true) := by
      by_cases h1 : p.n < 1
      · exact .inl h1
      · by_cases h2 : 12 < p.n
        · exact .inr (.inl ⟨by omega, h2⟩)
        · exact .inr (.inr ⟨by omega, by omega, by simp; omega⟩)
    clear hn
    rcases hc with a1 | ⟨a1, a2⟩ | ⟨a1, a2, a3⟩
    all_goals
      go_wp2
      go_ret
      exact ⟨ret_bool HO.out.symm, HX.out⟩
end Go.Proofs.Yteoicnhnpailiaa
