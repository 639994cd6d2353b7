/- The walk of cascade.Why. -/
import Derived.Test.YteoicnhnpailiaaCd4
namespace Go.Proofs.Yteoicnhnpailiaa
open Go.RowKit Go.Sort Go.Maps

def WhP (p : Pf) (i : Int) (w w' : World) (e : Ending) : Prop :=
  ((vldP p = false ∨ okP p.n i = false) ∧ e = .returned (.tuple #[.slice none 0 0, .int .i64 1])) ∨
  (vldP p = true ∧ okP p.n i = true ∧ ((∃ K, SpNo p K ∧ e = .returned (.tuple #[.slice none 0 0, .int .i64 2])) ∨
    (∃ K, SpOk p K ∧ has (Dk p K) i = false ∧ e = .returned (.tuple #[.slice none 0 0, .int .i64 14])) ∨
    (∃ K k ch v, SpOk p K ∧ k < K ∧ Rk p i k ∧ Chn p k i ch ∧ e = .returned (.tuple #[v, .int .i64 0]) ∧ Own w' w.heap.size 3 1 encN v ch)))
theorem own_oneN (w : World) (i : Int) : Own (w.alloc (.cells #[.int .i64 i] 3)) w.heap.size 3 1 encN (.slice (some ⟨w.heap.size, 0, none⟩) 1 1) [i] :=
  ⟨by simp [encN], .inr ⟨w.heap.size, 1, #[.int .i64 i], rfl, Nat.le_refl _, heap_alloc_new _ _, by simp, by decide, by simp, by simp [encN]⟩⟩
set_option maxRecDepth 100000 in
set_option maxHeartbeats 6400000 in
theorem why_any (p : Pf) (m : Ms) (i : Int) (w : World) (hf : Fp p) (hm : Pm w p m) :
    Calls Try.prog 21 #[.agg (pfA p m), .int .i64 i] w fun e w' => WhP p i w w' e ∧ Below w.heap.size w w' := by
  have HF := Lib.hid hf
  have HM := Lib.hid hm
  clear hf hm
  go_enter Try.func21, Try.ntmps21
  go_upto_region 1 with (fail)
  refine name_wp ?_
  intro X hX
  have gP : Blk X w.heap.size 27 (pfA p m) := by rw [hX]; exact Blk.new _ _ _
  have hbX : Below w.heap.size w X := by rw [hX]; exact wa1 _ _
  obtain ⟨bP, e0⟩ : ∃ b, w.heap.size = b := ⟨_, rfl⟩
  rw [e0] at gP ⊢
  have HCV := Lib.hid (cvalid_any p m X HF.out (HM.out.then_ hbX))
  have HIP := Lib.hid (fun W => party_any p m i W)
  have GP := Lib.hid gP
  have HX := Lib.hid hbX
  have E0 := Lib.hid e0
  obtain ⟨k0, k1, k2, k3, k4, k5⟩ := pfCells gP
  clear hX gP hbX e0
  have lX := GP.out.lt
  have hz := Lib.hid (Below.refl X.heap.size X)
  rcases hbb (vldP p) with hv | hv
  · rw [hv] at HCV
    have HV := Lib.hid (vldP_of hv)
    have HVV := Lib.hid hv
    have n1 := HV.out.n1
    have n12 := HV.out.n12
    clear hv
    rcases hbb (okP p.n i) with hi | hi
    · rw [hi] at HIP
      have HI := Lib.hid hi
      clear hi
      go_upto_region 3 with (first | (go_at_call 14; with_reducible refine HCV.out.mono ?_; rintro e w1 ⟨rfl, hk⟩; replace hz := Lib.hid (below_then hz.out hk); have kk := (pfCells (GP.out.then_ hz.out)); clear k0 k1 k2 k3 k4 k5; obtain ⟨k0, k1, k2, k3, k4, k5⟩ := kk; have lw1 := (GP.out.then_ hz.out).lt; clear hk) | (go_at_call 34; with_reducible refine (HIP.out _).mono ?_; rintro e w2 ⟨rfl, hk⟩; replace hz := Lib.hid (below_then hz.out hk); clear hk))
      have GP2 := Lib.hid (GP.out.then_ hz.out)
      have HB2 := Lib.hid (below_then HX.out hz.out)
      clear k0 k1 k2 k3 k4 k5 hz HCV HIP GP HX lX lw1
      obtain ⟨k0, k1, k2, k3, k4, k5⟩ := pfCells GP2.out
      have lP2 := GP2.out.lt
      rcases Classical.em (∃ K, SpOk p K) with ⟨K, hK⟩ | hK
      · obtain ⟨z0, z1, z2, z3, z4, z5, z6, z7, z8, z9, z10, z11, hz⟩ := ex12 (Dk_len p K)
        have HZ := Lib.hid hz
        have HSP : Hid (Calls Try.prog 30 #[.agg (pfA p m)] w2 fun e w' => (∃ bM cnt D, e = .returned (.tuple #[.agg #[.bool z0, .bool z1, .bool z2, .bool z3, .bool z4, .bool z5, .bool z6, .bool z7, .bool z8, .bool z9, .bool z10, .bool z11], .map (some bM), .int .i64 0]) ∧ mapO w' bM cnt D ∧ MapIs p K 0 D ∧ w2.heap.size ≤ bM) ∧ Below w2.heap.size w2 w') := by
          have := spread_ok p m w2 HV.out (HM.out.then_ HB2.out) hK
          rw [hz] at this
          exact this
        have HKK := Lib.hid hK
        clear hz hK
        go_upto_region 6 with (go_at_call 30; with_reducible refine HSP.out.mono ?_; rintro e w3 ⟨⟨bM, cnt, D, rfl, hmo, hmi, hbm⟩, hk⟩)
        refine name_wp ?_
        intro Y hY
        have hbY : Below w.heap.size w Y := by rw [hY]; exact below_alloc (below_then HB2.out hk) _
        have gPY : Blk Y bP 27 (pfA p m) := by rw [hY]; exact (GP2.out.then_ hk).alloc _
        have gM : mapO Y bM cnt D := by rw [hY]; exact hmo.alloc _
        have HBY := Lib.hid hbY
        have GPY := Lib.hid gPY
        have GM := Lib.hid gM
        have HMI := Lib.hid hmi
        clear k0 k1 k2 k3 k4 k5 hY hk hmo hmi hbm HSP hbY gPY gM HB2 GP2 lP2
        have i01 : 0 ≤ i ∧ i < p.n := by simpa [okP] using HI.out
        obtain ⟨i0, i1⟩ := i01
        have HKEY := Lib.hid (keyOf_int_mk (P := Try.prog) (k := 3) (q := .i64) (a := i) Try.underlying3 (by simp [Lit.wf, IntKind.min, IntKind.max, IntKind.signed, IntKind.bits]; omega))
        have HOS : Hid (∀ j, j < K → okS p (Dk p j)) := HKK.out.1.ok
        rcases hbb (has (Dk p K) i) with hd | hd
        · obtain ⟨k, hkK, hrk⟩ := Rk.ex hd
          obtain ⟨hx, hat0⟩ := HMI.out.has_yes i0 i1 hkK hrk
          have HAT := Lib.hid hat0
          have HRK := Lib.hid hrk
          have HX2 := Lib.hid hx
          have hk12 : K ≤ 12 := by
            have h1 := Spr.cnt HV.out HKK.out.1
            have h2 := List.count_le_length (a := true) (l := Dk p K)
            rw [Dk_len] at h2
            omega
          clear hd hrk hat0 hx
          go_upto_region 10 with (at_lookup; (refine wpList_lookup_own_ok_int _ rfl _ _ 67 rfl 3 3 .i64 keyI Try.underlying67 Try.underlying3 (zeroI _) bM cnt D rfl GM.out _ _ rfl HKEY.out ?_); intro c hat hwc; rw [HX2.out]; (obtain rfl : c = (k : Int) + 1 := by (have := hat.symm.trans HAT.out); injection this with h1; injection h1 with _ h2); clear hat hwc)
          refine name_wp ?_
          intro V hV
          have hoV : Own V Y.heap.size 3 1 encN (.slice (some ⟨Y.heap.size, 0, none⟩) 1 1) [i] := by rw [hV]; exact own_oneN Y i
          have hbV : Below Y.heap.size Y V := by rw [hV]; exact wa1 _ _
          have HOV := Lib.hid hoV
          have HBV := Lib.hid hbV
          have hy0 : w.heap.size ≤ Y.heap.size := HBY.out.size
          have HEE : Hid (∀ (y : Int) (q : Nat), q + 1 < K → 0 ≤ y → y < p.n → Rk p y (q + 1) → ∃ j : Int, 0 ≤ j ∧ j < p.n ∧ Rk p j q ∧ bea p j y = true) := fun y q hq h0 h1 h => Rk.before HV.out HKK.out.1 hq h0 h1 h
          have HBE : Hid (∀ (x y : Int) (W : World), Below Y.heap.size Y W → Calls Try.prog 39 #[.agg (pfA p m), .int .i64 x, .int .i64 y] W fun e w' => e = .returned (.bool (bea p x y)) ∧ Below W.heap.size W w') := fun x y W hW => bears_any p m x y W HV.out ((HM.out.then_ HBY.out).then_ hW)
          obtain ⟨ri, hin, hz0, hz1, hz2⟩ := info_parts (show (Try.prog.info? 3).map (fun i => (i.zero, i.size, i.bytes)) = some (some (.int .i64 0), 1, 8) by kernel_rfl)
          clear hV hoV hbV
          go_loopw [9, 11] (fun r v WR => ∃ (q : Nat) (rc : List Int), r = .int .i64 ((q : Int) + 1) ∧ q ≤ k ∧ Hid (Own WR Y.heap.size 3 1 encN v rc ∧ Rcn p k (q + 1) i rc ∧ Below Y.heap.size Y WR)) (fun r _ _ => (intOf r).toNat)
          case atStart => exact ⟨k, [i], rfl, by omega, HOV.out, Rcn.start i0 i1 HRK.out, HBV.out⟩
          case round =>
            obtain ⟨q, rc, rfl, hqk, hrel⟩ := hrel
            obtain ⟨ho, hrc, hbr⟩ := hrel.out
            obtain ⟨l1, hl1⟩ : ∃ l1, rc.length = l1 + 1 := ⟨rc.length - 1, by have := hrc.len; omega⟩
            obtain ⟨g, cap, rfl, hg, hgl⟩ := ho.slice_ (by omega)
            rw [hl1]
            have HO := Lib.hid ho
            have HRC := Lib.hid hrc
            have HBR := Lib.hid hbr
            have HL1 := Lib.hid hl1
            by_cases hq : 0 < q
            · obtain ⟨q', hq'⟩ : ∃ q', q = q' + 1 := ⟨q - 1, by omega⟩
              have HQ := Lib.hid hq'
              obtain ⟨y, hy⟩ : ∃ y, rc[l1]? = some y := ⟨_, List.getElem?_eq_getElem (by omega)⟩
              have HY := Lib.hid hy
              have hy3 := hrc.rk l1 y hy
              have hlen := hrc.len
              have hRy : Rk p y (q' + 1) := by
                have := hy3.2.2
                rwa [show k - l1 = q' + 1 by omega] at this
              have hex := HEE.out y q' (by omega) hy3.1 hy3.2.1 hRy
              have HEX := Lib.hid hex
              have hl1b : l1 ≤ 100 := by omega
              obtain ⟨k0, k1, k2, k3, k4, k5⟩ := pfCells ((GPY.out.then_ hbr))
              have lP := (GPY.out.then_ hbr).lt
              clear ho hrc hbr hl1 hrel hq' hy hy3 hlen hRy hex
              go_upto_region 13 with (fail)
              clear k0 k1 k2 k3 k4 k5 lP
              go_loopw [11, 47] (fun v b WQ => v = .slice (some ⟨g, 0, none⟩) (l1 + 1) cap ∧ ∃ bb : Nat, b = .int .i64 bb ∧ (bb : Int) ≤ p.n ∧ Hid ((∀ j : Int, 0 ≤ j → j < bb → ¬ (Rk p j q' ∧ bea p j y = true)) ∧ Below wr.heap.size wr WQ)) (fun _ b _ => 100 - (intOf b).toNat)
              case atStart => exact ⟨rfl, 0, rfl, by omega, fun j h0 h1 => by omega, Below.refl _ _⟩
              case round =>
                obtain ⟨rfl, bb, rfl, hbn, hrl⟩ := hrel
                have hno := hrl.out.1
                have HNO := Lib.hid hno
                have HB5 := Lib.hid hrl.out.2
                have HBQ := Lib.hid (below_then HBR.out hrl.out.2)
                by_cases hlt : (bb : Int) < p.n
                · obtain ⟨c, hc, hcr⟩ := HMI.out.at_ HV.out HOS.out (i := (bb : Int)) (by omega) hlt
                  have hcq := hcr q' (by have := HQ.out; omega)
                  have hcr' : c = (q : Int) ↔ Rk p (bb : Int) q' := by
                    rw [← hcq]; have := HQ.out; omega
                  have HCR := Lib.hid hcr'
                  have hlk : ∀ (d : Nat) (os : Array Obj), (Instr.lookup 67 (.map (some bM)) (.int .i64 (bb : Int)) false).run Try.prog (grow (redrawn wr d) os) = .ok (.int .i64 c) (grow (redrawn wr d) os) := fun d os => look_run (mapO_below (mapO_below GM.out HBQ.out) (below_regrown wr d os)) (by omega) (by omega) hc
                  obtain ⟨cl, _⟩ := (HO.out.below HB5.out).cell1 encN_len HY.out rfl
                  obtain ⟨k0, k1, k2, k3, k4, k5⟩ := pfCells (GPY.out.then_ HBQ.out)
                  have lP := (GPY.out.then_ HBQ.out).lt
                  have lg : g < wr.heap.size := block_lt_of_cell cl
                  have HB6 : Hid (∀ W : World, Below wr.heap.size wr W → Calls Try.prog 39 #[.agg (pfA p m), .int .i64 bb, .int .i64 y] W fun e w' => e = .returned (.bool (bea p bb y)) ∧ Below W.heap.size W w') := fun W hW => HBE.out bb y W (below_then HBQ.out hW)
                  clear hc hcr hcq hcr' hrl hno
                  go_upto_region 15 with (fail)
                  rcases hbb (c == (q : Int)) with h1 | h1
                  · rcases hbb (bea p bb y) with h2 | h2
                    · rw [h2] at HB6
                      have H2 := Lib.hid h2
                      have H1 := Lib.hid h1
                      clear h2
                      have rg0 := cell_regrown k0
                      have rg1 := cell_regrown k1
                      have rg2 := cell_regrown k2
                      have rg3 := cell_regrown k3
                      have rg4 := cell_regrown k4
                      have rg5 := cell_regrown k5
                      have rg6 := cell_regrown cl
                      refine wp_region_qt [0, 1, 2, 3, 4, 5, 6, 7, 8, 9, 10, 11, 12, 13, 14, 15, 16] [] (by kernel_rfl) (by kernel_rfl) (by repeat (first | with_reducible refine panOk_then ?_ | with_reducible refine panOk_block ?_ | exact panOk_body)) ?_
                      simp only [opsAt, List.getElem?_toArray, List.getElem?_cons_succ, List.getElem?_cons_zero, Option.toList_some, List.cons_append, List.nil_append]
                      repeat (go_big_quiet_step ((go_at_call 39; exact qt_call (fun W' hW' => HB6.out W' hW') _ _)))
                      refine wpQuiet_nil ?_
                      intro W5 hw2
                      have hbW5 := qt_world hw2
                      clear hw2 rg0 rg1 rg2 rg3 rg4 rg5 rg6
                      refine wpList_done ?_
                      have hBJ : Own W5 Y.heap.size 3 1 encN (.slice (some ⟨g, 0, none⟩) (l1 + 1) cap) rc := by
                        have := (HO.out.below HB5.out).below hbW5
                        rwa [HL1.out] at this
                      have hB7 := below_then HBQ.out hbW5
                      have HO7 := Lib.hid hBJ
                      have HB7 := Lib.hid hB7
                      have hy7 : Y.heap.size ≤ W5.heap.size := hB7.size
                      have hrl : rc.length ≤ 1000000 := by rw [HL1.out]; omega
                      have HR7 := Lib.hid ((HRC.out) )
                      clear hlk hBJ hB7 cl k0 k1 k2 k3 k4 k5
                      go_wp2_with (at_builtin; go_loud (refine wpList_app _ rfl (.tmp 67) (.tmp 69) _ rfl Y.heap.size 3 ri _ 1 8 Try.underlying39 hin hz0 hz1 hz2 rfl (by omega) (by omega) encN encN_len (fun u => by intro v hv; simp [encN] at hv; subst hv; rfl) _ rc rfl (HO7.out.alloc _) hrl W5.heap.size 1 (bb : Int) rfl (Blk.new _ _ _) (by simp; omega) ?_); intro v8 V8 hO8 hb8 _)
                      go_roundw
                      case rel =>
                        have hq := HQ.out
                        have hcc : c = (q : Int) := by simpa using H1.out
                        have hr := HRC.out
                        rw [hq] at hr
                        exact ⟨q', rc ++ [(bb : Int)], by rw [hq]; rfl, by omega, hO8, hr.next (by rw [HL1.out]; exact HY.out) (by omega) hlt (HCR.out.1 hcc) H2.out, (below_alloc HB7.out _).trans hb8⟩
                      case measure => simp [intOf]
                    · rw [h2] at HB6
                      have H2 := Lib.hid h2
                      have H1 := Lib.hid h1
                      clear h2
                      have rg0 := cell_regrown k0
                      have rg1 := cell_regrown k1
                      have rg2 := cell_regrown k2
                      have rg3 := cell_regrown k3
                      have rg4 := cell_regrown k4
                      have rg5 := cell_regrown k5
                      have rg6 := cell_regrown cl
                      refine wp_region_qt [0, 1, 2, 3, 4, 5, 6, 7, 8, 9, 10, 11, 12, 13, 14, 15, 16] [] (by kernel_rfl) (by kernel_rfl) (by repeat (first | with_reducible refine panOk_then ?_ | with_reducible refine panOk_block ?_ | exact panOk_body)) ?_
                      simp only [opsAt, List.getElem?_toArray, List.getElem?_cons_succ, List.getElem?_cons_zero, Option.toList_some, List.cons_append, List.nil_append]
                      repeat (go_big_quiet_step ((go_at_call 39; exact qt_call (fun W' hW' => HB6.out W' hW') _ _)))
                      refine wpQuiet_nil ?_
                      intro W5 hw2
                      have hbW5 := qt_world hw2
                      clear hw2 rg0 rg1 rg2 rg3 rg4 rg5 rg6
                      refine wpList_done ?_
                      clear hlk
                      go_wp2
                      go_roundw
                      case rel =>
                        refine ⟨rfl, bb + 1, by go_num, by omega, ?_, below_then HB5.out hbW5⟩
                        rintro j h0 h1 ⟨hr, hb⟩
                        rcases Int.lt_or_le j bb with h3 | h3
                        · exact HNO.out j h0 h3 ⟨hr, hb⟩
                        · obtain rfl : j = bb := by omega
                          rw [H2.out] at hb
                          cases hb
                      case measure => simp [intOf]; omega
                  · have H1 := Lib.hid h1
                    have rg0 := cell_regrown k0
                    have rg1 := cell_regrown k1
                    have rg2 := cell_regrown k2
                    have rg3 := cell_regrown k3
                    have rg4 := cell_regrown k4
                    have rg5 := cell_regrown k5
                    have rg6 := cell_regrown cl
                    refine wp_region_qt [0, 1, 2, 3, 4, 5, 6, 7, 8, 9, 10, 11, 12, 13, 14, 15, 16] [] (by kernel_rfl) (by kernel_rfl) (by repeat (first | with_reducible refine panOk_then ?_ | with_reducible refine panOk_block ?_ | exact panOk_body)) ?_
                    simp only [opsAt, List.getElem?_toArray, List.getElem?_cons_succ, List.getElem?_cons_zero, Option.toList_some, List.cons_append, List.nil_append]
                    repeat (go_big_quiet_step (fail))
                    refine wpQuiet_nil ?_
                    intro W5 hw2
                    have hbW5 := qt_world hw2
                    clear hw2 rg0 rg1 rg2 rg3 rg4 rg5 rg6
                    refine wpList_done ?_
                    clear hlk
                    go_wp2
                    go_roundw
                    case rel =>
                      refine ⟨rfl, bb + 1, by go_num, by omega, ?_, below_then HB5.out hbW5⟩
                      rintro j h0 h1' ⟨hr, hb⟩
                      rcases Int.lt_or_le j bb with h3 | h3
                      · exact HNO.out j h0 h3 ⟨hr, hb⟩
                      · obtain rfl : j = bb := by omega
                        have := HCR.out.2 hr
                        have h9 := H1.out
                        rw [this] at h9
                        simp at h9
                    case measure => simp [intOf]; omega
                · exfalso
                  obtain ⟨j, j0, j1, j2, j3⟩ := HEX.out
                  exact HNO.out j j0 (by omega) ⟨j2, j3⟩
            · obtain rfl : q = 0 := by omega
              have HRV : Hid (Calls Try.prog 40 #[.slice (some ⟨g, 0, none⟩) (l1 + 1) cap] wr fun e w' => e = .returned (.tuple #[]) ∧ Own w' Y.heap.size 3 1 encN (.slice (some ⟨g, 0, none⟩) (l1 + 1) cap) rc.reverse ∧ Kp g g wr w') := by
                have := reverse_any g cap Y.heap.size rc wr (by have := hrc.len; omega) ho
                rw [hl1] at this
                exact this
              have HG := Lib.hid (And.intro hg hgl)
              clear ho hrc hbr hl1 hrel
              go_wp2_with (go_at_call 40; with_reducible refine HRV.out.mono ?_; rintro e w9 ⟨rfl, ho9, hk9⟩)
              go_ret2
              exact ⟨.inr ⟨HVV.out, HI.out, .inr (.inr ⟨K, k, rc.reverse, _, HKK.out, hkK, HRK.out, HRC.out.done, rfl, ho9.more hy0⟩)⟩, (below_then HBY.out (HBR.out.trans (hk9.below HG.out.1 HG.out.1 HBR.out.size)))⟩
        · have hhn := Lib.hid (HMI.out.has_no i0 i1 hd fun k hk => Dk_le HV.out HOS.out (by omega) (Nat.le_refl _))
          have HD := Lib.hid hd
          clear hd
          go_wp2_with (at_lookup; (refine wpList_lookup_own_ok_int _ rfl _ _ 67 rfl 3 3 .i64 keyI Try.underlying67 Try.underlying3 (zeroI _) bM cnt D rfl GM.out _ _ rfl HKEY.out ?_); intro c hat hwc; rw [hhn.out]; clear hat hwc)
          go_ret2
          exact ⟨.inr ⟨HVV.out, HI.out, .inr (.inl ⟨K, HKK.out, HD.out, rfl⟩)⟩, HBY.out⟩
      · have HSP := Lib.hid (spread_no p m w2 HV.out (HM.out.then_ HB2.out) hK)
        clear hK
        go_wp2_with (go_at_call 30; with_reducible refine HSP.out.mono ?_; rintro e w3 ⟨⟨K, hK, rfl⟩, hk⟩)
        go_ret2
        exact ⟨.inr ⟨HVV.out, HI.out, .inl ⟨K, hK, rfl⟩⟩, below_alloc (below_then HB2.out hk) _⟩
    · rw [hi] at HIP
      have HI := Lib.hid hi
      clear hi
      go_wp2_with (first | (go_at_call 14; with_reducible refine HCV.out.mono ?_; rintro e w1 ⟨rfl, hk⟩; replace hz := Lib.hid (below_then hz.out hk); have kk := (pfCells (GP.out.then_ hz.out)); clear k0 k1 k2 k3 k4 k5; obtain ⟨k0, k1, k2, k3, k4, k5⟩ := kk; have lw1 := (GP.out.then_ hz.out).lt; clear hk) | (go_at_call 34; with_reducible refine (HIP.out _).mono ?_; rintro e w2 ⟨rfl, hk⟩; replace hz := Lib.hid (below_then hz.out hk); clear hk))
      go_ret2
      exact ⟨.inl ⟨.inr HI.out, rfl⟩, below_then HX.out hz.out⟩
  · rw [hv] at HCV
    have HV := Lib.hid hv
    clear hv
    go_wp2_with (go_at_call 14; with_reducible refine HCV.out.mono ?_; rintro e w1 ⟨rfl, hk⟩)
    go_ret2
    exact ⟨.inl ⟨.inl HV.out, rfl⟩, below_then HX.out hk⟩
end Go.Proofs.Yteoicnhnpailiaa
