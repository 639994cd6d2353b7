/- Whether a clause is well-formed. -/
import Derived.Test.YtcfjehohemdanaaDoorTb2
import Derived.Test.YtcfjehohemdanaaDoorTb3
import Derived.Deep.CutRange
namespace Go.Proofs.YtcfjehohemdanaaDoor
open Go.RowKit Go.Sort

abbrev ccV (c : Cls) (A : Option Addr) (cap : Nat) : Array Value := #[.int .i64 c.kind, .int .i64 c.role, .int .i64 c.act, .int .i64 c.need, .slice A c.start.length cap, .int .i64 c.aft, .int .i64 c.grace, .bool c.bus, .bool c.fin, .int .i64 c.pause, .int .i64 c.resume, .int .i64 c.v.1, .int .i64 c.v.2, .int .i64 c.unit, .int .i64 c.to_, .bool c.waived]
theorem hcc (b : Bool) : b = true ∨ b = false := by cases b <;> simp
set_option maxRecDepth 100000 in
set_option maxHeartbeats 3200000 in
theorem fmC_any (s : Sy) (m : Sm) (c : Cls) (A : Option Addr) (cap : Nat) (w : World) (hn : Nr w) (hs : Seg w w.heap.size 2 encCo A c.start) (hlen : c.start.length ≤ 1000000) : Calls Tryd.prog 40 #[.agg (syA s m), .agg (ccV c A cap)] w fun e w' => e = .returned (.bool (fmC s.sz c)) ∧ Below w.heap.size w w' := by
  have HN := Lib.hid hn
  have HS := Lib.hid hs
  clear hn hs
  go_enter Tryd.func40, Tryd.ntmps40
  go_upto_region 1 with (fail)
  refine name_wp ?_
  intro X hX
  have hbX : Below w.heap.size w X := by rw [hX]; exact (wa1 _ _).alloc (by simp) _
  have gC : Blk X (w.heap.size + 1) 49 (ccV c A cap) := by rw [hX]; have := Blk.new (w.alloc (.cells (syA s m) 34)) 49 (ccV c A cap); simpa using this
  have gS : Blk X w.heap.size 34 (syA s m) := by rw [hX]; exact (Blk.new _ _ _).alloc _
  obtain ⟨bC, eC⟩ : ∃ g, w.heap.size + 1 = g := ⟨_, rfl⟩
  obtain ⟨bS, eS⟩ : ∃ g, w.heap.size = g := ⟨_, rfl⟩
  rw [eC] at gC ⊢
  rw [eS] at gS ⊢
  have HB := Lib.hid hbX
  have GC := Lib.hid gC
  have GS := Lib.hid gS
  have lC := gC.lt
  have lS := gS.lt
  have c0 : X.cell? ⟨bC, 0, none⟩ = some (.int .i64 c.kind) := gC.cell 0
  have c1 : X.cell? ⟨bC, 1, none⟩ = some (.int .i64 c.role) := gC.cell 1
  have c2 : X.cell? ⟨bC, 2, none⟩ = some (.int .i64 c.act) := gC.cell 2
  have c3 : X.cell? ⟨bC, 3, none⟩ = some (.int .i64 c.need) := gC.cell 3
  have c4 : X.cell? ⟨bC, 4, none⟩ = some (.slice A c.start.length cap) := gC.cell 4
  have c5 : X.cell? ⟨bC, 5, none⟩ = some (.int .i64 c.aft) := gC.cell 5
  have c6 : X.cell? ⟨bC, 6, none⟩ = some (.int .i64 c.grace) := gC.cell 6
  have c7 : X.cell? ⟨bC, 7, none⟩ = some (.bool c.bus) := gC.cell 7
  have c8 : X.cell? ⟨bC, 8, none⟩ = some (.bool c.fin) := gC.cell 8
  have c9 : X.cell? ⟨bC, 9, none⟩ = some (.int .i64 c.pause) := gC.cell 9
  have c10 : X.cell? ⟨bC, 10, none⟩ = some (.int .i64 c.resume) := gC.cell 10
  have c11 : X.cell? ⟨bC, 11, none⟩ = some (.int .i64 c.v.1) := gC.cell 11
  have c12 : X.cell? ⟨bC, 12, none⟩ = some (.int .i64 c.v.2) := gC.cell 12
  have c13 : X.cell? ⟨bC, 13, none⟩ = some (.int .i64 c.unit) := gC.cell 13
  have c14 : X.cell? ⟨bC, 14, none⟩ = some (.int .i64 c.to_) := gC.cell 14
  have c15 : X.cell? ⟨bC, 15, none⟩ = some (.bool c.waived) := gC.cell 15
  have s13 : X.cell? ⟨bS, 13, none⟩ = some (.slice m.p s.par.length m.pc) := gS.cell 13
  have s14 : X.cell? ⟨bS, 14, none⟩ = some (.slice m.r s.ro.length m.rc) := gS.cell 14
  have s15 : X.cell? ⟨bS, 15, none⟩ = some (.slice m.u s.un.length m.uc) := gS.cell 15
  have s16 : X.cell? ⟨bS, 16, none⟩ = some (.slice m.a s.ac.length m.ac) := gS.cell 16
  have s17 : X.cell? ⟨bS, 17, none⟩ = some (.slice m.c s.cl.length m.cc) := gS.cell 17
  clear gC gS hX hbX eC eS
  go_cut [26] from 10 to 26 (fun v W => v = .bool (!(fm1 s.sz c)) ∧ W = X)
  case first =>
    go_wp2_with (go_at_call 38; (with_reducible refine (isIx_any _ _ _).mono ?_); rintro e w' ⟨rfl, rfl⟩)
    all_goals go_meet
    all_goals (case rel => exact ⟨congrArg Value.bool (by first | (simp_all [fm1, inn, Sy.sz]; done) | (simp_all [fm1, inn, Sy.sz]; intros; omega)), rfl⟩)
  case rest =>
    obtain ⟨hv, hw⟩ := hcut
    subst hv
    replace hw := hw.symm
    subst hw
    rcases hcc (!(fm1 s.sz c)) with h1 | h1
    · rw [h1]
      have hr : Hid (fmC s.sz c = false) := by
        unfold Hid
        rw [Bool.not_eq_true'] at h1
        simp [fmC, h1]
      go_wp2
      go_ret
      exact ⟨ret_bool hr.out.symm, HB.out⟩
    rw [h1]
    go_upto_region 3 with (fail)
    go_cut [48] from 27 to 48 (fun v W => v = .bool (!(fm2 s.sz c)) ∧ W = X)
    case first =>
      go_wp2_with (go_at_call 38; (with_reducible refine (isIx_any _ _ _).mono ?_); rintro e w' ⟨rfl, rfl⟩)
      all_goals go_meet
      all_goals (case rel => exact ⟨congrArg Value.bool (by first | (simp_all [fm2, Sy.sz]; done) | (simp_all [fm2, Sy.sz]; intros; omega)), rfl⟩)
    case rest =>
      obtain ⟨hv, hw⟩ := hcut
      subst hv
      replace hw := hw.symm
      subst hw
      rcases hcc (!(fm2 s.sz c)) with h2 | h2
      · rw [h2]
        have hr : Hid (fmC s.sz c = false) := by
          unfold Hid
          rw [Bool.not_eq_true'] at h2
          simp [fmC, h2]
        go_wp2
        go_ret
        exact ⟨ret_bool hr.out.symm, HB.out⟩
      rw [h2]
      go_upto_region 6 with (fail)
      clear c0 c1 c2 c3 c4 c5 c6 c7 c8 c9 c10 c11 c12 c13 c14 c15 s13 s14 s15 s16 s17
      obtain ⟨l, hl⟩ : ∃ l, c.start = l := ⟨_, rfl⟩
      have HLL := Lib.hid hl
      rw [hl] at HS hlen ⊢
      clear hl
      go_loopw [52] (fun y WR => ∃ k : Nat, k ≤ l.length ∧ y = .int .i64 k ∧ Hid ((l.take k).all (fmX s.sz) = true) ∧ Below X.heap.size X WR) (fun y _ => l.length - (intOf y).toNat)
      case atStart => exact ⟨0, by omega, rfl, by simp [Hid], Below.refl _ _⟩
      case round =>
        obtain ⟨k, hk, rfl, hT, hbr⟩ := hrel
        have HBR := Lib.hid hbr
        have gS2 := GS.out.then_ hbr
        have lS2 := gS2.lt
        have s17' : wr.cell? ⟨bS, 17, none⟩ = some (.slice m.c s.cl.length m.cc) := gS2.cell 17
        by_cases hlt : k < l.length
        · obtain ⟨y, hy⟩ : ∃ y, l[k]? = some y := ⟨_, List.getElem?_eq_getElem hlt⟩
          obtain ⟨b1, o1, ea, hb1, hcl⟩ := (HS.out.below (below_then HB.out hbr)) k y hy
          have y0 : wr.cell? ⟨b1, o1 + k * 2, none⟩ = some (.int .i64 y.1) := hcl 0 _ rfl
          have y1 : wr.cell? ⟨b1, o1 + k * 2 + 1, none⟩ = some (.int .i64 y.2) := hcl 1 _ rfl
          have hbl : b1 < wr.heap.size := Nat.lt_of_lt_of_le hb1 (below_then HB.out hbr).size
          have htk : l.take (k + 1) = l.take k ++ [y] := by
            obtain ⟨h1, rfl⟩ := List.getElem?_eq_some_iff.1 hy
            exact List.take_succ_eq_append_getElem h1
          have HTK := Lib.hid htk
          have HYM := Lib.hid (List.mem_of_getElem? hy)
          have HT := hT
          have hno : Hid (fmX s.sz y = false → fmC s.sz c = false) := fun h => by
            have h3 : fm3 s.sz c = false := by
              unfold fm3
              rw [HLL.out, List.all_eq_false]
              exact ⟨y, HYM.out, by rw [h]; decide⟩
            simp [fmC, h3]
          subst ea
          clear hy hcl hbr htk hT
          rcases hcc (fmX s.sz y) with hf | hf
          · have h1 : isIx y.1 s.cl.length = true := by simp only [fmX, Sy.sz, Bool.and_eq_true] at hf; exact hf.1
            have h2 : 1 ≤ y.2 ∧ y.2 ≤ 4 := by simp only [fmX, inn, Bool.and_eq_true, decide_eq_true_eq] at hf; exact hf.2
            obtain ⟨h3, h4⟩ := h2
            have HIX := Lib.hid (fun W => isIx_any y.1 s.cl.length W)
            rw [h1] at HIX
            have h3' : decide (y.2 < 1) = false := by simp; omega
            have h4' : decide (4 < y.2) = false := by simp; omega
            have HFF := Lib.hid hf
            clear hf h1
            go_wp2_with (go_at_call 38; (with_reducible refine (HIX.out _).mono ?_); rintro e w' ⟨rfl, rfl⟩)
            go_roundw
            case rel => exact ⟨k + 1, by omega, by go_num, by rw [HTK.out, List.all_append, HT.out]; simp [Hid, HFF.out], HBR.out.alloc (HBR.out.size) _⟩
            case measure => simp [intOf]; omega
          · have hr := hno.out hf
            have HR := Lib.hid hr
            clear hr
            have HIX := Lib.hid (fun W => isIx_any y.1 s.cl.length W)
            have h3 : (isIx y.1 s.cl.length = false) ∨ (isIx y.1 s.cl.length = true ∧ y.2 < 1) ∨ (isIx y.1 s.cl.length = true ∧ 1 ≤ y.2 ∧ 4 < y.2) := by
              cases hi : isIx y.1 s.cl.length with
              | false => exact .inl rfl
              | true =>
                simp only [fmX, Sy.sz, hi, Bool.true_and, inn, Bool.and_eq_false_iff, decide_eq_false_iff_not] at hf
                by_cases h1 : y.2 < 1
                · exact .inr (.inl ⟨rfl, h1⟩)
                · exact .inr (.inr ⟨rfl, by omega, by omega⟩)
            clear hf
            rcases h3 with h3 | ⟨h3, h4⟩ | ⟨h3, h4, h5⟩
            · rw [h3] at HIX
              clear h3
              go_wp2_with (go_at_call 38; (with_reducible refine (HIX.out _).mono ?_); rintro e w' ⟨rfl, rfl⟩)
              go_ret
              exact ⟨ret_bool HR.out.symm, (below_then HB.out HBR.out).alloc (below_then HB.out HBR.out).size _⟩
            · rw [h3] at HIX
              have h4' : decide (y.2 < 1) = true := by simp [h4]
              clear h3
              go_wp2_with (go_at_call 38; (with_reducible refine (HIX.out _).mono ?_); rintro e w' ⟨rfl, rfl⟩)
              go_ret
              exact ⟨ret_bool HR.out.symm, (below_then HB.out HBR.out).alloc (below_then HB.out HBR.out).size _⟩
            · rw [h3] at HIX
              have h4' : decide (y.2 < 1) = false := by simp; omega
              have h5' : decide (4 < y.2) = true := by simp [h5]
              clear h3
              go_wp2_with (go_at_call 38; (with_reducible refine (HIX.out _).mono ?_); rintro e w' ⟨rfl, rfl⟩)
              go_ret
              exact ⟨ret_bool HR.out.symm, (below_then HB.out HBR.out).alloc (below_then HB.out HBR.out).size _⟩
        · have h3 : Hid (fm3 s.sz c = true) := by
            unfold Hid fm3
            rw [HLL.out]
            have := hT
            rwa [Hid, List.take_of_length_le (by omega)] at this
          obtain ⟨Y, hY⟩ : ∃ Y, Y = wr := ⟨_, rfl⟩
          subst hY
          have gC := GC.out.then_ hbr
          have gS := GS.out.then_ hbr
          have lC := gC.lt
          have lS := gS.lt
          have HBY := Lib.hid (below_then HB.out hbr)
          have hn := HN.out.below HBY.out
          have n0 := hn.n
          have n1 := hn.d
          have ln := block_lt_of_cell hn.n
          clear hT hbr gS2 lS2 s17'
          have c0 : Y.cell? ⟨bC, 0, none⟩ = some (.int .i64 c.kind) := gC.cell 0
          have c1 : Y.cell? ⟨bC, 1, none⟩ = some (.int .i64 c.role) := gC.cell 1
          have c2 : Y.cell? ⟨bC, 2, none⟩ = some (.int .i64 c.act) := gC.cell 2
          have c3 : Y.cell? ⟨bC, 3, none⟩ = some (.int .i64 c.need) := gC.cell 3
          have c4 : Y.cell? ⟨bC, 4, none⟩ = some (.slice A c.start.length cap) := gC.cell 4
          have c5 : Y.cell? ⟨bC, 5, none⟩ = some (.int .i64 c.aft) := gC.cell 5
          have c6 : Y.cell? ⟨bC, 6, none⟩ = some (.int .i64 c.grace) := gC.cell 6
          have c7 : Y.cell? ⟨bC, 7, none⟩ = some (.bool c.bus) := gC.cell 7
          have c8 : Y.cell? ⟨bC, 8, none⟩ = some (.bool c.fin) := gC.cell 8
          have c9 : Y.cell? ⟨bC, 9, none⟩ = some (.int .i64 c.pause) := gC.cell 9
          have c10 : Y.cell? ⟨bC, 10, none⟩ = some (.int .i64 c.resume) := gC.cell 10
          have c11 : Y.cell? ⟨bC, 11, none⟩ = some (.int .i64 c.v.1) := gC.cell 11
          have c12 : Y.cell? ⟨bC, 12, none⟩ = some (.int .i64 c.v.2) := gC.cell 12
          have c13 : Y.cell? ⟨bC, 13, none⟩ = some (.int .i64 c.unit) := gC.cell 13
          have c14 : Y.cell? ⟨bC, 14, none⟩ = some (.int .i64 c.to_) := gC.cell 14
          have c15 : Y.cell? ⟨bC, 15, none⟩ = some (.bool c.waived) := gC.cell 15
          have s13 : Y.cell? ⟨bS, 13, none⟩ = some (.slice m.p s.par.length m.pc) := gS.cell 13
          have s14 : Y.cell? ⟨bS, 14, none⟩ = some (.slice m.r s.ro.length m.rc) := gS.cell 14
          have s15 : Y.cell? ⟨bS, 15, none⟩ = some (.slice m.u s.un.length m.uc) := gS.cell 15
          have s16 : Y.cell? ⟨bS, 16, none⟩ = some (.slice m.a s.ac.length m.ac) := gS.cell 16
          have s17 : Y.cell? ⟨bS, 17, none⟩ = some (.slice m.c s.cl.length m.cc) := gS.cell 17
          clear gC gS hn
          go_upto_region 11 with (fail)
          go_cut [7] from 74 to 81 (fun v W => v = .bool (c.pause == -1 && c.resume == -1) ∧ W = Y)
          case first =>
            go_wp2_with (go_at_call 38; (with_reducible refine (isIx_any _ _ _).mono ?_); rintro e w' ⟨rfl, rfl⟩)
            all_goals go_meet
            all_goals (case rel => exact ⟨congrArg Value.bool (by first | (simp_all; done) | (simp_all; intros; omega)), rfl⟩)
          case rest =>
            obtain ⟨hv, hw⟩ := hcut
            subst hv
            replace hw := hw.symm
            subst hw
            go_upto_region 12 with (fail)
            go_cut [7, 101] from 82 to 101 (fun _ v W => v = .bool (!(fm4 s.sz c)) ∧ W = Y)
            case first =>
              go_wp2_with (go_at_call 38; (with_reducible refine (isIx_any _ _ _).mono ?_); rintro e w' ⟨rfl, rfl⟩)
              all_goals go_meet
              all_goals (case rel => exact ⟨congrArg Value.bool (by first | (simp_all [fm4, Sy.sz]; done) | (simp_all [fm4, Sy.sz]; intros; omega)), rfl⟩)
            case rest =>
              obtain ⟨hv, hw⟩ := hcut
              subst hv
              replace hw := hw.symm
              subst hw
              rcases hcc (!(fm4 s.sz c)) with h4 | h4
              · rw [h4]
                have hr : Hid (fmC s.sz c = false) := by
                  unfold Hid
                  rw [Bool.not_eq_true'] at h4
                  simp [fmC, h4]
                go_wp2
                go_ret
                exact ⟨ret_bool hr.out.symm, HBY.out⟩
              rw [h4]
              go_upto_region 14 with (fail)
              go_cut [8] from 102 to 109 (fun v W => v = .bool (bnd c) ∧ W = Y)
              case first =>
                go_wp2_with (go_at_call 38; (with_reducible refine (isIx_any _ _ _).mono ?_); rintro e w' ⟨rfl, rfl⟩)
                all_goals go_meet
                all_goals (case rel => exact ⟨congrArg Value.bool (by first | (simp_all [bnd]; done) | (simp_all [bnd]; intros; omega)), rfl⟩)
              case rest =>
                obtain ⟨hv, hw⟩ := hcut
                subst hv
                replace hw := hw.symm
                subst hw
                go_upto_region 15 with (fail)
                go_cut [9] from 110 to 123 (fun v W => v = .bool (fre c) ∧ W = Y)
                case first =>
                  go_wp2_with (go_at_call 38; (with_reducible refine (isIx_any _ _ _).mono ?_); rintro e w' ⟨rfl, rfl⟩)
                  all_goals go_meet
                  all_goals (case rel => exact ⟨congrArg Value.bool (by first | (simp_all [fre, zero?]; done) | (simp_all [fre, zero?]; intros; omega)), rfl⟩)
                case rest =>
                  obtain ⟨hv, hw⟩ := hcut
                  subst hv
                  replace hw := hw.symm
                  subst hw
                  go_upto_region 16 with (fail)
                  go_cut [8, 9, 145] from 124 to 145 (fun b8 _ v W => b8 = .bool (bnd c) ∧ v = .bool (!(fm5 s.sz c)) ∧ W = Y)
                  case first =>
                    go_wp2_with (go_at_call 38; (with_reducible refine (isIx_any _ _ _).mono ?_); rintro e w' ⟨rfl, rfl⟩)
                    all_goals go_meet
                    all_goals (case rel => exact ⟨congrArg Value.bool (by simp_all), congrArg Value.bool (by first | (simp_all [fm5, Sy.sz]; done) | (simp_all [fm5, Sy.sz]; intros; omega)), rfl⟩)
                  case rest =>
                    obtain ⟨h8, hv, hw⟩ := hcut
                    subst h8
                    subst hv
                    replace hw := hw.symm
                    subst hw
                    rcases hcc (!(fm5 s.sz c)) with h5 | h5
                    · rw [h5]
                      have hr : Hid (fmC s.sz c = false) := by
                        unfold Hid
                        rw [Bool.not_eq_true'] at h5
                        simp [fmC, h5]
                      go_wp2
                      go_ret
                      exact ⟨ret_bool hr.out.symm, HBY.out⟩
                    rw [h5]
                    go_upto_region 18 with (fail)
                    go_cut [8, 161] from 146 to 161 (fun _ v W => v = .bool (!(fm6 c)) ∧ W = Y)
                    case first =>
                      go_wp2_with (go_at_call 38; (with_reducible refine (isIx_any _ _ _).mono ?_); rintro e w' ⟨rfl, rfl⟩)
                      all_goals go_meet
                      all_goals (case rel => exact ⟨congrArg Value.bool (by first | (simp_all [fm6]; done) | (simp_all [fm6]; intros; omega)), rfl⟩)
                    case rest =>
                      obtain ⟨hv, hw⟩ := hcut
                      subst hv
                      replace hw := hw.symm
                      subst hw
                      rcases hcc (!(fm6 c)) with h6 | h6
                      · rw [h6]
                        have hr : Hid (fmC s.sz c = false) := by
                          unfold Hid
                          rw [Bool.not_eq_true'] at h6
                          simp [fmC, h6]
                        go_wp2
                        go_ret
                        exact ⟨ret_bool hr.out.symm, HBY.out⟩
                      rw [h6]
                      go_upto_region 20 with (fail)
                      have hr : Hid (fmC s.sz c = fm7 c) := by
                        rw [Bool.not_eq_false'] at h1 h2 h4 h5 h6
                        have h3' := h3.out
                        unfold Hid
                        simp [fmC, h1, h2, h3', h4, h5, h6]
                      go_wp2
                      all_goals go_ret
                      all_goals exact ⟨ret_bool (by rw [hr.out]; simp_all [fm7]), HBY.out⟩
end Go.Proofs.YtcfjehohemdanaaDoor
