/- The check badKinds at a subject. -/
import Derived.Test.YtcfjehohemdanaaDoorTc2
import Derived.Test.YtcfjehohemdanaaDoorQt
namespace Go.Proofs.YtcfjehohemdanaaDoor
open Go.RowKit Go.Sort

theorem hcc2 (b : Bool) : b = true ∨ b = false := by cases b <;> simp
set_option maxRecDepth 100000 in
set_option maxHeartbeats 3200000 in
theorem badKi_any (s : Sy) (m : Sm) (k : Nat) (x : Cm) (w : World) (hk : m.cs[k]? = some x) (hl : m.cs.length = s.cl.length) (h0 : 0 ≤ x.c.c.act) (h1 : x.c.c.act < s.ac.length)
    (hp : x.c.c.pause = -1 ∨ ((0 ≤ x.c.c.pause ∧ x.c.c.pause < s.ac.length) ∧ (0 ≤ x.c.c.resume ∧ x.c.c.resume < s.ac.length))) (hs : Seg w w.heap.size 24 encCl m.c m.cs) (ht : Seg w w.heap.size 9 encAs m.a s.ac) :
    Calls Tryd.prog 31 #[.agg (sbA s m k)] w fun e w' => e = .returned (.bool (badKi s x.c)) ∧ Below w.heap.size w w' := by
  obtain ⟨b, o, ea, hb, hc⟩ := segCl hs hk
  have hlt : k < s.cl.length := by rw [← hl]; exact (List.getElem?_eq_some_iff.1 hk).1
  have HBY : Hid (∀ (i : Int) W, Below w.heap.size w W → 0 ≤ i → i < s.ac.length → Calls Tryd.prog 44 #[.agg #[.string s.nm, .int .i64 s.y, .int .i64 s.mo, .int .i64 s.dd, .int .i64 s.days, .bool s.wk.1, .bool s.wk.2.1, .bool s.wk.2.2.1, .bool s.wk.2.2.2.1, .bool s.wk.2.2.2.2.1, .bool s.wk.2.2.2.2.2.1, .bool s.wk.2.2.2.2.2.2, .slice m.h s.hol.length m.hc, .slice m.p s.par.length m.pc, .slice m.r s.ro.length m.rc, .slice m.u s.un.length m.uc, .slice m.a s.ac.length m.ac, .slice (some ⟨b, o, none⟩) s.cl.length m.cc, .int .i64 k], .int .i64 i] W fun e w' => e = .returned (.bool (byN s i)) ∧ Below W.heap.size W w') := fun i W hbW h0 h1 => by
    obtain ⟨n, rfl⟩ : ∃ n : Nat, i = n := ⟨i.toNat, by omega⟩
    obtain ⟨a, ha⟩ : ∃ a, s.ac[n]? = some a := ⟨_, List.getElem?_eq_getElem (by omega)⟩
    have := byNat_any s m k n a W ha ((ht.below hbW).more hbW.size)
    unfold sbA at this
    rw [ea] at this
    rw [show byN s (n : Int) = (a.a.kind == 1 && a.a.role == -1) by unfold byN; rw [Int.toNat_natCast, ha]]
    exact this
  have hN : Hid (badKi s x.c = ((x.c.gr.d != 0 && x.c.gr.b != x.c.wi.b) || (x.c.c.kind != 4 && byN s x.c.c.act) || (x.c.c.pause != -1 && (!(byN s x.c.c.pause) || !(byN s x.c.c.resume) || x.c.c.pause == x.c.c.resume)))) := rfl
  have HA := Lib.hid (fun W hbW => HBY.out x.c.c.act W hbW h0 h1)
  have HP : Hid (x.c.c.pause = -1 ∨ (x.c.c.pause ≠ -1 ∧ (∀ W, Below w.heap.size w W → Calls Tryd.prog 44 #[.agg #[.string s.nm, .int .i64 s.y, .int .i64 s.mo, .int .i64 s.dd, .int .i64 s.days, .bool s.wk.1, .bool s.wk.2.1, .bool s.wk.2.2.1, .bool s.wk.2.2.2.1, .bool s.wk.2.2.2.2.1, .bool s.wk.2.2.2.2.2.1, .bool s.wk.2.2.2.2.2.2, .slice m.h s.hol.length m.hc, .slice m.p s.par.length m.pc, .slice m.r s.ro.length m.rc, .slice m.u s.un.length m.uc, .slice m.a s.ac.length m.ac, .slice (some ⟨b, o, none⟩) s.cl.length m.cc, .int .i64 k], .int .i64 x.c.c.pause] W fun e w' => e = .returned (.bool (byN s x.c.c.pause)) ∧ Below W.heap.size W w') ∧ (∀ W, Below w.heap.size w W → Calls Tryd.prog 44 #[.agg #[.string s.nm, .int .i64 s.y, .int .i64 s.mo, .int .i64 s.dd, .int .i64 s.days, .bool s.wk.1, .bool s.wk.2.1, .bool s.wk.2.2.1, .bool s.wk.2.2.2.1, .bool s.wk.2.2.2.2.1, .bool s.wk.2.2.2.2.2.1, .bool s.wk.2.2.2.2.2.2, .slice m.h s.hol.length m.hc, .slice m.p s.par.length m.pc, .slice m.r s.ro.length m.rc, .slice m.u s.un.length m.uc, .slice m.a s.ac.length m.ac, .slice (some ⟨b, o, none⟩) s.cl.length m.cc, .int .i64 k], .int .i64 x.c.c.resume] W fun e w' => e = .returned (.bool (byN s x.c.c.resume)) ∧ Below W.heap.size W w'))) := by
    rcases hp with hp | ⟨⟨p1, p2⟩, r1, r2⟩
    · exact .inl hp
    · exact .inr ⟨by omega, fun W hW => HBY.out _ W hW p1 p2, fun W hW => HBY.out _ W hW r1 r2⟩
  clear hk hs hl h0 h1 hp ht HBY
  unfold sbA
  rw [ea]
  go_enter Tryd.func31, Tryd.ntmps31
  go_upto_region 1 with (fail)
  refine name_wp ?_
  intro X hX
  have gS : Blk X w.heap.size 72 #[.string s.nm, .int .i64 s.y, .int .i64 s.mo, .int .i64 s.dd, .int .i64 s.days, .bool s.wk.1, .bool s.wk.2.1, .bool s.wk.2.2.1, .bool s.wk.2.2.2.1, .bool s.wk.2.2.2.2.1, .bool s.wk.2.2.2.2.2.1, .bool s.wk.2.2.2.2.2.2, .slice m.h s.hol.length m.hc, .slice m.p s.par.length m.pc, .slice m.r s.ro.length m.rc, .slice m.u s.un.length m.uc, .slice m.a s.ac.length m.ac, .slice (some ⟨b, o, none⟩) s.cl.length m.cc, .int .i64 k] := by rw [hX]; exact Blk.new _ _ _
  obtain ⟨hld, s17, s18, hbX, szX⟩ := cl_load hX hb hc
  have hlw : w.heap.size < X.heap.size := by omega
  obtain ⟨B0, hB0⟩ : ∃ B0, w.heap.size = B0 := ⟨_, rfl⟩
  have HB0 := Lib.hid hB0
  rw [hB0] at s17 s18 hlw gS
  rw [hB0]
  have GS := Lib.hid gS
  have HBX := Lib.hid hbX
  clear hX hbX hB0 hc hb gS
  go_upto_region 2 with ((refine wpList_elem 51 el24 _ _ _ rfl rfl rfl rfl rfl rfl rfl rfl rfl b _ rfl [.string x.c.nm, .int .i64 x.c.pos, .int .i64 x.c.wi.d, .bool x.c.wi.b, .string x.c.wi.nm, .int .i64 x.c.gr.d, .bool x.c.gr.b, .string x.c.gr.nm, .int .i64 x.c.c.kind, .int .i64 x.c.c.role, .int .i64 x.c.c.act, .int .i64 x.c.c.need, .slice x.A x.c.c.start.length x.cap, .int .i64 x.c.c.aft, .int .i64 x.c.c.grace, .bool x.c.c.bus, .bool x.c.c.fin, .int .i64 x.c.c.pause, .int .i64 x.c.c.resume, .int .i64 x.c.c.v.1, .int .i64 x.c.c.v.2, .int .i64 x.c.c.unit, .int .i64 x.c.c.to_, .bool x.c.c.waived] rfl hld (by simp [Value.oneCell']) (by decide) (by simp) (by simp) ?_; simp only [Act.put, List.setIfInBounds_toArray, List.set_cons_succ, List.set_cons_zero]))
  refine name_wp ?_
  intro Y hY
  have gC : Blk Y X.heap.size 51 (csA x) := by rw [hY]; exact Blk.new _ _ _
  have gT : Blk Y B0 72 #[.string s.nm, .int .i64 s.y, .int .i64 s.mo, .int .i64 s.dd, .int .i64 s.days, .bool s.wk.1, .bool s.wk.2.1, .bool s.wk.2.2.1, .bool s.wk.2.2.2.1, .bool s.wk.2.2.2.2.1, .bool s.wk.2.2.2.2.2.1, .bool s.wk.2.2.2.2.2.2, .slice m.h s.hol.length m.hc, .slice m.p s.par.length m.pc, .slice m.r s.ro.length m.rc, .slice m.u s.un.length m.uc, .slice m.a s.ac.length m.ac, .slice (some ⟨b, o, none⟩) s.cl.length m.cc, .int .i64 k] := by rw [hY]; exact GS.out.alloc _
  have hbY : Below w.heap.size w Y := by rw [hY]; exact below_alloc HBX.out _
  have l0 := gT.lt
  have l1 := gC.lt
  obtain ⟨B1, hB1⟩ : ∃ B1, X.heap.size = B1 := ⟨_, rfl⟩
  rw [hB1] at gC l1
  rw [hB1]
  have GC := Lib.hid gC
  have GT := Lib.hid gT
  have HBY := Lib.hid hbY
  clear hY gC gT hbY hB1 hld s17 s18 szX hlw GS HBX
  have e3 : Y.cell? ⟨B1, 3, none⟩ = some (.bool x.c.wi.b) := GC.out.cell 3
  have e5 : Y.cell? ⟨B1, 5, none⟩ = some (.int .i64 x.c.gr.d) := GC.out.cell 5
  have e6 : Y.cell? ⟨B1, 6, none⟩ = some (.bool x.c.gr.b) := GC.out.cell 6
  have e8 : Y.cell? ⟨B1, 8, none⟩ = some (.int .i64 x.c.c.kind) := GC.out.cell 8
  have e10 : Y.cell? ⟨B1, 10, none⟩ = some (.int .i64 x.c.c.act) := GC.out.cell 10
  have e17 : Y.cell? ⟨B1, 17, none⟩ = some (.int .i64 x.c.c.pause) := GC.out.cell 17
  have e18 : Y.cell? ⟨B1, 18, none⟩ = some (.int .i64 x.c.c.resume) := GC.out.cell 18
  go_cut [12, 15, 20, 23, 25] from 13 to 25 (fun _ _ _ _ v W => v = .bool (x.c.gr.d != 0 && x.c.gr.b != x.c.wi.b) ∧ W = Y)
  case first =>
    go_wp2
    all_goals go_meet
    all_goals (case rel => exact ⟨congrArg Value.bool (by first | (simp_all; done) | (cases x.c.gr.b <;> cases x.c.wi.b <;> simp_all)), rfl⟩)
  case rest =>
    obtain ⟨hv, hw⟩ := hcut
    subst hv
    replace hw := hw.symm
    subst hw
    cases hz1 : (x.c.gr.d != 0 && x.c.gr.b != x.c.wi.b) with
    | true =>
      have hf : Hid (badKi s x.c = true) := by unfold Hid; rw [hN.out, hz1]; simp
      go_wp2
      go_ret
      exact ⟨ret_bool hf.out.symm, HBY.out⟩
    | false =>
      have HN : Hid (badKi s x.c = ((x.c.c.kind != 4 && byN s x.c.c.act) || (x.c.c.pause != -1 && (!(byN s x.c.c.pause) || !(byN s x.c.c.resume) || x.c.c.pause == x.c.c.resume)))) := by unfold Hid; rw [hN.out, hz1]; simp
      clear hz1
      go_upto_region 4 with (fail)
      go_cut [28, 35, 36] from 26 to 36 (fun _ _ v W => v = .bool (x.c.c.kind != 4 && byN s x.c.c.act) ∧ Below Y.heap.size Y W)
      case first =>
        by_cases h4 : x.c.c.kind = 4
        · have h4b : (x.c.c.kind != 4) = false := by rw [h4]; rfl
          go_wp2
          go_meet
          case rel => exact ⟨by rw [h4b]; rfl, Below.refl _ _⟩
        · have h4b : (x.c.c.kind != 4) = true := by simpa using h4
          go_wp2_with (first | (refine wpList_row_w (by rfl) 72 _ rfl B0 rfl 72 _ GT.out ⟨_, Tryd.underlying72⟩ (by kernel_rfl) ?_; simp only [Act.put, List.setIfInBounds_toArray, List.set_cons_succ, List.set_cons_zero]) | (go_at_call 44; (with_reducible refine (HA.out _ HBY.out).mono ?_); rintro e w1 ⟨rfl, hb1⟩))
          go_meet
          case rel => exact ⟨by rw [h4b]; rfl, by assumption⟩
      case rest =>
        obtain ⟨hv, hbw⟩ := hcut
        subst hv
        have hbW : Below w.heap.size w wc := below_then HBY.out hbw
        have gC2 := GC.out.then_ hbw
        have gT2 := GT.out.then_ hbw
        have HBW := Lib.hid hbW
        clear e3 e5 e6 e8 e10 e17 e18 l0 l1 GC GT hbw hbW
        have e17 : wc.cell? ⟨B1, 17, none⟩ = some (.int .i64 x.c.c.pause) := gC2.cell 17
        have e18 : wc.cell? ⟨B1, 18, none⟩ = some (.int .i64 x.c.c.resume) := gC2.cell 18
        have l0 := gT2.lt
        have l1 := gC2.lt
        have GT2 := Lib.hid gT2
        clear gC2 gT2
        cases hz2 : (x.c.c.kind != 4 && byN s x.c.c.act) with
        | true =>
          have hf : Hid (badKi s x.c = true) := by unfold Hid; rw [HN.out, hz2]; simp
          go_wp2
          go_ret
          exact ⟨ret_bool hf.out.symm, HBW.out⟩
        | false =>
          have HN2 : Hid (badKi s x.c = (x.c.c.pause != -1 && (!(byN s x.c.c.pause) || !(byN s x.c.c.resume) || x.c.c.pause == x.c.c.resume))) := by unfold Hid; rw [HN.out, hz2]; simp
          clear hz2
          go_upto_region 6 with (fail)
          have rg0 := cell_regrown e17
          have rg1 := cell_regrown e18
          refine wp_region_qt [0, 1, 2, 3, 4, 5, 6, 7] [] (by kernel_rfl) (by kernel_rfl) (by repeat (first | with_reducible refine panOk_then ?_ | with_reducible refine panOk_block ?_ | exact panOk_body)) ?_
          simp only [opsAt, List.getElem?_toArray, List.getElem?_cons_succ, List.getElem?_cons_zero, Option.toList_some, List.cons_append, List.nil_append]
          repeat (go_big_quiet_step (fail))
          refine wpQuiet_nil ?_
          intro Z hw2
          have hbZ := qt_world hw2
          clear hw2 rg0 rg1
          refine wpList_done ?_
          have gT3 := GT2.out.then_ hbZ
          have hbW2 := Lib.hid (below_then HBW.out hbZ)
          have l2 := gT3.lt
          clear e17 e18 l0 l1 GT2 hbZ
          rcases HP.out with hp | ⟨hp, cP, cR⟩
          · have hpb : (x.c.c.pause != -1) = false := by rw [hp]; rfl
            have hf : Hid (badKi s x.c = false) := by unfold Hid; rw [HN2.out, hpb]; rfl
            clear hp
            go_wp2
            go_ret
            exact ⟨ret_bool hf.out.symm, hbW2.out⟩
          · have hpb : (x.c.c.pause != -1) = true := by simpa using hp
            have cP1 := cP _ hbW2.out
            have CR := Lib.hid cR
            clear cP cR
            cases hbP : byN s x.c.c.pause with
            | false =>
              have hf : Hid (badKi s x.c = true) := by unfold Hid; rw [HN2.out, hpb, hbP]; rfl
              rw [hbP] at cP1
              clear hbP
              go_wp2_with (first | (refine wpList_row_w (by rfl) 72 _ rfl B0 rfl 72 _ (by with_reducible assumption) ⟨_, Tryd.underlying72⟩ (by kernel_rfl) ?_; simp only [Act.put, List.setIfInBounds_toArray, List.set_cons_succ, List.set_cons_zero]) | (go_at_call 44; (with_reducible refine cP1.mono ?_); rintro e w1 ⟨rfl, hb1⟩))
              go_ret
              exact ⟨ret_bool hf.out.symm, below_then hbW2.out hb1⟩
            | true =>
              rw [hbP] at cP1
              cases hbR : byN s x.c.c.resume with
              | false =>
                have hf : Hid (badKi s x.c = true) := by unfold Hid; rw [HN2.out, hpb, hbP, hbR]; rfl
                rw [hbR] at CR
                clear hbP hbR
                go_wp2_with (first | (refine wpList_row_w (by rfl) 72 _ rfl B0 rfl 72 _ (by with_reducible assumption) ⟨_, Tryd.underlying72⟩ (by kernel_rfl) ?_; simp only [Act.put, List.setIfInBounds_toArray, List.set_cons_succ, List.set_cons_zero]) | (go_at_call 44; first | ((with_reducible refine cP1.mono ?_); rintro e w1 ⟨rfl, hb1⟩; have gT4 := gT3.then_ hb1; have cR1 := CR.out _ (below_then hbW2.out hb1)) | ((with_reducible refine cR1.mono ?_); rintro e w2 ⟨rfl, hb2⟩)))
                go_ret
                exact ⟨ret_bool hf.out.symm, below_then (below_then hbW2.out (by assumption)) (by assumption)⟩
              | true =>
                have hf : Hid (badKi s x.c = (x.c.c.pause == x.c.c.resume)) := by unfold Hid; rw [HN2.out, hpb, hbP, hbR]; rfl
                rw [hbR] at CR
                clear hbP hbR
                go_wp2_with (first | (refine wpList_row_w (by rfl) 72 _ rfl B0 rfl 72 _ (by with_reducible assumption) ⟨_, Tryd.underlying72⟩ (by kernel_rfl) ?_; simp only [Act.put, List.setIfInBounds_toArray, List.set_cons_succ, List.set_cons_zero]) | (go_at_call 44; first | ((with_reducible refine cP1.mono ?_); rintro e w1 ⟨rfl, hb1⟩; have gT4 := gT3.then_ hb1; have cR1 := CR.out _ (below_then hbW2.out hb1)) | ((with_reducible refine cR1.mono ?_); rintro e w2 ⟨rfl, hb2⟩)))
                go_ret
                exact ⟨ret_bool hf.out.symm, below_then (below_then hbW2.out (by assumption)) (by assumption)⟩
end Go.Proofs.YtcfjehohemdanaaDoor
