/- The walk of estoppelref42.Net: the same rounds as netting.Net. -/
import Derived.Test.YthgbdpiihdhfiaaN13
import Derived.Test.YthgbdpiihdhfiaaN12
import Derived.Test.YthgbdpiihdhfiaaN07
import Derived.Deep.CutRange
import Derived.Test.YthgbdpiihdhfiaaQa
import Derived.Test.YthgbdpiihdhfiaaBox
namespace Go.Proofs.Ythgbdpiihdhfiaa
open Go.RowKit Go.Sort

theorem name_wp {P : Program} {c : Code} {Q : Exit → Act → World → Prop} {a : Act} {w : World} (h : ∀ w', w' = w → c.wp P Q a w') : c.wp P Q a w := h w rfl

set_option maxRecDepth 100000 in
set_option maxHeartbeats 6400000 in
/-- estoppelref42.Net at valid debts -/
theorem rnet_any (p : Nat) (A : Option Addr) (c : Nat) (l : List Db) (w : World) (hv : validD p l = true)
    (hf : ∀ x ∈ l, fitD x) (hm : Seg w w.heap.size 4 encD A l) :
    Calls Try.prog 15 #[.int .i64 p, .slice A l.length c] w fun e w' => LstP (netL l p) w w' e ∧ Below w.heap.size w w' := by
  obtain ⟨i0, hi, hz0, hz1, hz2⟩ := info_parts infoD
  have HP := rpositions_any p A c l w hv hf hm
  have hp : 1 ≤ p ∧ p ≤ 12 := by
    simp only [validD, Bool.and_eq_true, decide_eq_true_eq] at hv
    omega
  obtain ⟨p1, p2⟩ := hp
  cases hpos : posF l p with
  | none =>
    have HL := Lib.hid (show netL l p = none by rw [netL, hpos]; rfl)
    rw [hpos] at HP
    have HPH := Lib.hid HP
    clear HP hpos hm hf hv
    go_enter Try.func15, Try.ntmps15
    go_wp2_with (go_at_call 11; refine HPH.out.mono ?_; rintro e w1 ⟨he, hb⟩; obtain rfl : e = _ := he)
    go_ret2
    exact ⟨by rw [HL.out]; rfl, hb⟩
  | some qs0 =>
    have HL := Lib.hid (show netL l p = netF (p + 1) qs0 [] by rw [netL, hpos]; rfl)
    have hlen0 := posF_len hpos
    have hin0 := posF_inR hpos
    rw [hpos] at HP
    have HPH := Lib.hid HP
    clear HP hpos hm hf hv
    go_enter Try.func15, Try.ntmps15
    go_wp2_with (go_at_call 11; refine HPH.out.mono ?_; rintro e w1 ⟨⟨v, rfl, hO0⟩, hbP⟩; obtain ⟨g, cap, rfl, hg1, hg2⟩ := World.ownsRow.form hO0 (by omega); rw [hlen0])
    rw [hlen0] at hO0
    go_loopw [8, 9] (fun v i wr => ∃ (k : Nat) (qs : List Rat) (made : List Db), k ≤ p + 1 ∧ i = .int .i64 k ∧ Hid (netF (p + 1) qs0 [] = netF (p + 1 - k) qs made ∧ (∀ q ∈ qs, inR q = true)) ∧ Hid (qs.length = p) ∧ made.length ≤ k ∧ Own wr w.heap.size 34 2 encR (.slice (some ⟨g, 0, none⟩) p cap) qs ∧ Own wr w1.heap.size 38 4 encD v made ∧ Below w.heap.size w wr ∧ w1.heap.size ≤ wr.heap.size) (fun _ i _ => p + 1 - (intOf i).toNat)
    case atStart => exact ⟨0, qs0, [], by omega, rfl, ⟨rfl, hin0⟩, hlen0, by simp, hO0, Own.nil .., hbP, Nat.le_refl _⟩
    case round =>
      obtain ⟨k, qs, made, hk, rfl, hN, hlen, hmade, hO, hM, hB, hle⟩ := hrel
      clear hlen0 hin0 hO0
      have hle0 := hB.size
      have hmade' : made.length ≤ 13 := by omega
      by_cases hkp : k ≤ p
      case neg =>
        go_wp2
        go_ret2
        refine ⟨?_, by (repeat (first | with_reducible assumption | with_reducible refine below_drewN ?_ _ | with_reducible refine Below.drew ?_ | with_reducible refine below_alloc ?_ _ | with_reducible refine Below.setCell ?_ (by first | omega | (simp; done) | (simp; omega)) _ | with_reducible refine below_then ?_ (by with_reducible assumption)))⟩
        rw [HL.out, hN.out.1, show p + 1 - k = 0 by omega]
        exact ⟨_, rfl, hM.more hbP.size⟩
      have hqs : 0 < qs.length := by have := hlen.out; omega
      obtain ⟨A1, c1, e1, _, hseg⟩ := hO.seg encR_len
      have hA : A1 = some ⟨g, 0, none⟩ := by injection e1 with e1 _ _; exact e1.symm
      subst hA
      have HE0 := fun W (hW : Below wr.heap.size wr W) => least_any (some ⟨g, 0, none⟩) cap qs W hqs (by have := hlen.out; omega) hN.out.2 ((hseg.below hW).more hW.size)
      have HG0 := fun W (hW : Below wr.heap.size wr W) => greatest_any (some ⟨g, 0, none⟩) cap qs W hqs (by have := hlen.out; omega) hN.out.2 ((hseg.below hW).more hW.size)
      rw [hlen.out] at HE0 HG0
      have HE := Lib.hid HE0
      have HG := Lib.hid HG0
      clear HG0
      have hdlt := minI_lt qs p p1
      have hclt := maxI_lt qs p p1
      have hlenp := hlen.out
      obtain ⟨c0, c1, _, _⟩ := hO.cellsAt encR_len (at0_some (show minI qs p < qs.length by omega)) rfl
      obtain ⟨c2, c3, _, _⟩ := hO.cellsAt encR_len (at0_some (show maxI qs p < qs.length by omega)) rfl
      have hst : stopB qs = (decide (0 ≤ at0 qs (minI qs p)) || decide (at0 qs (maxI qs p) ≤ 0)) := by rw [stopB, hlenp]
      have hamt : amt qs = if -(at0 qs (minI qs p)) < at0 qs (maxI qs p) then -(at0 qs (minI qs p)) else at0 qs (maxI qs p) := by rw [amt, hlenp]
      have hlft : lft qs = at0 qs (minI qs p) + amt qs := by rw [lft, hlenp]
      have hrgt : rgt qs = at0 qs (maxI qs p) - amt qs := by rw [rgt, hlenp]
      have hmv : mvD qs = ⟨minI qs p, maxI qs p, (amt qs).num, (amt qs).den⟩ := by rw [mvD, hlenp]
      have hnx : nxt qs = (qs.set (minI qs p) (lft qs)).set (maxI qs p) (rgt qs) := by rw [nxt, hlenp]
      have hne : stopB qs = false → minI qs p ≠ maxI qs p := fun h => by have := (stop_no h).2.2.2.1; rwa [hlenp] at this
      have HX1 := Lib.hid (at0_some (show minI qs p < qs.length by omega))
      have HX2 := Lib.hid (at0_some (show maxI qs p < qs.length by omega))
      have hix := hN.out.2 _ (at0_mem (show minI qs p < qs.length by omega))
      have hiy := hN.out.2 _ (at0_mem (show maxI qs p < qs.length by omega))
      generalize at0 qs (minI qs p) = x at *
      generalize at0 qs (maxI qs p) = y at *
      generalize minI qs p = d at *
      generalize maxI qs p = m at *
      have bx := inR_bd hix
      have by_ := inR_bd hiy
      have d0 : (0 : Int) ≤ (d : Int) := by omega
      have d1 : (d : Int) < (p : Int) := by omega
      have m0 : (0 : Int) ≤ (m : Int) := by omega
      have m1 : (m : Int) < (p : Int) := by omega
      have hg3 : g < wr.heap.size := by omega
      have HST := Lib.hid hst
      have HAM := Lib.hid (And.intro hamt (And.intro hlft (And.intro hrgt (And.intro hmv (And.intro hnx hne)))))
      have HI := Lib.hid (And.intro hix hiy)
      clear e1 hseg HE0 hlenp hst hamt hlft hrgt hmv hnx hne hix hiy
      by_cases hgo : x.num < 0 ∧ 0 < y.num
      · obtain ⟨hx0, hy0⟩ := hgo
        have hxr : ¬ 0 ≤ x := fun h => by have := Rat.num_nonneg.2 h; omega
        have hS : stopB qs = false := by
          rw [HST.out]
          simp only [Bool.or_eq_false_iff, decide_eq_false_iff_not]
          exact ⟨fun h => by have := Rat.num_nonneg.2 h; omega, fun h => by have := num_le0.2 h; omega⟩
        have HS := Lib.hid hS
        have hdm := HAM.out.2.2.2.2.2 hS
        have HCM0 := fun W => rcmp_any (-x) y W (inR_neg HI.out.1) HI.out.2
        simp only [Rat.neg_num, Rat.neg_den] at HCM0
        have HCM := Lib.hid HCM0
        have dlt := cmp_lt0 (q := -x) (r := y)
        have ham1 := amt_inR hN.out.2 hS
        clear hS HCM0
        go_wp2_with fail
        refine (HE.out _ (Below.refl _ _)).mono ?_
        rintro e wa ⟨rfl, hba⟩
        go_wp2_with fail
        refine (HG.out _ hba).mono ?_
        rintro e wb ⟨rfl, hbb⟩
        have hbw := below_then hba hbb
        obtain ⟨hca, hfa⟩ := bcell hbw
        go_wp2_with fail
        have hle1 := hbw.size
        have gx := hO.below hbw
        obtain ⟨c0, c1, z0, z1⟩ := gx.cellsAt encR_len HX1.out rfl
        obtain ⟨c2, c3, z2, z3⟩ := gx.cellsAt encR_len HX2.out rfl
        have hW1 := wa1 wb (.cells #[.int .i64 y.num, .int .i64 y.den] 34)
        have f0 := (hW1.cell (p := ⟨g, d * 2, none⟩) (by simp; omega)).trans c0
        have f1 := (hW1.cell (p := ⟨g, d * 2 + 1, none⟩) (by simp; omega)).trans c1
        obtain ⟨f2, f3, _, _⟩ := (Blk.new wb 34 #[.int .i64 y.num, .int .i64 y.den]).two
        have rg0 := cell_regrown f0
        have rg1 := cell_regrown f1
        have rg2 := cell_regrown f2
        have rg3 := cell_regrown f3
        refine wp_region_qt [0, 1, 2, 3, 4, 5, 6, 7] [] (by kernel_rfl) (by kernel_rfl) (by repeat (first | with_reducible refine panOk_then ?_ | with_reducible refine panOk_block ?_ | exact panOk_body)) ?_
        simp only [opsAt, List.getElem?_toArray, List.getElem?_cons_succ, List.getElem?_cons_zero, Option.toList_some, List.cons_append, List.nil_append]
        repeat (go_big_quiet_step ((first | (go_at_call 32; exact qt_call (fun W' _ => minus_any x.num x.den W' bx.1 bx.2.1) _ _) | (go_at_call 36; exact qt_call (fun W' _ => HCM.out W') _ _))))
        refine wpQuiet_nil ?_
        intro wc hw2
        have hbwc := qt_world hw2
        clear hw2 rg0 rg1 rg2 rg3
        have gO := (gx.alloc (.cells #[.int .i64 y.num, .int .i64 y.den] 34)).below hbwc
        have gM := ((hM.below hbw).alloc (.cells #[.int .i64 y.num, .int .i64 y.den] 34)).below hbwc
        have gB := (Blk.new wb 34 #[.int .i64 y.num, .int .i64 y.den]).then_ hbwc
        have gBB := below_then (below_alloc (below_then hB hbw) (.cells #[.int .i64 y.num, .int .i64 y.den] 34)) hbwc
        have gs := hbwc.size
        simp at gs
        clear f0 f1 f2 f3 c0 c1 c2 c3 z0 z1 z2 z3 hW1 hca hfa gx
        have gBl := gB.lt
        obtain ⟨hamt, hlft, hrgt, hmv, hnx, _⟩ := HAM.out
        have HA := Lib.hid hamt
        have HR := Lib.hid (And.intro hlft (And.intro hrgt (And.intro hmv hnx)))
        have ham2 := amt_pos HS.out
        clear hamt hlft hrgt hmv hnx
        go_upto_if 61 with (fail)
        go_cut [] from 26 to 106 (fun X => Own X w.heap.size 34 2 encR (.slice (some ⟨g, 0, none⟩) p cap) qs ∧ Own X w1.heap.size 38 4 encD u8 made ∧ Blk X wb.heap.size 34 #[.int .i64 (amt qs).num, .int .i64 (amt qs).den] ∧ Below w.heap.size w X ∧ w1.heap.size ≤ X.heap.size)
        case first =>
          have hgb : g < wb.heap.size := by omega
          by_cases hlt : -x < y
          · have hA := HA.out
            rw [if_pos hlt] at hA
            have E12 := Lib.hid (show (amt qs).num = -x.num ∧ ((amt qs).den : Int) = x.den from by rw [hA]; exact ⟨rfl, rfl⟩)
            obtain ⟨c0, c1, z0, z1⟩ := gO.cellsAt encR_len HX1.out rfl
            clear hA dlt
            go_wp2_with (go_at_call 32; refine (minus_any x.num x.den _ bx.1 bx.2.1).mono ?_; rintro e wd ⟨rfl, hbd⟩; obtain ⟨q0, q1, q2, q3⟩ := (gB.then_ hbd).two; have hld := hbd.size)
            go_meet
            case rel => exact ⟨(gO.below hbd).boxNe (by omega), (gM.below hbd).box (gB.then_ hbd) (by decide), by rw [E12.out.1, E12.out.2]; exact (gB.then_ hbd).boxed, below_box (below_then gBB hbd) (by omega), by simp; omega⟩
          · have hA := HA.out
            rw [if_neg hlt] at hA
            have E12 := Lib.hid (show (amt qs).num = y.num ∧ ((amt qs).den : Int) = y.den from by rw [hA]; exact ⟨rfl, rfl⟩)
            clear hA dlt
            go_wp2_with fail
            go_meet
            case rel => exact ⟨gO, gM, by rw [E12.out.1, E12.out.2]; exact gB, gBB, by omega⟩
        case rest =>
          obtain ⟨gO1, gM1, gB1, gBB1, gs1⟩ := hcut
          clear gO gM gB gBB gs gBl hbwc dlt HCM
          obtain ⟨c0, c1, z0, z1⟩ := gO1.cellsAt encR_len HX1.out rfl
          obtain ⟨k0, k1, _, _⟩ := gB1.two
          have HAD := Lib.hid (fun W => by have := radd_of x (amt qs) W HI.out.1 ham1 rfl rfl rfl rfl; rwa [← HR.out.1] at this)
          go_upto_region 15 with (fail)
          have hgB : g < wb.heap.size := by omega
          refine wp_region_qa (T := 34) (zs := #[.int .i64 0, .int .i64 0]) [0, 1, 2, 3, 4, 5, 6] [7, 8] [10, 11] 9 13 (by kernel_rfl) (by kernel_rfl) (by repeat (first | with_reducible refine panOk_then ?_ | with_reducible refine panOk_block ?_ | exact panOk_body)) (fun _ _ => by rfl) ?_
          apply Exists.intro
          refine ⟨?_, ?_⟩
          · intro S gS hGS
            haveI := hGS.2.2
            have rg0 := cell_cls hGS c0
            have rg1 := cell_cls hGS c1
            have rg2 := cell_cls hGS k0
            have rg3 := cell_cls hGS k1
            unfold cls
            simp only [opsAt, List.getElem?_toArray, List.getElem?_cons_succ, List.getElem?_cons_zero, Option.toList_some, List.cons_append, List.nil_append]
            repeat (go_big_quiet_step ((go_at_call 37; exact qa_call hGS (fun W' _ => HAD.out W') _)))
            refine wpQuiet_nil ?_
            exact rfl
          intro la we hla hbwe gla
          simp only [opsAt, List.getElem?_toArray, List.getElem?_cons_succ, List.getElem?_cons_zero, Option.toList_some, List.cons_append, List.nil_append, Act.put, List.setIfInBounds_toArray, List.set_cons_succ, List.set_cons_zero]
          obtain ⟨y0, y1, y2, y3⟩ := gla.two
          have hgla : g < la := by have := hbw.size; have := gB1.lt; omega
          have hbla : wb.heap.size < la := by have := gB1.lt; omega
          go_upto_region 16 with (fail)
          refine name_wp ?_
          intro X hX
          have gO2 : Own X w.heap.size 34 2 encR (.slice (some ⟨g, 0, none⟩) p cap) qs := by rw [hX]; exact (gO1.below hbwe).boxNe (by omega)
          have gM2 : Own X w1.heap.size 38 4 encD u8 made := by rw [hX]; exact (gM1.below hbwe).box gla (by decide)
          have gB2 : Blk X wb.heap.size 34 #[.int .i64 (amt qs).num, .int .i64 (amt qs).den] := by rw [hX]; exact (gB1.then_ hbwe).box (by omega)
          have gL2 : Blk X la 34 #[.int .i64 (oN (lft qs)), .int .i64 (oD (lft qs))] := by rw [hX]; exact gla.boxed
          have gBB2 : Below w.heap.size w X := by rw [hX]; exact below_box (below_then gBB1 hbwe) (by have := gBB1.size; omega)
          have gs2 : wc.heap.size ≤ X.heap.size := by have := hbwe.size; rw [hX]; simp; omega
          clear hX y0 y1 y2 y3 gla hbwe gO1 gM1 gB1 gBB1 c0 c1 z0 z1 k0 k1 HAD
          obtain ⟨c0, c1, z0, z1⟩ := gO2.cellsAt encR_len HX2.out rfl
          obtain ⟨k0, k1, _, _⟩ := gB2.two
          have ba := inR_bd ham1
          have HSD := Lib.hid (fun W => by have := radd_of (n2 := -(amt qs).num) y (-(amt qs)) W HI.out.2 (inR_neg ham1) rfl rfl (by rw [Rat.neg_num]) (by rw [Rat.neg_den]); rwa [← Rat.sub_eq_add_neg, ← HR.out.2.1] at this)
          refine wp_region_qa (T := 34) (zs := #[.int .i64 0, .int .i64 0]) [0, 1, 2, 3, 4, 5, 6, 7] [8, 9] [11, 12] 10 15 (by kernel_rfl) (by kernel_rfl) (by repeat (first | with_reducible refine panOk_then ?_ | with_reducible refine panOk_block ?_ | exact panOk_body)) (fun _ _ => by rfl) ?_
          apply Exists.intro
          refine ⟨?_, ?_⟩
          · intro S gS hGS
            haveI := hGS.2.2
            have rg0 := cell_cls hGS c0
            have rg1 := cell_cls hGS c1
            have rg2 := cell_cls hGS k0
            have rg3 := cell_cls hGS k1
            unfold cls
            simp only [opsAt, List.getElem?_toArray, List.getElem?_cons_succ, List.getElem?_cons_zero, Option.toList_some, List.cons_append, List.nil_append]
            repeat (go_big_quiet_step ((first | (go_at_call 32; exact qa_call hGS (fun W' _ => minus_any _ _ W' ba.1 ba.2.1) _) | (go_at_call 37; exact qa_call hGS (fun W' _ => HSD.out W') _))))
            refine wpQuiet_nil ?_
            exact rfl
          intro ra wf hra hbwf gra
          simp only [opsAt, List.getElem?_toArray, List.getElem?_cons_succ, List.getElem?_cons_zero, Option.toList_some, List.cons_append, List.nil_append, Act.put, List.setIfInBounds_toArray, List.set_cons_succ, List.set_cons_zero]
          obtain ⟨y0, y1, y2, y3⟩ := gra.two
          have hgra : g < ra := by have := gB2.lt; omega
          have hbra : wb.heap.size < ra := by have := gB2.lt; omega
          have hlra : la < ra := by have := gL2.lt; omega
          go_upto_region 17 with (fail)
          refine name_wp ?_
          intro Y hY
          have gO3 : Own Y w.heap.size 34 2 encR (.slice (some ⟨g, 0, none⟩) p cap) qs := by rw [hY]; exact (gO2.below hbwf).boxNe (by omega)
          have gM3 : Own Y w1.heap.size 38 4 encD u8 made := by rw [hY]; exact (gM2.below hbwf).box gra (by decide)
          have gB3 : Blk Y wb.heap.size 34 #[.int .i64 (amt qs).num, .int .i64 (amt qs).den] := by rw [hY]; exact (gB2.then_ hbwf).box (by omega)
          have gL3 : Blk Y la 34 #[.int .i64 (oN (lft qs)), .int .i64 (oD (lft qs))] := by rw [hY]; exact (gL2.then_ hbwf).box (by omega)
          have gR3 : Blk Y ra 34 #[.int .i64 (oN (rgt qs)), .int .i64 (oD (rgt qs))] := by rw [hY]; exact gra.boxed
          have gBB3 : Below w.heap.size w Y := by rw [hY]; exact below_box (below_then gBB2 hbwf) (by have := gBB2.size; omega)
          have gs3 : X.heap.size ≤ Y.heap.size := by have := hbwf.size; rw [hY]; simp; omega
          clear hY y0 y1 y2 y3 gra hbwf gO2 gM2 gB2 gL2 gBB2 c0 c1 z0 z1 k0 k1 HSD
          by_cases h1 : inR (lft qs) = true ∧ inR (rgt qs) = true
          · obtain ⟨h1, h2⟩ := h1
            rw [oE_yes h1, oE_yes h2]
            obtain ⟨c0, c1, z0, z1⟩ := gO3.cellsAt encR_len HX1.out rfl
            obtain ⟨k0, k1, _, _⟩ := gL3.two
            have hgl : g < Y.heap.size := by have := gL3.lt; omega
            go_upto_region 20 with (fail)
            refine name_wp ?_
            intro Z hZ
            have gO4 : Own Z w.heap.size 34 2 encR (.slice (some ⟨g, 0, none⟩) p cap) (qs.set d (lft qs)) := by rw [hZ]; exact gO3.set2 encR_len hlen.out (k := d) (by omega) (encR_o h1)
            have gM4 : Own Z w1.heap.size 38 4 encD u8 made := by rw [hZ]; exact (gM3.setNe (p := ⟨g, d * 2, none⟩) (gM3.ne' hg2) _).setNe (p := ⟨g, d * 2 + 1, none⟩) (gM3.ne' hg2) _
            have gB4 : Blk Z wb.heap.size 34 #[.int .i64 (amt qs).num, .int .i64 (amt qs).den] := by rw [hZ]; exact (gB3.far (p := ⟨g, d * 2, none⟩) (by simp; omega) _).far (p := ⟨g, d * 2 + 1, none⟩) (by simp; omega) _
            have gR4 : Blk Z ra 34 #[.int .i64 (oN (rgt qs)), .int .i64 (oD (rgt qs))] := by rw [hZ]; exact (gR3.far (p := ⟨g, d * 2, none⟩) (by simp; omega) _).far (p := ⟨g, d * 2 + 1, none⟩) (by simp; omega) _
            have gBB4 : Below w.heap.size w Z := by rw [hZ]; exact (gBB3.setCell (p := ⟨g, d * 2, none⟩) hg1 _).setCell (p := ⟨g, d * 2 + 1, none⟩) hg1 _
            have gs4 : Y.heap.size ≤ Z.heap.size := by rw [hZ]; simp
            clear hZ gO3 gM3 gB3 gL3 gR3 gBB3 c0 c1 z0 z1 k0 k1
            obtain ⟨c0, c1, z0, z1⟩ := gO4.cellsAt encR_len (show (qs.set d (lft qs))[m]? = some y from by rw [List.getElem?_set_ne hdm]; exact HX2.out) rfl
            obtain ⟨k0, k1, _, _⟩ := gR4.two
            go_upto_region 21 with (fail)
            refine name_wp ?_
            intro V hV
            have gO5 : Own V w.heap.size 34 2 encR (.slice (some ⟨g, 0, none⟩) p cap) (nxt qs) := by rw [hV, HR.out.2.2.2]; exact gO4.set2 encR_len (by simp; exact hlen.out) (k := m) (by omega) (encR_o h2)
            have gM5 : Own V w1.heap.size 38 4 encD u8 made := by rw [hV]; exact (gM4.setNe (p := ⟨g, m * 2, none⟩) (gM4.ne' hg2) _).setNe (p := ⟨g, m * 2 + 1, none⟩) (gM4.ne' hg2) _
            have gB5 : Blk V wb.heap.size 34 #[.int .i64 (amt qs).num, .int .i64 (amt qs).den] := by rw [hV]; exact (gB4.far (p := ⟨g, m * 2, none⟩) (by simp; omega) _).far (p := ⟨g, m * 2 + 1, none⟩) (by simp; omega) _
            have gBB5 : Below w.heap.size w V := by rw [hV]; exact (gBB4.setCell (p := ⟨g, m * 2, none⟩) hg1 _).setCell (p := ⟨g, m * 2 + 1, none⟩) hg1 _
            have gs5 : Z.heap.size ≤ V.heap.size := by rw [hV]; simp
            clear hV gO4 gM4 gB4 gR4 gBB4 c0 c1 z0 z1 k0 k1
            obtain ⟨k0, k1, _, _⟩ := gB5.two
            have HO := Lib.hid gO5
            have HSZ := Lib.hid (And.intro gs1 (And.intro gs2 (And.intro gs3 (And.intro gs4 gs5))))
            clear gO5
            go_wp2_with (at_builtin; go_loud (refine wpList_app _ rfl (.tmp 100) (.tmp 105) _ rfl w1.heap.size 38 i0 _ 4 32 Try.underlying22 hi hz0 hz1 hz2 rfl (by omega) (by omega) encD encD_len encD_one _ made rfl (gM5.alloc _) (by omega) V.heap.size 1 ⟨d, m, (amt qs).num, (amt qs).den⟩ rfl (by have := Blk.new V 38 #[.int .i64 d, .int .i64 m, .int .i64 (amt qs).num, .int .i64 (amt qs).den]; simpa [encD] using this) (by simp; omega) ?_); intro v5 w5 hO5 hb5 hg5)
            go_roundw
            case rel =>
              refine ⟨k + 1, nxt qs, made ++ [mvD qs], by omega, by go_num, ⟨?_, nxt_inR hN.out.2 h1 h2⟩, (nxt_len qs).trans hlen.out, by simp; omega, ?_, ?_, ?_, ?_⟩
              · rw [hN.out.1, show p + 1 - k = (p + 1 - (k + 1)) + 1 by omega, netF_step HS.out h1 h2]
              · exact (HO.out.alloc _).keepB hb5 (by intro k hk; cases hk; have := HSZ.out; simp; omega)
              · rw [HR.out.2.2.1]; exact hO5
              · exact (below_alloc gBB5 _).trans (hb5.mono hbP.size)
              · have := HSZ.out; have := hb5.size; simp at this; omega
            case measure => simp [intOf]; omega
          · have HB := Lib.hid (netF_bad (made := made) (f := p - k) HS.out (by cases h2 : inR (lft qs) <;> simp_all))
            have hc : (oE (lft qs) != 0) = true ∨ ((oE (lft qs) != 0) = false ∧ (oE (rgt qs) != 0) = true) := by
              cases h2 : inR (lft qs) with
              | false => left; rw [oE_no h2]; rfl
              | true =>
                right
                cases h3 : inR (rgt qs) with
                | false => rw [oE_no h3, oE_yes h2]; exact ⟨rfl, rfl⟩
                | true => exact absurd ⟨h2, h3⟩ h1
            clear h1
            rcases hc with hc | ⟨hc, hc'⟩
            all_goals
              go_wp2_with fail
              go_ret2
              refine ⟨?_, gBB3⟩
              rw [HL.out, hN.out.1, show p + 1 - k = (p - k) + 1 by omega, HB.out]
              rfl
      · have hS : stopB qs = true := by
          rw [HST.out]
          simp only [Bool.or_eq_true, decide_eq_true_eq]
          by_cases h : x.num < 0
          · exact .inr (num_le0.1 (by omega))
          · exact .inl (Rat.num_nonneg.1 (by omega))
        have HS := Lib.hid hS
        have hc : 0 ≤ x ∨ (¬ 0 ≤ x ∧ y.num ≤ 0) := by
          by_cases h : 0 ≤ x
          · exact .inl h
          · refine .inr ⟨h, ?_⟩
            have : ¬ 0 ≤ x.num := fun h2 => h (Rat.num_nonneg.1 h2)
            omega
        clear hgo hS
        rcases hc with h | ⟨h, h'⟩
        all_goals
          go_wp2_with fail
          refine (HE.out _ (Below.refl _ _)).mono ?_
          rintro e wa ⟨rfl, hba⟩
          go_wp2_with fail
          refine (HG.out _ hba).mono ?_
          rintro e wb ⟨rfl, hbb⟩
          have hbw := below_then hba hbb
          obtain ⟨hca, hfa⟩ := bcell hbw
          go_wp2_with fail
          all_goals
            go_ret2
            refine ⟨?_, by (repeat (first | with_reducible assumption | with_reducible refine below_drewN ?_ _ | with_reducible refine Below.drew ?_ | with_reducible refine below_alloc ?_ _ | with_reducible refine Below.setCell ?_ (by first | omega | (simp; done) | (simp; omega)) _ | with_reducible refine below_then ?_ (by with_reducible assumption)))⟩
            rw [HL.out, hN.out.1, show p + 1 - k = (p - k) + 1 by omega, netF_stop HS.out]
            exact ⟨_, rfl, (hM.below hbw).more hbP.size⟩
end Go.Proofs.Ythgbdpiihdhfiaa
