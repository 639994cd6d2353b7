/- The walk of netting.Net. -/
import Derived.Test.YthgbdpiihdhfiaaN11
import Derived.Test.YthgbdpiihdhfiaaN10
import Derived.Test.YthgbdpiihdhfiaaOwn2
import Derived.Deep.RegionWith
namespace Go.Proofs.Ythgbdpiihdhfiaa
open Go.RowKit Go.Sort

theorem sub_of {n1 d1 n2 d2 : Int} (q r : Rat) (w : World) (hq : inR q = true) (hr : inR r = true) (e1 : q.num = n1) (e2 : (q.den : Int) = d1) (e3 : r.num = n2) (e4 : (r.den : Int) = d2) :
    Calls Try.prog 34 #[.agg #[.int .i64 n1, .int .i64 d1], .agg #[.int .i64 n2, .int .i64 d2]] w fun e w' =>
      e = .returned (.tuple #[.agg #[.int .i64 (oN (q - r)), .int .i64 (oD (q - r))], .int .i64 (oE (q - r))]) ∧ Below w.heap.size w w' := by
  subst e1 e2 e3 e4; exact sub_any q r w hq hr
/-- the netting of what the debts come to -/
def netL (l : List Db) (p : Nat) : Option (List Db) := (posF l p).bind fun qs => netF (p + 1) qs []
theorem oE_zero {q : Rat} (h : oE q = 0) : inR q = true := by
  unfold oE at h; split at h
  · assumption
  · omega
theorem oE_nonzero {q : Rat} (h : ¬ oE q = 0) : inR q = false := by
  unfold oE at h; split at h
  · exact absurd rfl h
  · rename_i h1; simpa using h1
theorem encR_o {q : Rat} (h : inR q = true) : encR q = [.int .i64 (oN q), .int .i64 (oD q)] := by rw [oN_yes h, oD_yes h]; rfl
theorem num_le0 {q : Rat} : q.num ≤ 0 ↔ q ≤ 0 := by
  have h := Rat.num_nonneg (q := -q)
  rw [Rat.neg_num] at h
  constructor
  · intro h1; have := h.1 (by omega); grind
  · intro h1; have := h.2 (by grind); omega
theorem posF_inR {l : List Db} : ∀ {k : Nat} {qs : List Rat}, posF l k = some qs → ∀ q ∈ qs, inR q = true
  | 0, qs, h => by simp only [posF, Option.some.injEq] at h; subst h; simp
  | k + 1, qs, h => by
    simp only [posF] at h
    split at h
    · cases h
    · rename_i qs' h'
      split at h
      · rename_i s hs
        simp only [Option.some.injEq] at h
        subst h
        intro q hq
        rcases List.mem_append.1 hq with hq | hq
        · exact posF_inR h' q hq
        · rw [List.mem_singleton] at hq; subst hq; exact totF_inR hs
      · cases h

theorem Own.ne' {α : Type} {w : World} {B : Nat} {T : TypeId} {size : Nat} {enc : α → List Value} {v : Value} {xs : List α} (h : Own w B T size enc v xs) {g : Nat} (hg : g < B) : ∀ k, v.ownBlock = some k → k ≠ g := by
  intro k hk
  rcases h.2 with ⟨h1, h2⟩ | ⟨g', _, _, h1, hg', _⟩
  · rw [h1] at hk; cases hk
  · rw [h1] at hk; cases hk; show g' ≠ g; omega

theorem Own.drew_ {α : Type} {w : World} {B : Nat} {T : TypeId} {size : Nat} {enc : α → List Value} {v : Value} {xs : List α} (h : Own w B T size enc v xs) : Own w.drew B T size enc v xs := h

set_option maxRecDepth 100000 in
set_option maxHeartbeats 6400000 in
/-- netting.Net at valid debts -/
theorem net_any (p : Nat) (A : Option Addr) (c : Nat) (l : List Db) (w : World) (hv : validD p l = true)
    (hf : ∀ x ∈ l, fitD x) (hm : Seg w w.heap.size 4 encD A l) :
    Calls Try.prog 14 #[.int .i64 p, .slice A l.length c] w fun e w' => LstP (netL l p) w w' e ∧ Below w.heap.size w w' := by
  obtain ⟨i0, hi, hz0, hz1, hz2⟩ := info_parts infoD
  have HP := positions_any p A c l w hv hf hm
  have hp : 1 ≤ p ∧ p ≤ 12 := by
    simp only [validD, Bool.and_eq_true, decide_eq_true_eq] at hv
    omega
  obtain ⟨p1, p2⟩ := hp
  cases hpos : posF l p with
  | none =>
    have HL := Lib.hid (show netL l p = none by rw [netL, hpos]; rfl)
    rw [hpos] at HP
    have HPH := Lib.hid HP
    clear HP hpos hm hf hv
    go_enter Try.func14, Try.ntmps14
    go_wp2_with (go_at_call 10; refine HPH.out.mono ?_; rintro e w1 ⟨he, hb⟩; obtain rfl : e = _ := he)
    go_ret2
    exact ⟨by rw [HL.out]; rfl, hb⟩
  | some qs0 =>
    have HL := Lib.hid (show netL l p = netF (p + 1) qs0 [] by rw [netL, hpos]; rfl)
    have hlen0 := posF_len hpos
    have hin0 := posF_inR hpos
    rw [hpos] at HP
    have HPH := Lib.hid HP
    clear HP hpos hm hf hv
    go_enter Try.func14, Try.ntmps14
    go_wp2_with (go_at_call 10; refine HPH.out.mono ?_; rintro e w1 ⟨⟨v, rfl, hO0⟩, hbP⟩; obtain ⟨g, cap, rfl, hg1, hg2⟩ := World.ownsRow.form hO0 (by omega); rw [hlen0])
    rw [hlen0] at hO0
    go_loopw [8] (fun v wr => ∃ (f : Nat) (qs : List Rat) (made : List Db), Hid (netF (p + 1) qs0 [] = netF f qs made ∧ nz qs < f ∧ (∀ q ∈ qs, inR q = true)) ∧ Hid (qs.length = p) ∧ made.length + nz qs ≤ p ∧ Own wr w.heap.size 34 2 encR (.slice (some ⟨g, 0, none⟩) p cap) qs ∧ Own wr w1.heap.size 38 4 encD v made ∧ Below w.heap.size w wr ∧ w1.heap.size ≤ wr.heap.size) (fun v _ => 20 - lenV v)
    case atStart => exact ⟨p + 1, qs0, [], ⟨rfl, by have := nz_le qs0; omega, hin0⟩, hlen0, by have := nz_le qs0; simp; omega, hO0, Own.nil .., hbP, Nat.le_refl _⟩
    case round =>
      obtain ⟨f, qs, made, hN, hlen, hmade, hO, hM, hB, hle⟩ := hrel
      clear hlen0 hin0 hO0
      have hle0 := hB.size
      have hmade' : made.length ≤ 12 := by omega
      have hqs : 0 < qs.length := by have := hlen.out; omega
      obtain ⟨A1, c1, e1, _, hseg⟩ := hO.seg encR_len
      have hA : A1 = some ⟨g, 0, none⟩ := by injection e1 with e1 _ _; exact e1.symm
      subst hA
      have HE0 := fun W (hW : Below wr.heap.size wr W) => extremes_any (some ⟨g, 0, none⟩) cap qs W hqs (by have := hlen.out; omega) hN.out.2.2 ((hseg.below hW).more hW.size)
      rw [hlen.out] at HE0
      have HE := Lib.hid HE0
      have hdlt := minI_lt qs p p1
      have hclt := maxI_lt qs p p1
      have hlenp := hlen.out
      obtain ⟨c0, c1, _, _⟩ := hO.cellsAt encR_len (at0_some (show minI qs p < qs.length by omega)) rfl
      obtain ⟨c2, c3, _, _⟩ := hO.cellsAt encR_len (at0_some (show maxI qs p < qs.length by omega)) rfl
      have hst : stopB qs = (decide (0 ≤ at0 qs (minI qs p)) || decide (at0 qs (maxI qs p) ≤ 0)) := by rw [stopB, hlenp]
      have hamt : amt qs = if -(at0 qs (minI qs p)) < at0 qs (maxI qs p) then -(at0 qs (minI qs p)) else at0 qs (maxI qs p) := by rw [amt, hlenp]
      have hlft : lft qs = at0 qs (minI qs p) + amt qs := by rw [lft, hlenp]
      have hrgt : rgt qs = at0 qs (maxI qs p) - amt qs := by rw [rgt, hlenp]
      have hmv : mvD qs = ⟨minI qs p, maxI qs p, (amt qs).num, (amt qs).den⟩ := by rw [mvD, hlenp]
      have hnx : nxt qs = (qs.set (minI qs p) (lft qs)).set (maxI qs p) (rgt qs) := by rw [nxt, hlenp]
      have hne : stopB qs = false → minI qs p ≠ maxI qs p := fun h => by have := (stop_no h).2.2.2.1; rwa [hlenp] at this
      have HX1 := Lib.hid (at0_some (show minI qs p < qs.length by omega))
      have HX2 := Lib.hid (at0_some (show maxI qs p < qs.length by omega))
      have hix := hN.out.2.2 _ (at0_mem (show minI qs p < qs.length by omega))
      have hiy := hN.out.2.2 _ (at0_mem (show maxI qs p < qs.length by omega))
      generalize at0 qs (minI qs p) = x at *
      generalize at0 qs (maxI qs p) = y at *
      generalize minI qs p = d at *
      generalize maxI qs p = m at *
      have bx := inR_bd hix
      have by_ := inR_bd hiy
      have d0 : (0 : Int) ≤ (d : Int) := by omega
      have d1 : (d : Int) < (p : Int) := by omega
      have m0 : (0 : Int) ≤ (m : Int) := by omega
      have m1 : (m : Int) < (p : Int) := by omega
      have hg3 : g < wr.heap.size := by omega
      have HST := Lib.hid hst
      have HAM := Lib.hid (And.intro hamt (And.intro hlft (And.intro hrgt (And.intro hmv (And.intro hnx hne)))))
      have HI := Lib.hid (And.intro hix hiy)
      clear e1 hseg HE0 hlenp hst hamt hlft hrgt hmv hnx hne hix hiy
      by_cases hgo : x.num < 0 ∧ 0 < y.num
      · obtain ⟨hx0, hy0⟩ := hgo
        have hxr : ¬ 0 ≤ x := fun h => by have := Rat.num_nonneg.2 h; omega
        have hS : stopB qs = false := by
          rw [HST.out]
          simp only [Bool.or_eq_false_iff, decide_eq_false_iff_not]
          exact ⟨fun h => by have := Rat.num_nonneg.2 h; omega, fun h => by have := num_le0.2 h; omega⟩
        have HS := Lib.hid hS
        have hdm := HAM.out.2.2.2.2.2 hS
        have HCM0 := fun W => cmp_any (-x) y W (inR_neg HI.out.1) HI.out.2
        simp only [Rat.neg_num, Rat.neg_den] at HCM0
        have HCM := Lib.hid HCM0
        have dlt := cmp_lt0 (q := -x) (r := y)
        obtain ⟨hamt, hlft, hrgt, hmv, hnx, _⟩ := HAM.out
        have ham1 := amt_inR hN.out.2.2 hS
        have ham2 := amt_pos hS
        clear hS HCM0
        by_cases hlt : -x < y
        · rw [if_pos hlt] at hamt
          simp only [hlt, decide_true, decide_eq_true_eq] at dlt
          have HA := Lib.hid hamt
          have HR := Lib.hid (And.intro hlft (And.intro hrgt (And.intro hmv hnx)))
          clear hlt hamt hlft hrgt hmv hnx ham2
          go_wp2_with (go_at_call 33; refine (HE.out _ (Below.refl _ _)).mono ?_; rintro e wa ⟨rfl, hba⟩; obtain ⟨hca, hfa⟩ := bcell hba)
          have hle1 := hba.size
          have gx := hO.below hba
          obtain ⟨c0, c1, z0, z1⟩ := gx.cellsAt encR_len HX1.out rfl
          obtain ⟨c2, c3, z2, z3⟩ := gx.cellsAt encR_len HX2.out rfl
          have hW1 := wa1 wa (.cells #[.int .i64 y.num, .int .i64 y.den] 34)
          have f0 := (hW1.cell (p := ⟨g, d * 2, none⟩) (by simp; omega)).trans c0
          have f1 := (hW1.cell (p := ⟨g, d * 2 + 1, none⟩) (by simp; omega)).trans c1
          obtain ⟨f2, f3, _, _⟩ := (Blk.new wa 34 #[.int .i64 y.num, .int .i64 y.den]).two
          have rg0 := cell_regrown f0
          have rg1 := cell_regrown f1
          have rg2 := cell_regrown f2
          have rg3 := cell_regrown f3
          refine wp_region_qt [0, 1, 2, 3, 4, 5, 6, 7] [] (by kernel_rfl) (by kernel_rfl) (by repeat (first | with_reducible refine panOk_then ?_ | with_reducible refine panOk_block ?_ | exact panOk_body)) ?_
          simp only [opsAt, List.getElem?_toArray, List.getElem?_cons_succ, List.getElem?_cons_zero, Option.toList_some, List.cons_append, List.nil_append]
          repeat (go_big_quiet_step ((first | (go_at_call 30; exact qt_call (fun W' _ => opp_any x.num x.den W' bx.1 bx.2.1) _ _) | (go_at_call 24; exact qt_call (fun W' _ => HCM.out W') _ _))))
          refine wpQuiet_nil ?_
          intro w2 hw2
          have hb := qt_world hw2
          clear hw2 rg0 rg1 rg2 rg3
          have gO := (gx.alloc (.cells #[.int .i64 y.num, .int .i64 y.den] 34)).below hb
          have gM := ((hM.below hba).alloc (.cells #[.int .i64 y.num, .int .i64 y.den] 34)).below hb
          have gB := (Blk.new wa 34 #[.int .i64 y.num, .int .i64 y.den]).then_ hb
          have gBB := below_then (below_alloc (below_then hB hba) (.cells #[.int .i64 y.num, .int .i64 y.den] 34)) hb
          have gs := hb.size
          simp at gs
          clear f0 f1 f2 f3 c0 c1 c2 c3 z0 z1 z2 z3 hW1 hca hfa gx
          obtain ⟨c0, c1, z0, z1⟩ := gO.cellsAt encR_len HX1.out rfl
          have gBl := gB.lt
          go_wp2_with (first | (go_at_call 30; refine (opp_any x.num x.den _ bx.1 bx.2.1).mono ?_; rintro e wc ⟨rfl, hbc⟩; obtain ⟨q0, q1, q2, q3⟩ := (gB.then_ hbc).two; have hlc := hbc.size) | (at_builtin; go_loud (refine wpList_app _ rfl (.tmp 58) (.tmp 63) _ rfl w1.heap.size 38 i0 _ 4 32 Try.underlying22 hi hz0 hz1 hz2 rfl (by omega) (by omega) encD encD_len encD_one _ made rfl ((((gM.below hbc).setOther (p := ⟨wa.heap.size, 0, none⟩) (gB.then_ hbc) (by decide) _).setOther (p := ⟨wa.heap.size, 1, none⟩) ((gB.then_ hbc).set_ 0 _) (by decide) _).alloc _) (by omega) wc.heap.size 1 ⟨d, m, -x.num, x.den⟩ rfl (by have := Blk.new ((wc.setCell ⟨wa.heap.size, 0, none⟩ (.int .i64 (-x.num))).setCell ⟨wa.heap.size, 1, none⟩ (.int .i64 x.den)) 38 #[.int .i64 d, .int .i64 m, .int .i64 (-x.num), .int .i64 x.den]; simpa [encD] using this) (by simp; omega) ?_); intro v5 w5 hO5 hb5 hg5))
          have K2 : Blk (((wc.setCell ⟨wa.heap.size, 0, none⟩ (.int .i64 (-x.num))).setCell ⟨wa.heap.size, 1, none⟩ (.int .i64 x.den)).alloc (.cells #[.int .i64 d, .int .i64 m, .int .i64 (-x.num), .int .i64 x.den] 38)) wa.heap.size 34 #[.int .i64 (-x.num), .int .i64 x.den] := by (repeat (first | with_reducible assumption | with_reducible refine Blk.alloc ?_ _ | with_reducible refine Blk.drewN ?_ _ | with_reducible apply Blk.setT0 | with_reducible apply Blk.setT1 | with_reducible refine Blk.far ?_ (by first | (simp; done) | omega | (simp; omega)) _ | with_reducible refine Blk.then_ ?_ (by with_reducible assumption)))
          have F1 := ((((gO.below hbc).setNe (p := ⟨wa.heap.size, 0, none⟩) (by intro k hk; cases hk; simp; omega) (.int .i64 (-x.num))).setNe (p := ⟨wa.heap.size, 1, none⟩) (by intro k hk; cases hk; simp; omega) (.int .i64 x.den)).alloc (.cells #[.int .i64 d, .int .i64 m, .int .i64 (-x.num), .int .i64 x.den] 38)).keepB hb5 (by intro k hk; cases hk; omega)
          have F3 := (grown_cell hM hg5 0 (by omega) (by first | (simp; done) | (simp; omega))).trans K2.two.1
          have F4 := (grown_cell hM hg5 1 (by omega) (by first | (simp; done) | (simp; omega))).trans K2.two.2.1
          have F5 : Below w.heap.size w w5 := (by (repeat (first | with_reducible assumption | with_reducible refine below_drewN ?_ _ | with_reducible refine Below.drew ?_ | with_reducible refine below_alloc ?_ _ | with_reducible refine Below.setCell ?_ (by first | omega | (simp; done) | (simp; omega)) _ | with_reducible refine below_then ?_ (by with_reducible assumption))) : Below w.heap.size w (((wc.setCell ⟨wa.heap.size, 0, none⟩ (.int .i64 (-x.num))).setCell ⟨wa.heap.size, 1, none⟩ (.int .i64 x.den)).alloc (.cells #[.int .i64 d, .int .i64 m, .int .i64 (-x.num), .int .i64 x.den] 38))).trans (hb5.mono hbP.size)
          have F6 := hb5.size
          simp at F6
          have e1 : (amt qs).num = -x.num := by rw [HA.out]; rfl
          have e2 : ((amt qs).den : Int) = x.den := by rw [HA.out]; rfl
          have e3 : mvD qs = ⟨d, m, -x.num, x.den⟩ := by rw [HR.out.2.2.1, e1, e2]
          have F2 : Own w5 w1.heap.size 38 4 encD v5 (made ++ [mvD qs]) := by rw [e3]; exact hO5
          have HAD := Lib.hid (fun W => by have := add_of x (amt qs) W HI.out.1 ham1 rfl rfl e1 e2; rwa [← HR.out.1] at this)
          have HSD := Lib.hid (fun W => by have := sub_of y (amt qs) W HI.out.2 ham1 rfl rfl e1 e2; rwa [← HR.out.2.1] at this)
          have F1d : Own w5.drew w.heap.size 34 2 encR (.slice (some ⟨g, 0, none⟩) p cap) qs := F1
          obtain ⟨c0, c1, z0, z1⟩ := F1.cellsAt encR_len HX1.out rfl
          have hg5l : g < w5.heap.size := by omega
          have hwa5 : wa.heap.size < w5.heap.size := by omega
          clear F1 gO gM gB K2 hO5 hb5 hg5 q0 q1 q2 q3 HCM dlt hba
          go_region_with ((go_at_call 20; refine (HAD.out _).mono ?_; rintro e we ⟨rfl, hbe⟩; have gOe := F1d.below hbe; obtain ⟨y0, y1, y2, y3⟩ := gOe.cellsAt encR_len HX1.out rfl))
          all_goals go_wp2_with fail
          all_goals first
            | (have ho : (oE (lft qs) != 0) = true := by assumption
               have hin1 := oE_nonzero (q := lft qs) (by simpa using ho)
               go_ret2
               refine ⟨?_, by (repeat (first | with_reducible assumption | with_reducible refine below_drewN ?_ _ | with_reducible refine Below.drew ?_ | with_reducible refine below_alloc ?_ _ | with_reducible refine Below.setCell ?_ (by first | omega | (simp; done) | (simp; omega)) _ | with_reducible refine below_then ?_ (by with_reducible assumption) | (refine below_then (a := World.drew _) ?_ (by with_reducible assumption))))⟩
               rw [HL.out, hN.out.1, show f = f - 1 + 1 by have := hN.out.2.1; omega, netF_bad HS.out (.inl hin1), oE_no hin1]
               rfl)
            | (have ho : (oE (lft qs) != 0) = false := by assumption
               have hin1 := oE_zero (q := lft qs) (by simpa using ho)
               have gO6 := gOe.set2 encR_len hlen.out (k := d) (by omega) (encR_o hin1)
               obtain ⟨u0, u1, u2, u3⟩ := gO6.cellsAt encR_len (show (qs.set d (lft qs))[m]? = some y from by rw [List.getElem?_set_ne hdm]; exact HX2.out) rfl
               have v0 := (hbe.cell (p := ⟨wa.heap.size, 0, none⟩) (by simp; omega)).trans F3
               have v1 := (hbe.cell (p := ⟨wa.heap.size, 1, none⟩) (by simp; omega)).trans F4
               have hse : w5.heap.size ≤ we.heap.size := hbe.size
               have hge : g < we.heap.size := by omega
               have gO6d : Own (World.drew ((we.setCell ⟨g, d * 2, none⟩ (.int .i64 (oN (lft qs)))).setCell ⟨g, d * 2 + 1, none⟩ (.int .i64 (oD (lft qs))))) w.heap.size 34 2 encR (.slice (some ⟨g, 0, none⟩) p cap) (qs.set d (lft qs)) := gO6
               clear c0 c1 z0 z1 y0 y1 y2 y3 F3 F4 hlc gs F6 gO6 gOe HAD e1 e2
               go_region_with ((go_at_call 34; refine (HSD.out _).mono ?_; rintro e wf ⟨rfl, hbf⟩; have gOf := gO6d.below hbf; obtain ⟨t0, t1, t2, t3⟩ := gOf.cellsAt encR_len (show (qs.set d (lft qs))[m]? = some y from by rw [List.getElem?_set_ne hdm]; exact HX2.out) rfl))
               all_goals go_wp2_with fail
               all_goals first
                 | (have ho2 : (oE (rgt qs) != 0) = true := by assumption
                    have hin2 := oE_nonzero (q := rgt qs) (by simpa using ho2)
                    go_ret2
                    refine ⟨?_, by (repeat (first | with_reducible assumption | with_reducible refine below_drewN ?_ _ | with_reducible refine Below.drew ?_ | with_reducible refine below_alloc ?_ _ | with_reducible refine Below.setCell ?_ (by first | omega | (simp; done) | (simp; omega)) _ | with_reducible refine below_then ?_ (by with_reducible assumption) | (refine below_then (a := World.drew _) ?_ (by with_reducible assumption))))⟩
                    rw [HL.out, hN.out.1, show f = f - 1 + 1 by have := hN.out.2.1; omega, netF_bad HS.out (.inr hin2), oE_no hin2]
                    rfl)
                 | (have ho2 : (oE (rgt qs) != 0) = false := by assumption
                    have hin2 := oE_zero (q := rgt qs) (by simpa using ho2)
                    have gO7 := gOf.set2 encR_len (by simp; exact hlen.out) (k := m) (by omega) (encR_o hin2)
                    have gM1 := (Own.drew_ F2).below hbe
                    have gM2 := (gM1.setNe (p := ⟨g, d * 2, none⟩) (gM1.ne' hg2) (.int .i64 (oN (lft qs))))
                    have gM3 := (gM2.setNe (p := ⟨g, d * 2 + 1, none⟩) (gM1.ne' hg2) (.int .i64 (oD (lft qs))))
                    have gM4 := (Own.drew_ gM3).below hbf
                    have gM5 := (gM4.setNe (p := ⟨g, m * 2, none⟩) (gM1.ne' hg2) (.int .i64 (oN (rgt qs))))
                    have gM6 := (gM5.setNe (p := ⟨g, m * 2 + 1, none⟩) (gM1.ne' hg2) (.int .i64 (oD (rgt qs))))
                    have hnz := nz_nxt HS.out
                    have hff := hN.out.2.1
                    have hl1 := lenV_own hM
                    have hl2 := lenV_own F2
                    have hszf : we.heap.size ≤ wf.heap.size := by have := hbf.size; simpa using this
                    rw [List.length_append, List.length_singleton] at hl2
                    refine ⟨⟨f - 1, nxt qs, made ++ [mvD qs], ⟨?_, by omega, nxt_inR hN.out.2.2 hin1 hin2⟩, (nxt_len qs).trans hlen.out, by simp; omega, ?_, gM6, by (repeat (first | with_reducible assumption | with_reducible refine below_drewN ?_ _ | with_reducible refine Below.drew ?_ | with_reducible refine below_alloc ?_ _ | with_reducible refine Below.setCell ?_ (by first | omega | (simp; done) | (simp; omega)) _ | with_reducible refine below_then ?_ (by with_reducible assumption) | (refine below_then (a := World.drew _) ?_ (by with_reducible assumption)))), by simp; omega⟩, by omega⟩
                    · rw [hN.out.1, show f = f - 1 + 1 by omega, netF_step HS.out hin1 hin2]; rfl
                    · rw [HR.out.2.2.2]; exact gO7))
        · rw [if_neg hlt] at hamt
          simp only [hlt, decide_false, decide_eq_false_iff_not] at dlt
          have HA := Lib.hid hamt
          have HR := Lib.hid (And.intro hlft (And.intro hrgt (And.intro hmv hnx)))
          clear hlt hamt hlft hrgt hmv hnx ham2
          go_wp2_with (go_at_call 33; refine (HE.out _ (Below.refl _ _)).mono ?_; rintro e wa ⟨rfl, hba⟩; obtain ⟨hca, hfa⟩ := bcell hba)
          have hle1 := hba.size
          have gx := hO.below hba
          obtain ⟨c0, c1, z0, z1⟩ := gx.cellsAt encR_len HX1.out rfl
          obtain ⟨c2, c3, z2, z3⟩ := gx.cellsAt encR_len HX2.out rfl
          have hW1 := wa1 wa (.cells #[.int .i64 y.num, .int .i64 y.den] 34)
          have f0 := (hW1.cell (p := ⟨g, d * 2, none⟩) (by simp; omega)).trans c0
          have f1 := (hW1.cell (p := ⟨g, d * 2 + 1, none⟩) (by simp; omega)).trans c1
          obtain ⟨f2, f3, _, _⟩ := (Blk.new wa 34 #[.int .i64 y.num, .int .i64 y.den]).two
          have rg0 := cell_regrown f0
          have rg1 := cell_regrown f1
          have rg2 := cell_regrown f2
          have rg3 := cell_regrown f3
          refine wp_region_qt [0, 1, 2, 3, 4, 5, 6, 7] [] (by kernel_rfl) (by kernel_rfl) (by repeat (first | with_reducible refine panOk_then ?_ | with_reducible refine panOk_block ?_ | exact panOk_body)) ?_
          simp only [opsAt, List.getElem?_toArray, List.getElem?_cons_succ, List.getElem?_cons_zero, Option.toList_some, List.cons_append, List.nil_append]
          repeat (go_big_quiet_step ((first | (go_at_call 30; exact qt_call (fun W' _ => opp_any x.num x.den W' bx.1 bx.2.1) _ _) | (go_at_call 24; exact qt_call (fun W' _ => HCM.out W') _ _))))
          refine wpQuiet_nil ?_
          intro w2 hw2
          have hb := qt_world hw2
          clear hw2 rg0 rg1 rg2 rg3
          have gO := (gx.alloc (.cells #[.int .i64 y.num, .int .i64 y.den] 34)).below hb
          have gM := ((hM.below hba).alloc (.cells #[.int .i64 y.num, .int .i64 y.den] 34)).below hb
          have gB := (Blk.new wa 34 #[.int .i64 y.num, .int .i64 y.den]).then_ hb
          have gBB := below_then (below_alloc (below_then hB hba) (.cells #[.int .i64 y.num, .int .i64 y.den] 34)) hb
          have gs := hb.size
          simp at gs
          clear f0 f1 f2 f3 c0 c1 c2 c3 z0 z1 z2 z3 hW1 hca hfa gx
          have gBl := gB.lt
          obtain ⟨q0, q1, q2, q3⟩ := gB.two
          go_wp2_with (at_builtin; go_loud (refine wpList_app _ rfl (.tmp 58) (.tmp 63) _ rfl w1.heap.size 38 i0 _ 4 32 Try.underlying22 hi hz0 hz1 hz2 rfl (by omega) (by omega) encD encD_len encD_one _ made rfl (gM.alloc _) (by omega) w2.heap.size 1 ⟨d, m, y.num, y.den⟩ rfl (by have := Blk.new w2 38 #[.int .i64 d, .int .i64 m, .int .i64 y.num, .int .i64 y.den]; simpa [encD] using this) (by simp; omega) ?_); intro v5 w5 hO5 hb5 hg5)
          have K2 : Blk (w2.alloc (.cells #[.int .i64 d, .int .i64 m, .int .i64 y.num, .int .i64 y.den] 38)) wa.heap.size 34 #[.int .i64 y.num, .int .i64 y.den] := by (repeat (first | with_reducible assumption | with_reducible refine Blk.alloc ?_ _ | with_reducible refine Blk.drewN ?_ _ | with_reducible apply Blk.setT0 | with_reducible apply Blk.setT1 | with_reducible refine Blk.far ?_ (by first | (simp; done) | omega | (simp; omega)) _ | with_reducible refine Blk.then_ ?_ (by with_reducible assumption)))
          have F1 := (gO.alloc (.cells #[.int .i64 d, .int .i64 m, .int .i64 y.num, .int .i64 y.den] 38)).keepB hb5 (by intro k hk; cases hk; omega)
          have F3 := (grown_cell hM hg5 0 (by omega) (by first | (simp; done) | (simp; omega))).trans K2.two.1
          have F4 := (grown_cell hM hg5 1 (by omega) (by first | (simp; done) | (simp; omega))).trans K2.two.2.1
          have F5 : Below w.heap.size w w5 := (by (repeat (first | with_reducible assumption | with_reducible refine below_drewN ?_ _ | with_reducible refine Below.drew ?_ | with_reducible refine below_alloc ?_ _ | with_reducible refine Below.setCell ?_ (by first | omega | (simp; done) | (simp; omega)) _ | with_reducible refine below_then ?_ (by with_reducible assumption))) : Below w.heap.size w (w2.alloc (.cells #[.int .i64 d, .int .i64 m, .int .i64 y.num, .int .i64 y.den] 38))).trans (hb5.mono hbP.size)
          have F6 := hb5.size
          simp at F6
          have e1 : (amt qs).num = y.num := by rw [HA.out]
          have e2 : ((amt qs).den : Int) = y.den := by rw [HA.out]
          have e3 : mvD qs = ⟨d, m, y.num, y.den⟩ := by rw [HR.out.2.2.1, e1, e2]
          have F2 : Own w5 w1.heap.size 38 4 encD v5 (made ++ [mvD qs]) := by rw [e3]; exact hO5
          have HAD := Lib.hid (fun W => by have := add_of x (amt qs) W HI.out.1 ham1 rfl rfl e1 e2; rwa [← HR.out.1] at this)
          have HSD := Lib.hid (fun W => by have := sub_of y (amt qs) W HI.out.2 ham1 rfl rfl e1 e2; rwa [← HR.out.2.1] at this)
          have F1d : Own w5.drew w.heap.size 34 2 encR (.slice (some ⟨g, 0, none⟩) p cap) qs := F1
          obtain ⟨c0, c1, z0, z1⟩ := F1.cellsAt encR_len HX1.out rfl
          have hg5l : g < w5.heap.size := by omega
          have hwa5 : wa.heap.size < w5.heap.size := by omega
          clear F1 gO gM gB K2 hO5 hb5 hg5 q0 q1 q2 q3 HCM dlt hba
          go_region_with ((go_at_call 20; refine (HAD.out _).mono ?_; rintro e we ⟨rfl, hbe⟩; have gOe := F1d.below hbe; obtain ⟨y0, y1, y2, y3⟩ := gOe.cellsAt encR_len HX1.out rfl))
          all_goals go_wp2_with fail
          all_goals first
            | (have ho : (oE (lft qs) != 0) = true := by assumption
               have hin1 := oE_nonzero (q := lft qs) (by simpa using ho)
               go_ret2
               refine ⟨?_, by (repeat (first | with_reducible assumption | with_reducible refine below_drewN ?_ _ | with_reducible refine Below.drew ?_ | with_reducible refine below_alloc ?_ _ | with_reducible refine Below.setCell ?_ (by first | omega | (simp; done) | (simp; omega)) _ | with_reducible refine below_then ?_ (by with_reducible assumption) | (refine below_then (a := World.drew _) ?_ (by with_reducible assumption))))⟩
               rw [HL.out, hN.out.1, show f = f - 1 + 1 by have := hN.out.2.1; omega, netF_bad HS.out (.inl hin1), oE_no hin1]
               rfl)
            | (have ho : (oE (lft qs) != 0) = false := by assumption
               have hin1 := oE_zero (q := lft qs) (by simpa using ho)
               have gO6 := gOe.set2 encR_len hlen.out (k := d) (by omega) (encR_o hin1)
               obtain ⟨u0, u1, u2, u3⟩ := gO6.cellsAt encR_len (show (qs.set d (lft qs))[m]? = some y from by rw [List.getElem?_set_ne hdm]; exact HX2.out) rfl
               have v0 := (hbe.cell (p := ⟨wa.heap.size, 0, none⟩) (by simp; omega)).trans F3
               have v1 := (hbe.cell (p := ⟨wa.heap.size, 1, none⟩) (by simp; omega)).trans F4
               have hse : w5.heap.size ≤ we.heap.size := hbe.size
               have hge : g < we.heap.size := by omega
               have gO6d : Own (World.drew ((we.setCell ⟨g, d * 2, none⟩ (.int .i64 (oN (lft qs)))).setCell ⟨g, d * 2 + 1, none⟩ (.int .i64 (oD (lft qs))))) w.heap.size 34 2 encR (.slice (some ⟨g, 0, none⟩) p cap) (qs.set d (lft qs)) := gO6
               clear c0 c1 z0 z1 y0 y1 y2 y3 F3 F4 gs F6 gO6 gOe HAD e1 e2
               go_region_with ((go_at_call 34; refine (HSD.out _).mono ?_; rintro e wf ⟨rfl, hbf⟩; have gOf := gO6d.below hbf; obtain ⟨t0, t1, t2, t3⟩ := gOf.cellsAt encR_len (show (qs.set d (lft qs))[m]? = some y from by rw [List.getElem?_set_ne hdm]; exact HX2.out) rfl))
               all_goals go_wp2_with fail
               all_goals first
                 | (have ho2 : (oE (rgt qs) != 0) = true := by assumption
                    have hin2 := oE_nonzero (q := rgt qs) (by simpa using ho2)
                    go_ret2
                    refine ⟨?_, by (repeat (first | with_reducible assumption | with_reducible refine below_drewN ?_ _ | with_reducible refine Below.drew ?_ | with_reducible refine below_alloc ?_ _ | with_reducible refine Below.setCell ?_ (by first | omega | (simp; done) | (simp; omega)) _ | with_reducible refine below_then ?_ (by with_reducible assumption) | (refine below_then (a := World.drew _) ?_ (by with_reducible assumption))))⟩
                    rw [HL.out, hN.out.1, show f = f - 1 + 1 by have := hN.out.2.1; omega, netF_bad HS.out (.inr hin2), oE_no hin2]
                    rfl)
                 | (have ho2 : (oE (rgt qs) != 0) = false := by assumption
                    have hin2 := oE_zero (q := rgt qs) (by simpa using ho2)
                    have gO7 := gOf.set2 encR_len (by simp; exact hlen.out) (k := m) (by omega) (encR_o hin2)
                    have gM1 := (Own.drew_ F2).below hbe
                    have gM2 := (gM1.setNe (p := ⟨g, d * 2, none⟩) (gM1.ne' hg2) (.int .i64 (oN (lft qs))))
                    have gM3 := (gM2.setNe (p := ⟨g, d * 2 + 1, none⟩) (gM1.ne' hg2) (.int .i64 (oD (lft qs))))
                    have gM4 := (Own.drew_ gM3).below hbf
                    have gM5 := (gM4.setNe (p := ⟨g, m * 2, none⟩) (gM1.ne' hg2) (.int .i64 (oN (rgt qs))))
                    have gM6 := (gM5.setNe (p := ⟨g, m * 2 + 1, none⟩) (gM1.ne' hg2) (.int .i64 (oD (rgt qs))))
                    have hnz := nz_nxt HS.out
                    have hff := hN.out.2.1
                    have hl1 := lenV_own hM
                    have hl2 := lenV_own F2
                    have hszf : we.heap.size ≤ wf.heap.size := by have := hbf.size; simpa using this
                    rw [List.length_append, List.length_singleton] at hl2
                    refine ⟨⟨f - 1, nxt qs, made ++ [mvD qs], ⟨?_, by omega, nxt_inR hN.out.2.2 hin1 hin2⟩, (nxt_len qs).trans hlen.out, by simp; omega, ?_, gM6, by (repeat (first | with_reducible assumption | with_reducible refine below_drewN ?_ _ | with_reducible refine Below.drew ?_ | with_reducible refine below_alloc ?_ _ | with_reducible refine Below.setCell ?_ (by first | omega | (simp; done) | (simp; omega)) _ | with_reducible refine below_then ?_ (by with_reducible assumption) | (refine below_then (a := World.drew _) ?_ (by with_reducible assumption)))), by simp; omega⟩, by omega⟩
                    · rw [hN.out.1, show f = f - 1 + 1 by omega, netF_step HS.out hin1 hin2]; rfl
                    · rw [HR.out.2.2.2]; exact gO7))
      · have hS : stopB qs = true := by
          rw [HST.out]
          simp only [Bool.or_eq_true, decide_eq_true_eq]
          by_cases h : x.num < 0
          · exact .inr (num_le0.1 (by omega))
          · exact .inl (Rat.num_nonneg.1 (by omega))
        have HS := Lib.hid hS
        have hc : 0 ≤ x ∨ (¬ 0 ≤ x ∧ y.num ≤ 0) := by
          by_cases h : 0 ≤ x
          · exact .inl h
          · refine .inr ⟨h, ?_⟩
            have : ¬ 0 ≤ x.num := fun h2 => h (Rat.num_nonneg.1 h2)
            omega
        clear hgo hS
        rcases hc with h | ⟨h, h'⟩
        all_goals
          go_wp2_with (go_at_call 33; refine (HE.out _ (Below.refl _ _)).mono ?_; rintro e wa ⟨rfl, hba⟩; obtain ⟨hca, hfa⟩ := bcell hba)
          all_goals
            go_ret2
            refine ⟨?_, by (repeat (first | with_reducible assumption | with_reducible refine below_drewN ?_ _ | with_reducible refine Below.drew ?_ | with_reducible refine below_alloc ?_ _ | with_reducible refine Below.setCell ?_ (by first | omega | (simp; done) | (simp; omega)) _ | with_reducible refine below_then ?_ (by with_reducible assumption)))⟩
            rw [HL.out, hN.out.1, netF_stop HS.out]
            exact ⟨_, rfl, (hM.below hba).more hbP.size⟩
end Go.Proofs.Ythgbdpiihdhfiaa
