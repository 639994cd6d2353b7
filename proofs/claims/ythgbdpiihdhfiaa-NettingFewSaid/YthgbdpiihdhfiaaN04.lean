/- The walks of package netting and its reference, fourth part: opposite, Minus, Zero, the reference's position. -/
import Derived.Test.YthgbdpiihdhfiaaN03
import Derived.Test.YthgbdpiihdhfiaaQt
namespace Go.Proofs.Ythgbdpiihdhfiaa
open Go.RowKit Go.Sort

theorem tup1 {a b a' b' : Int} (h1 : a = a') (h2 : b = b') : Ending.returned (.agg #[.int .i64 a, .int .i64 b]) = .returned (.agg #[.int .i64 a', .int .i64 b']) := by rw [h1, h2]

/-- netting.opposite -/
theorem opp_any (n d : Int) (w : World) (h1 : -1000000000000 ≤ n) (h2 : n ≤ 1000000000000) :
    Calls Try.prog 30 #[.agg #[.int .i64 n, .int .i64 d]] w fun e w' => e = .returned (.agg #[.int .i64 (-n), .int .i64 d]) ∧ Below w.heap.size w w' := by
  go_enter Try.func30, Try.ntmps30
  go_wp2
  refine bodyPost_ret (by simp [results, Try.results30, go_sem]; rfl) rfl ⟨?_, ?_⟩
  · rfl
  · (repeat (first | exact Below.refl _ _ | refine below_drewN ?_ _ | refine Below.drew ?_ | refine below_alloc ?_ _ | refine Below.setCell ?_ (by first | omega | (simp; done) | (simp; omega)) _ | refine below_then ?_ (by assumption)))

/-- the reference's Minus -/
theorem minus_any (n d : Int) (w : World) (h1 : -1000000000000 ≤ n) (h2 : n ≤ 1000000000000) :
    Calls Try.prog 32 #[.agg #[.int .i64 n, .int .i64 d]] w fun e w' => e = .returned (.agg #[.int .i64 (-n), .int .i64 d]) ∧ Below w.heap.size w w' := by
  go_enter Try.func32, Try.ntmps32
  go_wp2
  refine bodyPost_ret (by simp [results, Try.results32, go_sem]; rfl) rfl ⟨?_, ?_⟩
  · exact tup1 (by omega) rfl
  · (repeat (first | exact Below.refl _ _ | refine below_drewN ?_ _ | refine Below.drew ?_ | refine below_alloc ?_ _ | refine Below.setCell ?_ (by first | omega | (simp; done) | (simp; omega)) _ | refine below_then ?_ (by assumption)))

/-- the reference's Zero -/
theorem zero_any (w : World) :
    Calls Try.prog 43 #[] w fun e w' => e = .returned (.agg #[.int .i64 0, .int .i64 1]) ∧ Below w.heap.size w w' := by
  go_enter Try.func43, Try.ntmps43
  go_wp2
  refine bodyPost_ret (by simp [results, Try.results43, go_sem]; rfl) rfl ⟨?_, ?_⟩
  · rfl
  · (repeat (first | exact Below.refl _ _ | refine below_drewN ?_ _ | refine Below.drew ?_ | refine below_alloc ?_ _ | refine Below.setCell ?_ (by first | omega | (simp; done) | (simp; omega)) _ | refine below_then ?_ (by assumption)))

theorem radd_of {n1 d1 n2 d2 : Int} (q r : Rat) (w : World) (hq : inR q = true) (hr : inR r = true) (e1 : q.num = n1) (e2 : (q.den : Int) = d1) (e3 : r.num = n2) (e4 : (r.den : Int) = d2) :
    Calls Try.prog 37 #[.agg #[.int .i64 n1, .int .i64 d1], .agg #[.int .i64 n2, .int .i64 d2]] w fun e w' =>
      e = .returned (.tuple #[.agg #[.int .i64 (oN (q + r)), .int .i64 (oD (q + r))], .int .i64 (oE (q + r))]) ∧ Below w.heap.size w w' := by
  subst e1 e2 e3 e4; exact radd_any q r w hq hr

set_option maxHeartbeats 1600000 in
/-- the reference's position over valid debts -/
theorem posn_any (A : Option Addr) (c : Nat) (l : List Db) (w : World) (p : Int) (hl : l.length ≤ 400)
    (hf : ∀ x ∈ l, vld x.n x.d = true) (hm : Seg w w.heap.size 4 encD A l) :
    Calls Try.prog 28 #[.slice A l.length c, .int .i64 p] w fun e w' => TotP (totF (sgP p) l) e ∧ Below w.heap.size w w' := by
  have HM := Lib.hid (And.intro hf hm)
  clear hf hm
  go_enter Try.func28, Try.ntmps28
  go_wp2_with (go_at_call 43; refine (zero_any _).mono ?_; rintro e w1 ⟨rfl, hb⟩; obtain ⟨hc, hf⟩ := bcell hb; have hz := hb.size; (try simp at hz); (have zl0 : w.heap.size < w1.heap.size := by omega); (have ze0 : w.heap.size ≤ w1.heap.size := by omega))
  have h1 : Blk w1 w.heap.size 34 #[.int .i64 0, .int .i64 0] := (Blk.new w _ _).then_ hb
  have h2 : Below w.heap.size w w1 := by (repeat (first | exact Below.refl _ _ | refine below_drewN ?_ _ | refine Below.drew ?_ | refine below_alloc ?_ _ | refine Below.setCell ?_ (by first | omega | (simp; done) | (simp; omega)) _ | refine below_then ?_ (by assumption)))
  have hlt0 := h1.lt
  clear hb hc hf hz zl0 ze0
  go_loopw [7] (fun i wr => ∃ (k : Nat) (s : Rat), k ≤ l.length ∧ i = .int .i64 k ∧ Hid (totF (sgP p) (l.take k) = some s ∧ inR s = true) ∧ Below w.heap.size w wr ∧
      Blk wr w.heap.size 34 #[.int .i64 0, .int .i64 0] ∧ Blk wr w1.heap.size 34 #[.int .i64 s.num, .int .i64 s.den]) (fun i _ => l.length - (intOf i).toNat)
  case atStart =>
    refine ⟨0, 0, by omega, rfl, ⟨by simp [totF], by decide⟩, by (repeat (first | with_reducible assumption | with_reducible refine below_drewN ?_ _ | with_reducible refine Below.drew ?_ | with_reducible refine below_alloc ?_ _ | with_reducible refine Below.setCell ?_ (by first | omega | (simp; done) | (simp; omega)) _ | with_reducible refine below_then ?_ (by with_reducible assumption))), by (repeat (first | with_reducible assumption | with_reducible refine Blk.alloc ?_ _ | with_reducible refine Blk.drewN ?_ _ | with_reducible apply Blk.setT0 | with_reducible apply Blk.setT1 | with_reducible refine Blk.far ?_ (by first | (simp; done) | omega | (simp; omega)) _ | with_reducible refine Blk.then_ ?_ (by with_reducible assumption))), ?_⟩
    exact Blk.new w1 34 #[.int .i64 0, .int .i64 1]
  case round =>
    obtain ⟨k, s, hk, rfl, hS, hB, hk0, hk1⟩ := hrel
    obtain ⟨d0, d1, d2, d3⟩ := hk0.two
    obtain ⟨s0, s1, s2, s3⟩ := hk1.two
    have hlt2 := hk0.lt
    have hlt1 := hk1.lt
    by_cases hlt : k < l.length
    · obtain ⟨x, hx⟩ : ∃ x, l[k]? = some x := ⟨_, List.getElem?_eq_getElem hlt⟩
      obtain ⟨b, off, rfl, hb, c0, c1, c2, c3⟩ := segD (HM.out.2.below hB) hx
      have hv := HM.out.1 x (List.mem_of_getElem? hx)
      have hbl : b < wr.heap.size := Nat.lt_of_lt_of_le hb hB.size
      have HX := Lib.hid hx
      obtain ⟨V1, V2, V3⟩ := qOf_vld hv
      have bx := inR_bd V3
      rw [V1] at bx
      clear hx hv
      have k0 : (0 : Int) ≤ (k : Int) := by omega
      have k1 : (k : Int) < (l.length : Int) := by omega
      have k2 : (k : Int) ≤ 400 := by omega
      by_cases e1 : x.t = p
      · have t1 : (x.t == p) = true := by simp [e1]
        have h0 : sgP p x = 1 := by simp [sgP, e1]
        have HQ : Hid ((qOf x).num = x.n ∧ ((qOf x).den : Int) = x.d ∧ inR (qOf x) = true) := ⟨V1, V2, V3⟩
        have ST : Hid (stepT (sgP p) x s = if inR (s + qOf x) then some (s + qOf x) else none) := by
          rw [Hid, stepT, h0, show (((1 : Int) : Rat)) * qOf x = qOf x from by rw [show ((1 : Int) : Rat) = 1 from rfl]; grind]; rfl
        generalize hr : s + qOf x = r at ST
        have HR := Lib.hid hr
        clear hr h0 e1 V1 V2 V3
        cases hin : inR r
        · have e1 := oE_no hin
          have e2 := oN_no hin
          have e3 := oD_no hin
          have HN := Lib.hid hin
          clear hin
          go_wp2_with fail
          have HA0 := fun W' => radd_of s (qOf x) W' hS.out.2 HQ.out.2.2 rfl rfl HQ.out.1 HQ.out.2.1
          simp only [HR.out, e1, e2, e3] at HA0
          have HA := Lib.hid HA0
          clear HA0 e1 e2 e3
          have rg0 := cell_regrown s0
          have rg1 := cell_regrown s1
          have rg2 := cell_regrown c2
          have rg3 := cell_regrown c3
          refine wp_region_qt [0, 1, 2, 3, 4, 5, 6] [7, 8, 9, 10, 11] (by kernel_rfl) (by kernel_rfl) (by repeat (first | with_reducible refine panOk_then ?_ | with_reducible refine panOk_block ?_ | exact panOk_body)) ?_
          simp only [opsAt, List.getElem?_toArray, List.getElem?_cons_succ, List.getElem?_cons_zero, Option.toList_some, List.cons_append, List.nil_append]
          repeat (go_big_quiet_step ((go_at_call 37; exact qt_call (fun W' _ => HA.out W') _ _)))
          refine wpQuiet_nil ?_
          intro w2 hw2
          have hb := qt_world hw2
          clear hw2 rg0 rg1 rg2 rg3
          obtain ⟨hc, hf⟩ := bcell hb; have hz := hb.size; (try simp at hz)
          go_wp2
          refine bodyPost_ret (ret_rat rfl rfl (by (repeat (first | with_reducible assumption | with_reducible refine Blk.alloc ?_ _ | with_reducible refine Blk.drewN ?_ _ | with_reducible apply Blk.setT0 | with_reducible apply Blk.setT1 | with_reducible refine Blk.far ?_ (by first | (simp; done) | omega | (simp; omega)) _ | with_reducible refine Blk.then_ ?_ (by with_reducible assumption))))) rfl ⟨?_, ?_⟩
          · refine TotP.none_ ?_ rfl rfl rfl
            refine totF_none (k := k + 1) ?_
            rw [totF_take HX.out, hS.out.1]
            show stepT (sgP p) x s = none
            rw [ST.out, HN.out]; rfl
          · (repeat (first | with_reducible assumption | with_reducible refine below_drewN ?_ _ | with_reducible refine Below.drew ?_ | with_reducible refine below_alloc ?_ _ | with_reducible refine Below.setCell ?_ (by first | omega | (simp; done) | (simp; omega)) _ | with_reducible refine below_then ?_ (by with_reducible assumption)))
        · have e1 := oE_yes hin
          have e2 := oN_yes hin
          have e3 := oD_yes hin
          have HN := Lib.hid hin
          clear hin
          go_wp2_with fail
          have HA0 := fun W' => radd_of s (qOf x) W' hS.out.2 HQ.out.2.2 rfl rfl HQ.out.1 HQ.out.2.1
          simp only [HR.out, e1, e2, e3] at HA0
          have HA := Lib.hid HA0
          clear HA0 e1 e2 e3
          have rg0 := cell_regrown s0
          have rg1 := cell_regrown s1
          have rg2 := cell_regrown c2
          have rg3 := cell_regrown c3
          refine wp_region_qt [0, 1, 2, 3, 4, 5, 6] [7, 8, 9, 10, 11] (by kernel_rfl) (by kernel_rfl) (by repeat (first | with_reducible refine panOk_then ?_ | with_reducible refine panOk_block ?_ | exact panOk_body)) ?_
          simp only [opsAt, List.getElem?_toArray, List.getElem?_cons_succ, List.getElem?_cons_zero, Option.toList_some, List.cons_append, List.nil_append]
          repeat (go_big_quiet_step ((go_at_call 37; exact qt_call (fun W' _ => HA.out W') _ _)))
          refine wpQuiet_nil ?_
          intro w2 hw2
          have hb := qt_world hw2
          clear hw2 rg0 rg1 rg2 rg3
          obtain ⟨hc, hf⟩ := bcell hb; have hz := hb.size; (try simp at hz)
          go_wp2
          go_roundw
          case rel =>
            refine ⟨k + 1, r, by omega, by go_num, ⟨?_, HN.out⟩, by (repeat (first | with_reducible assumption | with_reducible refine below_drewN ?_ _ | with_reducible refine Below.drew ?_ | with_reducible refine below_alloc ?_ _ | with_reducible refine Below.setCell ?_ (by first | omega | (simp; done) | (simp; omega)) _ | with_reducible refine below_then ?_ (by with_reducible assumption))), ?_, ?_⟩
            · rw [totF_take HX.out, hS.out.1]
              show stepT (sgP p) x s = some r
              rw [ST.out, HN.out]; rfl
            · (repeat (first | with_reducible assumption | with_reducible refine Blk.alloc ?_ _ | with_reducible refine Blk.drewN ?_ _ | with_reducible apply Blk.setT0 | with_reducible apply Blk.setT1 | with_reducible refine Blk.far ?_ (by first | (simp; done) | omega | (simp; omega)) _ | with_reducible refine Blk.then_ ?_ (by with_reducible assumption)))
            · (repeat (first | with_reducible assumption | with_reducible refine Blk.alloc ?_ _ | with_reducible refine Blk.drewN ?_ _ | with_reducible apply Blk.setT0 | with_reducible apply Blk.setT1 | with_reducible refine Blk.far ?_ (by first | (simp; done) | omega | (simp; omega)) _ | with_reducible refine Blk.then_ ?_ (by with_reducible assumption)))
          case measure => simp [intOf]; omega
      · by_cases e2 : x.f = p
        · have t1 : (x.t == p) = false := by simpa using e1
          have t2 : (x.f == p) = true := by simp [e2]
          have h0 : sgP p x = -1 := by simp [sgP, e1, e2]
          have HQ : Hid ((-qOf x).num = -x.n ∧ ((-qOf x).den : Int) = x.d ∧ inR (-qOf x) = true) := ⟨by rw [Rat.neg_num, V1], by rw [Rat.neg_den, V2], inR_neg V3⟩
          have ST : Hid (stepT (sgP p) x s = if inR (s + -qOf x) then some (s + -qOf x) else none) := by
            rw [Hid, stepT, h0, show (((-1 : Int) : Rat)) * qOf x = -qOf x from by rw [show ((-1 : Int) : Rat) = -1 from rfl]; grind]; rfl
          generalize hr : s + -qOf x = r at ST
          have HR := Lib.hid hr
          clear hr h0 e1 e2 V1 V2 V3
          cases hin : inR r
          · have e1 := oE_no hin
            have e2 := oN_no hin
            have e3 := oD_no hin
            have HN := Lib.hid hin
            clear hin
            go_wp2_with fail
            have HA0 := fun W' => radd_of s (-qOf x) W' hS.out.2 HQ.out.2.2 rfl rfl HQ.out.1 HQ.out.2.1
            simp only [HR.out, e1, e2, e3] at HA0
            have HA := Lib.hid HA0
            clear HA0 e1 e2 e3
            have rg0 := cell_regrown s0
            have rg1 := cell_regrown s1
            have rg2 := cell_regrown c2
            have rg3 := cell_regrown c3
            refine wp_region_qt [0, 1, 2, 3, 4, 5, 6, 7] [8, 9, 10, 11, 12] (by kernel_rfl) (by kernel_rfl) (by repeat (first | with_reducible refine panOk_then ?_ | with_reducible refine panOk_block ?_ | exact panOk_body)) ?_
            simp only [opsAt, List.getElem?_toArray, List.getElem?_cons_succ, List.getElem?_cons_zero, Option.toList_some, List.cons_append, List.nil_append]
            repeat (go_big_quiet_step ((first | (go_at_call 37; exact qt_call (fun W' _ => HA.out W') _ _) | (go_at_call 32; exact qt_call (fun W' _ => minus_any x.n x.d W' bx.1 bx.2.1) _ _))))
            refine wpQuiet_nil ?_
            intro w2 hw2
            have hb := qt_world hw2
            clear hw2 rg0 rg1 rg2 rg3
            obtain ⟨hc, hf⟩ := bcell hb; have hz := hb.size; (try simp at hz)
            go_wp2
            refine bodyPost_ret (ret_rat rfl rfl (by (repeat (first | with_reducible assumption | with_reducible refine Blk.alloc ?_ _ | with_reducible refine Blk.drewN ?_ _ | with_reducible apply Blk.setT0 | with_reducible apply Blk.setT1 | with_reducible refine Blk.far ?_ (by first | (simp; done) | omega | (simp; omega)) _ | with_reducible refine Blk.then_ ?_ (by with_reducible assumption))))) rfl ⟨?_, ?_⟩
            · refine TotP.none_ ?_ rfl rfl rfl
              refine totF_none (k := k + 1) ?_
              rw [totF_take HX.out, hS.out.1]
              show stepT (sgP p) x s = none
              rw [ST.out, HN.out]; rfl
            · (repeat (first | with_reducible assumption | with_reducible refine below_drewN ?_ _ | with_reducible refine Below.drew ?_ | with_reducible refine below_alloc ?_ _ | with_reducible refine Below.setCell ?_ (by first | omega | (simp; done) | (simp; omega)) _ | with_reducible refine below_then ?_ (by with_reducible assumption)))
          · have e1 := oE_yes hin
            have e2 := oN_yes hin
            have e3 := oD_yes hin
            have HN := Lib.hid hin
            clear hin
            go_wp2_with fail
            have HA0 := fun W' => radd_of s (-qOf x) W' hS.out.2 HQ.out.2.2 rfl rfl HQ.out.1 HQ.out.2.1
            simp only [HR.out, e1, e2, e3] at HA0
            have HA := Lib.hid HA0
            clear HA0 e1 e2 e3
            have rg0 := cell_regrown s0
            have rg1 := cell_regrown s1
            have rg2 := cell_regrown c2
            have rg3 := cell_regrown c3
            refine wp_region_qt [0, 1, 2, 3, 4, 5, 6, 7] [8, 9, 10, 11, 12] (by kernel_rfl) (by kernel_rfl) (by repeat (first | with_reducible refine panOk_then ?_ | with_reducible refine panOk_block ?_ | exact panOk_body)) ?_
            simp only [opsAt, List.getElem?_toArray, List.getElem?_cons_succ, List.getElem?_cons_zero, Option.toList_some, List.cons_append, List.nil_append]
            repeat (go_big_quiet_step ((first | (go_at_call 37; exact qt_call (fun W' _ => HA.out W') _ _) | (go_at_call 32; exact qt_call (fun W' _ => minus_any x.n x.d W' bx.1 bx.2.1) _ _))))
            refine wpQuiet_nil ?_
            intro w2 hw2
            have hb := qt_world hw2
            clear hw2 rg0 rg1 rg2 rg3
            obtain ⟨hc, hf⟩ := bcell hb; have hz := hb.size; (try simp at hz)
            go_wp2
            go_roundw
            case rel =>
              refine ⟨k + 1, r, by omega, by go_num, ⟨?_, HN.out⟩, by (repeat (first | with_reducible assumption | with_reducible refine below_drewN ?_ _ | with_reducible refine Below.drew ?_ | with_reducible refine below_alloc ?_ _ | with_reducible refine Below.setCell ?_ (by first | omega | (simp; done) | (simp; omega)) _ | with_reducible refine below_then ?_ (by with_reducible assumption))), ?_, ?_⟩
              · rw [totF_take HX.out, hS.out.1]
                show stepT (sgP p) x s = some r
                rw [ST.out, HN.out]; rfl
              · (repeat (first | with_reducible assumption | with_reducible refine Blk.alloc ?_ _ | with_reducible refine Blk.drewN ?_ _ | with_reducible apply Blk.setT0 | with_reducible apply Blk.setT1 | with_reducible refine Blk.far ?_ (by first | (simp; done) | omega | (simp; omega)) _ | with_reducible refine Blk.then_ ?_ (by with_reducible assumption)))
              · (repeat (first | with_reducible assumption | with_reducible refine Blk.alloc ?_ _ | with_reducible refine Blk.drewN ?_ _ | with_reducible apply Blk.setT0 | with_reducible apply Blk.setT1 | with_reducible refine Blk.far ?_ (by first | (simp; done) | omega | (simp; omega)) _ | with_reducible refine Blk.then_ ?_ (by with_reducible assumption)))
            case measure => simp [intOf]; omega
        · have t1 : (x.t == p) = false := by simpa using e1
          have t2 : (x.f == p) = false := by simpa using e2
          have H0 := Lib.hid (show sgP p x = 0 by simp [sgP, e1, e2])
          clear e1 e2 V1 V2 V3
          go_wp2
          go_roundw
          case rel =>
            refine ⟨k + 1, s, by omega, by go_num, ⟨?_, hS.out.2⟩, by (repeat (first | with_reducible assumption | with_reducible refine below_drewN ?_ _ | with_reducible refine Below.drew ?_ | with_reducible refine below_alloc ?_ _ | with_reducible refine Below.setCell ?_ (by first | omega | (simp; done) | (simp; omega)) _ | with_reducible refine below_then ?_ (by with_reducible assumption))), ?_, ?_⟩
            · rw [totF_take HX.out, hS.out.1]; simp [stepT, H0.out]
            · (repeat (first | with_reducible assumption | with_reducible refine Blk.alloc ?_ _ | with_reducible refine Blk.drewN ?_ _ | with_reducible apply Blk.setT0 | with_reducible apply Blk.setT1 | with_reducible refine Blk.far ?_ (by first | (simp; done) | omega | (simp; omega)) _ | with_reducible refine Blk.then_ ?_ (by with_reducible assumption)))
            · (repeat (first | with_reducible assumption | with_reducible refine Blk.alloc ?_ _ | with_reducible refine Blk.drewN ?_ _ | with_reducible apply Blk.setT0 | with_reducible apply Blk.setT1 | with_reducible refine Blk.far ?_ (by first | (simp; done) | omega | (simp; omega)) _ | with_reducible refine Blk.then_ ?_ (by with_reducible assumption)))
          case measure => simp [intOf]; omega
    · go_wp2
      refine bodyPost_ret (ret_rat rfl rfl (by (repeat (first | with_reducible assumption | with_reducible refine Blk.alloc ?_ _ | with_reducible refine Blk.drewN ?_ _ | with_reducible apply Blk.setT0 | with_reducible apply Blk.setT1 | with_reducible refine Blk.far ?_ (by first | (simp; done) | omega | (simp; omega)) _ | with_reducible refine Blk.then_ ?_ (by with_reducible assumption))))) rfl ⟨?_, ?_⟩
      · obtain rfl : k = l.length := by omega
        have := hS.out.1
        rw [List.take_length] at this
        exact TotP.some_ this rfl rfl rfl
      · (repeat (first | with_reducible assumption | with_reducible refine below_drewN ?_ _ | with_reducible refine Below.drew ?_ | with_reducible refine below_alloc ?_ _ | with_reducible refine Below.setCell ?_ (by first | omega | (simp; done) | (simp; omega)) _ | with_reducible refine below_then ?_ (by with_reducible assumption)))
end Go.Proofs.Ythgbdpiihdhfiaa
