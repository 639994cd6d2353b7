/- The walk of netting.Pairs. -/
import Derived.Test.YteoicnhnpailiaaN09
namespace Go.Proofs.Yteoicnhnpailiaa
open Go.RowKit Go.Sort

/-- the cells of the table of sums, as it is made -/
def Z48 : Array Value := Array.replicate 288 (Value.int .i64 0)
theorem Z48_size : Z48.size = 288 := Array.size_replicate ..
theorem run_zero48 (w : World) : (zeroValue 83).run Try.prog w = .ok (.agg Z48) w := by kernel_rfl

/-- the table holds the sums of all pairs ahead of (a, b) -/
def Done (l : List Db) (p : Nat) (cs : Array Value) (a b : Nat) : Prop :=
  cs.size = 288 ∧ ∀ a' b', a' < b' → b' < p → (a' < a ∨ (a' = a ∧ b' < b)) → ∃ s, totF (sgAB a' b') l = some s ∧ cs[a' * 24 + b' * 2]? = some (.int .i64 s.num) ∧ cs[a' * 24 + b' * 2 + 1]? = some (.int .i64 s.den)
theorem Done.start (l : List Db) (p : Nat) : Done l p Z48 0 1 := ⟨Z48_size, fun a' b' h1 _ h => by omega⟩
theorem Done.row {l : List Db} {p : Nat} {cs : Array Value} {a : Nat} (h : Done l p cs a p) : Done l p cs (a + 1) (a + 2) :=
  ⟨h.1, fun a' b' h1 h2 h3 => h.2 a' b' h1 h2 (by omega)⟩
theorem Done.step {l : List Db} {p : Nat} {cs : Array Value} {a b : Nat} {s : Rat} (h : Done l p cs a b) (hp : p ≤ 12) (hab : a < b) (hb : b < p) (hs : totF (sgAB a b) l = some s) :
    Done l p ((cs.setIfInBounds (a * 24 + b * 2) (.int .i64 s.num)).setIfInBounds (a * 24 + b * 2 + 1) (.int .i64 s.den)) a (b + 1) := by
  refine ⟨by simpa using h.1, fun a' b' h1 h2 h3 => ?_⟩
  by_cases e : a' = a ∧ b' = b
  · obtain ⟨rfl, rfl⟩ := e
    have := h.1
    refine ⟨s, hs, ?_, ?_⟩
    · rw [Array.getElem?_setIfInBounds_ne (by omega), Array.getElem?_setIfInBounds_self_of_lt (by omega)]
    · rw [Array.getElem?_setIfInBounds_self_of_lt (by simp; omega)]
  · obtain ⟨t, h4, h5, h6⟩ := h.2 a' b' h1 h2 (by omega)
    refine ⟨t, h4, ?_, ?_⟩
    · rw [Array.getElem?_setIfInBounds_ne (by omega), Array.getElem?_setIfInBounds_ne (by omega)]; exact h5
    · rw [Array.getElem?_setIfInBounds_ne (by omega), Array.getElem?_setIfInBounds_ne (by omega)]; exact h6

/-- what is left to do, of a counter in a variable of its own -/
def msr (p : Nat) (v : Value) (w : World) : Nat := p - (intOf (match v with | .pointer (some a) => (w.cell? a).getD undef | _ => undef)).toNat
theorem msr_eq {p b g : Nat} {t : TypeId} {w : World} (h : Blk w g t #[.int .i64 b]) : msr p (.pointer (some ⟨g, 0, none⟩)) w = p - b := by
  simp only [msr, h.one.1, Option.getD_some, intOf, Int.toNat_natCast]

set_option maxRecDepth 100000 in
set_option maxHeartbeats 3200000 in
/-- netting.Pairs at valid debts -/
theorem pairs_any (p : Nat) (A : Option Addr) (c : Nat) (l : List Db) (w : World) (hv : validD p l = true)
    (hf : ∀ x ∈ l, fitD x) (hm : Seg w w.heap.size 4 encD A l) :
    Calls Try.prog 24 #[.int .i64 p, .slice A l.length c] w fun e w' => LstP (prF l p p) w w' e ∧ Below w.heap.size w w' := by
  obtain ⟨i0, hi, hz0, hz1, hz2⟩ := info_parts infoD
  have hp : (1 ≤ p ∧ p ≤ 12 ∧ l.length ≤ 400) ∧ ∀ x ∈ l, okD p x = true := by
    simp only [validD, Bool.and_eq_true, decide_eq_true_eq, List.all_eq_true] at hv
    exact ⟨by omega, hv.2⟩
  obtain ⟨⟨p1, p2, p3⟩, hall⟩ := hp
  have HM := Lib.hid (And.intro hm (fun x hx => (okD_of (hall x hx)).2.1))
  have HV := nvalid_any p A c l w (by omega) (by omega) (by omega) hf hm
  rw [hv] at HV
  have HW := Lib.hid HV
  clear hm hall hf HV hv
  have hal := run_zero48
  go_enter Try.func24, Try.ntmps24
  go_wp2_with (go_at_call 43; refine HW.out.mono ?_; rintro e w1 ⟨rfl, hb⟩)
  clear hal
  go_outline
  go_loopw [20] (fun i wr => ∃ (a : Nat) (cs : Array Value), a ≤ p ∧ i = .int .i64 a ∧ Hid (Done l p cs a (a + 1)) ∧ Blk wr w1.heap.size 83 cs ∧ Below w.heap.size w wr) (fun i _ => p - (intOf i).toNat)
  case atStart => exact ⟨0, _, by omega, rfl, Done.start l p, Blk.new w1 _ _, by (repeat (first | exact Below.refl _ _ | refine below_drewN ?_ _ | refine Below.drew ?_ | refine below_alloc ?_ _ | refine Below.setCell ?_ (by first | omega | (simp; done) | (simp; omega)) _ | refine below_then ?_ (by assumption)))⟩
  case round =>
    obtain ⟨a, cs, hk, rfl, hD, hT, hB⟩ := hrel
    obtain ⟨wo, rfl⟩ : ∃ wo : World, wo = wr := ⟨_, rfl⟩
    have hle0 := hB.size
    have hgs := hT.lt
    have hgs0 : w.heap.size ≤ w1.heap.size := hb.size
    by_cases hlt : a < p
    · go_wp2
      go_loopw [8] (fun v wr => ∃ (b gb : Nat) (cs : Array Value), a < b ∧ b ≤ p ∧ v = .pointer (some ⟨gb, 0, none⟩) ∧ wo.heap.size < gb ∧ Hid (Done l p cs a b) ∧ Blk wr w1.heap.size 83 cs ∧ Blk wr wo.heap.size 3 #[.int .i64 a] ∧ Blk wr gb 3 #[.int .i64 b] ∧ Below w.heap.size w wr) (fun v wr => msr p v wr)
      case atStart =>
        refine ⟨a + 1, wo.heap.size + 1, cs, by omega, by omega, rfl, by omega, hD, (hT.alloc _).alloc _, (Blk.new wo _ _).alloc _, ?_, by (repeat (first | with_reducible assumption | with_reducible refine below_drewN ?_ _ | with_reducible refine Below.drew ?_ | with_reducible refine below_alloc ?_ _ | with_reducible refine Below.setCell ?_ (by first | omega | (simp; done) | (simp; omega)) _ | with_reducible refine below_then ?_ (by with_reducible assumption)))⟩
        exact blk_new1 wo _ 3 #[.int .i64 (a + 1 : Nat)]
      case round =>
        obtain ⟨b, gb, cs, hab, hbp, rfl, hgb, hD, hT, h7, h8, hB⟩ := hrel
        obtain ⟨x7, y7⟩ := h7.one
        obtain ⟨x8, y8⟩ := h8.one
        have l7 := h7.lt
        have l8 := h8.lt
        have lT := hT.lt
        have hle1 := hB.size
        by_cases hlt2 : b < p
        · cases ht : totF (sgAB a b) l with
          | none =>
            have HT := Lib.hid ht
            clear ht
            go_wp2_with (go_at_call 44; refine (total2 A c l _ wo.heap.size gb a b l7 x7 l8 x8 p3 HM.out.2 ((HM.out.1.below hB).more hle1)).mono ?_; rw [HT.out]; rintro e w3 ⟨he, hb3⟩; obtain rfl : e = _ := he)
            go_ret2
            refine ⟨?_, by (repeat (first | with_reducible assumption | with_reducible refine below_drewN ?_ _ | with_reducible refine Below.drew ?_ | with_reducible refine below_alloc ?_ _ | with_reducible refine Below.setCell ?_ (by first | omega | (simp; done) | (simp; omega)) _ | with_reducible refine below_then ?_ (by with_reducible assumption)))⟩
            rw [prF_bad hab hlt2 HT.out]
            rfl
          | some s =>
            have HT := Lib.hid ht
            clear ht
            go_wp2_with (go_at_call 44; refine (total2 A c l _ wo.heap.size gb a b l7 x7 l8 x8 p3 HM.out.2 ((HM.out.1.below hB).more hle1)).mono ?_; rw [HT.out]; rintro e w3 ⟨he, hb3⟩; obtain rfl : e = _ := he)
            have f7 := ((h7.then_ hb3).alloc (.cells #[.int .i64 s.num, .int .i64 s.den] 44)).one.1
            have f8 := ((h8.then_ hb3).alloc (.cells #[.int .i64 s.num, .int .i64 s.den] 44)).one.1
            have f9 := (Blk.new w3 44 #[.int .i64 s.num, .int .i64 s.den]).two
            obtain ⟨f9, f10, _, _⟩ := f9
            have ka : (0 : Int) ≤ (a : Int) := by omega
            have kb : (0 : Int) ≤ (b : Int) := by omega
            have ka2 : (a : Int) < 12 := by omega
            have kb2 : (b : Int) < 12 := by omega
            have rg0 := cell_regrown f7
            have rg1 := cell_regrown f8
            have rg2 := cell_regrown f9
            have rg3 := cell_regrown f10
            refine wp_region_qt [0, 1, 2, 3, 4] [5] (by kernel_rfl) (by kernel_rfl) (by repeat (first | with_reducible refine panOk_then ?_ | with_reducible refine panOk_block ?_ | exact panOk_body)) ?_
            simp only [opsAt, List.getElem?_toArray, List.getElem?_cons_succ, List.getElem?_cons_zero, Option.toList_some, List.cons_append, List.nil_append]
            repeat (go_big_quiet_step (fail))
            refine wpQuiet_nil ?_
            intro w2 hw2
            have hb := qt_world hw2
            clear hw2 rg0 rg1 rg2 rg3
            clear f7 f8 f9 f10
            have g7 := ((h7.then_ hb3).alloc _).then_ hb
            have g8 := ((h8.then_ hb3).alloc _).then_ hb
            have gT := ((hT.then_ hb3).alloc _).then_ hb
            have hsz := hD.out.1
            obtain ⟨z1, hz1'⟩ : ∃ u, cs[a * 24 + b * 2]? = some u := ⟨_, Array.getElem?_eq_getElem (by omega)⟩
            obtain ⟨z2, hz2'⟩ : ∃ u, cs[a * 24 + b * 2 + 1]? = some u := ⟨_, Array.getElem?_eq_getElem (by omega)⟩
            have q1 := (gT.cell (a * 24 + b * 2)).trans hz1'
            have q2 := (gT.cell (a * 24 + b * 2 + 1)).trans hz2'
            have q3 := gT.frozen (a * 24 + b * 2)
            have q4 := gT.frozen (a * 24 + b * 2 + 1)
            have q5 := g8.one.1
            have q6 := g8.lt
            have q7 := gT.lt
            clear hsz hz1' hz2'
            have N3 : Blk (((w2.setCell ⟨w1.heap.size, a * 24 + b * 2, none⟩ (.int .i64 s.num)).setCell ⟨w1.heap.size, a * 24 + b * 2 + 1, none⟩ (.int .i64 s.den)).alloc (.cells #[.int .i64 ((b : Int) + 1)] 3)) w2.heap.size 3 #[.int .i64 (b + 1 : Nat)] := by
              have := Blk.new ((w2.setCell ⟨w1.heap.size, a * 24 + b * 2, none⟩ (.int .i64 s.num)).setCell ⟨w1.heap.size, a * 24 + b * 2 + 1, none⟩ (.int .i64 s.den)) 3 #[.int .i64 (b + 1 : Nat)]
              simpa using this
            go_wp2
            go_roundw
            case rel =>
              refine ⟨b + 1, w2.heap.size, _, by omega, by omega, rfl, by have := hb.size; have := hb3.size; simp at *; omega, Done.step hD.out p2 hab hlt2 HT.out, ?_, ?_, ?_, by (repeat (first | with_reducible assumption | with_reducible refine below_drewN ?_ _ | with_reducible refine Below.drew ?_ | with_reducible refine below_alloc ?_ _ | with_reducible refine Below.setCell ?_ (by first | omega | (simp; done) | (simp; omega)) _ | with_reducible refine below_then ?_ (by with_reducible assumption)))⟩
              · exact ((gT.set_ _ _).set_ _ _).alloc _
              · exact ((g7.far (by simp; omega) _).far (by simp; omega) _).alloc _
              · exact N3
            case measure =>
              rw [msr_eq N3, msr_eq h8]
              omega
        · go_wp2
          go_roundw
          case rel =>
            obtain rfl : b = p := by omega
            exact ⟨a + 1, cs, by omega, by go_num, hD.out.row, hT, hB⟩
          case measure => simp [intOf]; omega
    · obtain rfl : a = p := by omega
      clear hlt
      go_wp2
      go_loopw [11, 47] (fun v i wq => ∃ (a' : Nat) (ys : List Db), a' ≤ a ∧ i = .int .i64 a' ∧ Hid (prF l a a' = some ys) ∧ Own wq wo.heap.size 55 4 encD v ys ∧ Blk wq w1.heap.size 83 cs ∧ Below w.heap.size w wq ∧ wo.heap.size ≤ wq.heap.size) (fun _ i _ => a - (intOf i).toNat)
      case atStart => exact ⟨0, [], by omega, rfl, rfl, Own.nil .., hT, hB, Nat.le_refl _⟩
      case round =>
        obtain ⟨a', ys, hk', rfl, hP, hO, hT, hB, hw0⟩ := hrel
        obtain ⟨wq, rfl⟩ : ∃ wq : World, wq = wr := ⟨_, rfl⟩
        have hys := prF_len hP.out
        have hys' : ys.length ≤ 144 := Nat.le_trans hys (Nat.mul_le_mul (show a' ≤ 12 by omega) p2)
        clear hys
        by_cases hlt : a' < a
        · go_wp2
          go_loopw [11, 13] (fun v i wr => ∃ (m : Nat) (zs : List Db), a' + 1 + m ≤ a ∧ i = .int .i64 (a' + 1 + m : Nat) ∧ Hid (rowF l a' m = some zs) ∧ Own wr wo.heap.size 55 4 encD v (ys ++ zs) ∧ Blk wr w1.heap.size 83 cs ∧ Below w.heap.size w wr ∧ wo.heap.size ≤ wr.heap.size) (fun _ i _ => a - (intOf i).toNat)
          case atStart => exact ⟨0, [], by omega, by go_num, rfl, by rw [List.append_nil]; exact hO, hT, hB, hw0⟩
          case round =>
            obtain ⟨m, zs, hm, rfl, hR, hO, hT, hB, hw0⟩ := hrel
            have hzs := rowF_len hR.out
            have hyz : (ys ++ zs).length ≤ 400 := by rw [List.length_append]; omega
            clear hzs
            by_cases hlt2 : a' + 1 + m < a
            · obtain ⟨t, ht, e1, e2⟩ := hD.out.2 a' (a' + 1 + m) (by omega) hlt2 (by omega)
              have HN0 := rowF_some hR.out ht
              have q1 := (hT.cell _).trans e1
              have q2 := (hT.cell _).trans e2
              have lT := hT.lt
              generalize hbb : a' + 1 + m = b at hlt2 q1 q2 HN0
              have HB := Lib.hid hbb
              have HN := Lib.hid HN0
              have hin := inR_bd (totF_inR ht)
              clear hbb hm HN0 ht e1 e2
              have ka : (0 : Int) ≤ (a' : Int) := by omega
              have kb : (0 : Int) ≤ (b : Int) := by omega
              have ka2 : (a' : Int) < 12 := by omega
              have kb2 : (b : Int) < 12 := by omega
              rcases (show 0 < t.num ∨ t.num < 0 ∨ t.num = 0 by omega) with hs | hs | hs
              · have HD := Lib.hid (prD_pos (a := a') (b := b) hs)
                go_wp2_with (at_builtin; go_loud (refine wpList_app _ rfl (.tmp 66) (.tmp 71) _ rfl wo.heap.size 55 i0 _ 4 32 Try.underlying23 hi hz0 hz1 hz2 rfl (by omega) (by omega) encD encD_len encD_one _ (ys ++ zs) rfl ((hO.alloc _).alloc _) (by omega) (wr.heap.size + 1) 1 ⟨a', b, t.num, t.den⟩ rfl (blk_new1 _ _ _ _) (by simp; omega) ?_); intro v5 w5 hO5 hb5 hg5; have hx5 : w5.cell? ⟨wr.heap.size, 0, none⟩ = some (.int .i64 t.num) := (by rw [grown_cell hO hg5 0 (by omega) (by simp; omega)]; simp [go_sem]))
                go_roundw
                case rel => exact ⟨m + 1, zs ++ prD a' b t, by have := HB.out; omega, by have := HB.out; go_num, HN.out, by rw [HD.out, ← List.append_assoc]; exact hO5, ((hT.alloc _).alloc _).below hb5 (by omega), (below_alloc (below_alloc hB _) _).trans (hb5.mono hle0), by have := hb5.size; simp at this; omega⟩
                case measure => simp [intOf]; omega
              · have HD := Lib.hid (prD_neg (a := a') (b := b) hs)
                have hs' : ¬ 0 < t.num := by omega
                go_wp2_with (first | (go_at_call 46; refine (opp_any t.num t.den _ (by omega) (by omega)).mono ?_; rintro e w6 ⟨rfl, hb6⟩; have hle6 : wr.heap.size + 1 ≤ w6.heap.size := (by have := hb6.size; simp at this; omega)) | (at_builtin; go_loud (refine wpList_app _ rfl (.tmp 77) (.tmp 83) _ rfl wo.heap.size 55 i0 _ 4 32 Try.underlying23 hi hz0 hz1 hz2 rfl (by omega) (by omega) encD encD_len encD_one _ (ys ++ zs) rfl (((hO.alloc _).below hb6).alloc _) (by omega) w6.heap.size 1 ⟨b, a', -t.num, t.den⟩ rfl (Blk.new _ _ _) (by simp; omega) ?_); intro v5 w5 hO5 hb5 hg5))
                go_roundw
                case rel => exact ⟨m + 1, zs ++ prD a' b t, by have := HB.out; omega, by have := HB.out; go_num, HN.out, by rw [HD.out, ← List.append_assoc]; exact hO5, (((hT.alloc _).then_ hb6).alloc _).below hb5 (by omega), (below_alloc (below_then (below_alloc hB _) hb6) _).trans (hb5.mono hle0), by have := hb5.size; simp at this; omega⟩
                case measure => simp [intOf]; omega
              · have HD := Lib.hid (prD_zero (a := a') (b := b) hs)
                have hs' : ¬ 0 < t.num := by omega
                have hs2 : ¬ t.num < 0 := by omega
                clear hs
                go_wp2
                go_roundw
                case rel => exact ⟨m + 1, zs ++ prD a' b t, by have := HB.out; omega, by have := HB.out; go_num, HN.out, by rw [HD.out, List.append_nil]; exact hO.alloc _, hT.alloc _, below_alloc hB _, by simp; omega⟩
                case measure => simp [intOf]; omega
            · go_wp2
              go_roundw
              case rel =>
                obtain rfl : m = a - (a' + 1) := by omega
                exact ⟨a' + 1, ys ++ zs, by omega, by go_num, prF_some hP.out hR.out, hO, hT, hB, hw0⟩
              case measure => simp [intOf]; omega
        · go_wp2
          go_ret2
          obtain rfl : a' = a := by omega
          exact ⟨by rw [hP.out]; exact ⟨_, rfl, hO.more hle0⟩, hB⟩
end Go.Proofs.Yteoicnhnpailiaa
