/- The walks of estoppelref42.Total and Amounts, and of ratio.Add and Div where the first ratio is 0/0. -/
import Derived.Test.YthgbdpiihdhfiaaN15
import Derived.Test.YthgbdpiihdhfiaaNet7
import Derived.Test.YthgbdpiihdhfiaaBox
import Derived.Test.YthgbdpiihdhfiaaN11
namespace Go.Proofs.Ythgbdpiihdhfiaa
open Go.RowKit Go.Sort

theorem qOf_num {x : Db} (h : vld x.n x.d = true) : encR (qOf x) = [.int .i64 x.n, .int .i64 x.d] := by
  obtain ⟨h1, h2, _⟩ := qOf_vld h
  unfold encR; rw [h1, h2]

/-- the amounts of debts -/
theorem amounts_any (A : Option Addr) (c : Nat) (l : List Db) (w : World) (hl : l.length ≤ 400) (hv : ∀ x ∈ l, vld x.n x.d = true) (hm : Seg w w.heap.size 4 encD A l) :
    Calls Try.prog 22 #[.slice A l.length c] w fun e w' => (∃ v, e = .returned v ∧ Own w' w.heap.size 34 2 encR v (l.map qOf)) ∧ Below w.heap.size w w' := by
  obtain ⟨i0, hi, hz0, hz1, hz2⟩ := info_parts infoR
  have HM := Lib.hid (And.intro hm hv)
  clear hm hv
  go_enter Try.func22, Try.ntmps22
  go_wp2_with fail
  go_loopw [3, 4] (fun v i wr => ∃ k : Nat, k ≤ l.length ∧ i = .int .i64 k ∧ Own wr w.heap.size 34 2 encR v ((l.take k).map qOf) ∧ Below w.heap.size w wr) (fun _ i _ => l.length - (intOf i).toNat)
  case atStart => exact ⟨0, by omega, rfl, Own.nil .., Below.refl _ _⟩
  case round =>
    obtain ⟨k, hk, rfl, hO, hB⟩ := hrel
    have hle0 := hB.size
    by_cases hlt : k < l.length
    · obtain ⟨x, hx⟩ : ∃ x, l[k]? = some x := ⟨_, List.getElem?_eq_getElem hlt⟩
      obtain ⟨g, off, rfl, hb, c0, c1, c2, c3⟩ := segD (HM.out.1.below hB) hx
      have hbl : g < wr.heap.size := Nat.lt_of_lt_of_le hb hle0
      have HQ := Lib.hid (qOf_num (HM.out.2 x (List.mem_of_getElem? hx)))
      have HT := Lib.hid (show (l.take (k + 1)).map qOf = (l.take k).map qOf ++ [qOf x] by
        obtain ⟨hk, rfl⟩ := List.getElem?_eq_some_iff.1 hx
        rw [List.take_succ_eq_append_getElem hk, List.map_append]; rfl)
      have hlen : ((l.take k).map qOf).length ≤ 400 := by rw [List.length_map, List.length_take]; omega
      clear hx
      generalize (l.take k).map qOf = ys at hO HT hlen
      go_wp2_with (at_builtin; go_loud (refine wpList_app _ rfl (.tmp 11) (.tmp 17) _ rfl w.heap.size 34 i0 _ 2 16 Try.underlying24 hi hz0 hz1 hz2 rfl (by omega) (by omega) encR encR_len encR_one _ ys rfl (hO.alloc _) (by omega) wr.heap.size 1 (qOf x) rfl (by rw [HQ.out]; exact Blk.new _ _ _) (by simp; omega) ?_); intro v4 w4 hO4 hb4 _)
      go_roundw
      case rel => exact ⟨k + 1, by omega, by go_num, by rw [HT.out]; exact hO4, (below_alloc hB _).trans hb4⟩
      case measure => simp [intOf]; omega
    · go_wp2
      go_ret
      obtain rfl : k = l.length := by omega
      rw [List.take_length] at hO
      exact ⟨⟨_, rfl, hO⟩, hB⟩

/-- what Total returns -/
def TotB (o : Option Rat) (e : Ending) : Prop :=
  match o with
  | some s => e = .returned (.tuple #[.agg #[.int .i64 s.num, .int .i64 s.den], .bool true])
  | none => e = .returned (.tuple #[.agg #[.int .i64 0, .int .i64 0], .bool false])
theorem ab_neg_num {q : Rat} (h : q.num < 0) : (ab q).num = -q.num ∧ ((ab q).den : Int) = q.den := by rw [ab_num_neg h]; exact ⟨rfl, rfl⟩
theorem ab_pos_num {q : Rat} (h : ¬ q.num < 0) : (ab q).num = q.num ∧ ((ab q).den : Int) = q.den := by rw [ab_num_pos h]; exact ⟨rfl, rfl⟩
set_option maxRecDepth 100000 in
set_option maxHeartbeats 1600000 in
theorem total_any (A : Option Addr) (c : Nat) (qs : List Rat) (w : World) (hl : qs.length ≤ 1000) (hq : ∀ q ∈ qs, inR q = true) (hm : Seg w w.heap.size 2 encR A qs) :
    Calls Try.prog 21 #[.slice A qs.length c] w fun e w' => TotB (totA qs) e ∧ Below w.heap.size w w' := by
  have HM := Lib.hid (And.intro hm hq)
  clear hm hq
  go_enter Try.func21, Try.ntmps21
  go_wp2_with (go_at_call 43; refine (zero_any _).mono ?_; rintro e w1 ⟨rfl, hb⟩; obtain ⟨hc, hf⟩ := bcell hb; have hz := hb.size; (try simp at hz); (have zl0 : w.heap.size < w1.heap.size := by omega); (have ze0 : w.heap.size ≤ w1.heap.size := by omega))
  have K0 : Blk (w1.alloc (.cells #[.int .i64 0, .int .i64 1] 34)) w.heap.size 34 #[.int .i64 0, .int .i64 0] := ((Blk.new w 34 #[.int .i64 0, .int .i64 0]).then_ hb).alloc _
  have B0 : Below w.heap.size w (w1.alloc (.cells #[.int .i64 0, .int .i64 1] 34)) := below_alloc (below_then (wa1 w _) hb) _
  have hw1 : w.heap.size ≤ w1.heap.size := by have := hb.size; simp at this; omega
  go_loopw [5] (fun i wr => ∃ (k : Nat) (s : Rat), k ≤ qs.length ∧ i = .int .i64 k ∧ Hid (totA (qs.take k) = some s ∧ inR s = true) ∧ Blk wr w.heap.size 34 #[.int .i64 0, .int .i64 0] ∧ Blk wr w1.heap.size 34 #[.int .i64 s.num, .int .i64 s.den] ∧ Below w.heap.size w wr) (fun i _ => qs.length - (intOf i).toNat)
  case atStart => exact ⟨0, 0, by omega, rfl, ⟨rfl, by decide⟩, K0, Blk.new _ _ _, B0⟩
  case round =>
    clear K0 B0 hc hf hz hb zl0 ze0
    obtain ⟨k, s, hk, rfl, hS, hk0, hk1, hB⟩ := hrel
    obtain ⟨d0, d1, d2, d3⟩ := hk0.two
    obtain ⟨s0, s1, s2, s3⟩ := hk1.two
    have hlt0 := hk0.lt
    have hlt1 := hk1.lt
    by_cases hlt : k < qs.length
    · obtain ⟨x, hx⟩ : ∃ x, qs[k]? = some x := ⟨_, List.getElem?_eq_getElem hlt⟩
      obtain ⟨b, off, rfl, hb, c0, c1⟩ := segR (HM.out.1.below hB) hx
      have hin := HM.out.2 x (List.mem_of_getElem? hx)
      have hbl : b < wr.heap.size := Nat.lt_of_lt_of_le hb hB.size
      have bx := inR_bd hin
      have HX := Lib.hid hx
      have HI := Lib.hid hin
      clear hx hin
      have HS : Hid (stA x s = if inR (s + ab x) then some (s + ab x) else none) := rfl
      have HA0 := fun W e3 e4 => radd_of (n2 := (ab x).num) (d2 := (ab x).den) s (ab x) W hS.out.2 (ab_inR HI.out) rfl rfl e3 e4
      generalize s + ab x = r at HS HA0
      have HT := Lib.hid (totA_take HX.out)
      have HA := Lib.hid HA0
      clear HA0
      have zA : w.heap.size < wr.heap.size + 1 := by omega
      have zB : w1.heap.size < wr.heap.size + 1 := by omega
      have zC : wr.heap.size < wr.heap.size + 1 := by omega
      have hne : w.heap.size ≠ w1.heap.size := fun e => by
        have h1 := hk0.cell 0
        have h2 := hk1.cell 0
        have h3 := hk0.cell 1
        have h4 := hk1.cell 1
        rw [e, h4] at h3
        have hp := s.den_pos
        simp at h3
        omega
      by_cases hn : x.num < 0
      all_goals
        have HC := fun W => HA.out W rfl rfl
        first | rw [(ab_neg_num hn).1, (ab_neg_num hn).2] at HC | rw [(ab_pos_num hn).1, (ab_pos_num hn).2] at HC
        cases hin : inR r
        · have e1 := oE_no hin
          simp only [e1, oN_no hin, oD_no hin] at HC
          have HN := Lib.hid hin
          have HCH := Lib.hid HC
          clear HC e1 hin
          go_wp2_with (first | (go_at_call 32; refine (minus_any x.num x.den _ bx.1 bx.2.1).mono ?_; rintro e w2 ⟨rfl, hb2⟩; obtain ⟨hc2, hf2⟩ := bcell hb2; have hz2 := hb2.size; simp at hz2; have zl : wr.heap.size < w2.heap.size := (by omega); have zA2 : w.heap.size < w2.heap.size := (by omega); have zB2 : w1.heap.size < w2.heap.size := (by omega)) | (go_at_call 37; go_loud (refine (HCH.out _).mono ?_; rintro e w3 ⟨rfl, hb3⟩; obtain ⟨hc3, hf3⟩ := bcell hb3; have hz3 := hb3.size; (try simp at hz3)); have zl3 : wr.heap.size < w3.heap.size := (by omega); have zA3 : w.heap.size < w3.heap.size := (by omega); have zB3 : w1.heap.size < w3.heap.size := (by omega)))
          refine bodyPost_ret (ret_rat rfl rfl (by (repeat (first | with_reducible assumption | with_reducible refine Blk.alloc ?_ _ | with_reducible refine Blk.drewN ?_ _ | with_reducible apply Blk.setT0 | with_reducible apply Blk.setT1 | with_reducible refine Blk.far ?_ (by first | (simp; done) | omega | (simp; omega)) _ | with_reducible refine Blk.then_ ?_ (by with_reducible assumption))))) rfl ⟨?_, ?_⟩
          · have : totA qs = none := totA_none (k := k + 1) (by rw [HT.out, hS.out.1]; show stA x s = none; rw [HS, HN.out]; rfl)
            rw [this]; rfl
          · (repeat (first | with_reducible assumption | with_reducible refine below_drewN ?_ _ | with_reducible refine Below.drew ?_ | with_reducible refine below_alloc ?_ _ | with_reducible refine Below.setCell ?_ (by first | omega | (simp; done) | (simp; omega)) _ | with_reducible refine below_then ?_ (by with_reducible assumption)))
        · have e1 := oE_yes hin
          simp only [e1, oN_yes hin, oD_yes hin] at HC
          have HN := Lib.hid hin
          have HCH := Lib.hid HC
          clear HC e1 hin
          go_wp2_with (first | (go_at_call 32; refine (minus_any x.num x.den _ bx.1 bx.2.1).mono ?_; rintro e w2 ⟨rfl, hb2⟩; obtain ⟨hc2, hf2⟩ := bcell hb2; have hz2 := hb2.size; simp at hz2; have zl : wr.heap.size < w2.heap.size := (by omega); have zA2 : w.heap.size < w2.heap.size := (by omega); have zB2 : w1.heap.size < w2.heap.size := (by omega)) | (go_at_call 37; go_loud (refine (HCH.out _).mono ?_; rintro e w3 ⟨rfl, hb3⟩; obtain ⟨hc3, hf3⟩ := bcell hb3; have hz3 := hb3.size; (try simp at hz3)); have zl3 : wr.heap.size < w3.heap.size := (by omega); have zA3 : w.heap.size < w3.heap.size := (by omega); have zB3 : w1.heap.size < w3.heap.size := (by omega)))
          go_roundw
          case rel =>
            refine ⟨k + 1, r, by omega, by go_num, ⟨by rw [HT.out, hS.out.1]; show stA x s = some r; rw [HS, HN.out]; rfl, HN.out⟩, ?_, ?_, by (repeat (first | with_reducible assumption | with_reducible refine below_drewN ?_ _ | with_reducible refine Below.drew ?_ | with_reducible refine below_alloc ?_ _ | with_reducible refine Below.setCell ?_ (by first | omega | (simp; done) | (simp; omega)) _ | with_reducible refine below_then ?_ (by with_reducible assumption)))⟩
            · (repeat (first | with_reducible assumption | with_reducible refine Blk.alloc ?_ _ | with_reducible refine Blk.drewN ?_ _ | with_reducible apply Blk.setT0 | with_reducible apply Blk.setT1 | with_reducible refine Blk.far ?_ (by first | (simp; done) | omega | (simp; omega)) _ | with_reducible refine Blk.then_ ?_ (by with_reducible assumption)))
            · (repeat (first | with_reducible assumption | with_reducible refine Blk.alloc ?_ _ | with_reducible refine Blk.drewN ?_ _ | with_reducible apply Blk.setT0 | with_reducible apply Blk.setT1 | with_reducible refine Blk.far ?_ (by first | (simp; done) | omega | (simp; omega)) _ | with_reducible refine Blk.then_ ?_ (by with_reducible assumption)))
          case measure => simp [intOf]; omega
    · go_wp2
      refine bodyPost_ret (ret_rat rfl rfl (by (repeat (first | with_reducible assumption | with_reducible refine Blk.alloc ?_ _ | with_reducible refine Blk.drewN ?_ _ | with_reducible apply Blk.setT0 | with_reducible apply Blk.setT1 | with_reducible refine Blk.far ?_ (by first | (simp; done) | omega | (simp; omega)) _ | with_reducible refine Blk.then_ ?_ (by with_reducible assumption))))) rfl ⟨?_, ?_⟩
      · obtain rfl : k = qs.length := by omega
        have := hS.out.1
        rw [List.take_length] at this
        rw [this]; rfl
      · (repeat (first | with_reducible assumption | with_reducible refine below_drewN ?_ _ | with_reducible refine Below.drew ?_ | with_reducible refine below_alloc ?_ _ | with_reducible refine Below.setCell ?_ (by first | omega | (simp; done) | (simp; omega)) _ | with_reducible refine below_then ?_ (by with_reducible assumption)))

/-- checked at an invalid first ratio -/
theorem checked_bad (n1 d1 n2 d2 : Int) (k : Nat) (cap : Array Value) (w : World) (h : vld n1 d1 = false) (b1 : -9223372036854775808 ≤ n1 ∧ n1 ≤ 9223372036854775807) (b2 : -9223372036854775808 ≤ d1 ∧ d1 ≤ 9223372036854775807) :
    Calls Try.prog 40 #[.agg #[.int .i64 n1, .int .i64 d1], .agg #[.int .i64 n2, .int .i64 d2], .func (.func k) #[] cap] w fun e w' =>
      e = .returned (.tuple #[.agg #[.int .i64 0, .int .i64 0], .int .i64 1]) ∧ Below w.heap.size w w' := by
  have HV := fun W => valid_any n1 d1 W b1.1 b1.2 b2.1 b2.2
  rw [h] at HV
  have H := Lib.hid HV
  clear HV h
  go_enter Try.func40, Try.ntmps40
  go_wp2_with (go_at_call 38; refine (H.out _).mono ?_; rintro e w1 ⟨rfl, hb⟩; obtain ⟨hc, hf⟩ := bcell hb; have hz := hb.size; (try simp at hz); (have zl0 : w.heap.size < w1.heap.size := by omega); (have ze0 : w.heap.size ≤ w1.heap.size := by omega); (have zl1 : w.heap.size + 1 < w1.heap.size := by omega); (have ze1 : w.heap.size + 1 ≤ w1.heap.size := by omega); (have zl2 : w.heap.size + 1 + 1 < w1.heap.size := by omega); (have ze2 : w.heap.size + 1 + 1 ≤ w1.heap.size := by omega))
  refine bodyPost_ret (by simp [results, Try.results40, go_sem, *]; rfl) rfl ⟨?_, ?_⟩
  · rfl
  · (repeat (first | exact Below.refl _ _ | refine below_drewN ?_ _ | refine Below.drew ?_ | refine below_alloc ?_ _ | refine Below.setCell ?_ (by first | omega | (simp; done) | (simp; omega)) _ | refine below_then ?_ (by assumption)))
theorem add_bad (n1 d1 n2 d2 : Int) (w : World) (h : vld n1 d1 = false) (b1 : -9223372036854775808 ≤ n1 ∧ n1 ≤ 9223372036854775807) (b2 : -9223372036854775808 ≤ d1 ∧ d1 ≤ 9223372036854775807) :
    Calls Try.prog 20 #[.agg #[.int .i64 n1, .int .i64 d1], .agg #[.int .i64 n2, .int .i64 d2]] w fun e w' =>
      e = .returned (.tuple #[.agg #[.int .i64 0, .int .i64 0], .int .i64 1]) ∧ Below w.heap.size w w' := by
  have H := Lib.hid (fun k cap W => checked_bad n1 d1 n2 d2 k cap W h b1 b2)
  clear h
  go_enter Try.func20, Try.ntmps20
  go_wp2_with (go_at_call 40; refine (H.out _ _ _).mono ?_; rintro e w1 ⟨rfl, hb⟩; obtain ⟨hc, hf⟩ := bcell hb; have hz := hb.size; (try simp at hz); (have zl0 : w.heap.size < w1.heap.size := by omega); (have ze0 : w.heap.size ≤ w1.heap.size := by omega); (have zl1 : w.heap.size + 1 < w1.heap.size := by omega); (have ze1 : w.heap.size + 1 ≤ w1.heap.size := by omega); (have zl2 : w.heap.size + 1 + 1 < w1.heap.size := by omega); (have ze2 : w.heap.size + 1 + 1 ≤ w1.heap.size := by omega))
  refine bodyPost_ret (by simp [results, Try.results20, go_sem, *]; rfl) rfl ⟨?_, ?_⟩
  · rfl
  · (repeat (first | exact Below.refl _ _ | refine below_drewN ?_ _ | refine Below.drew ?_ | refine below_alloc ?_ _ | refine Below.setCell ?_ (by first | omega | (simp; done) | (simp; omega)) _ | refine below_then ?_ (by assumption)))
theorem div_bad (n1 d1 n2 d2 : Int) (w : World) (h : vld n1 d1 = false) (b1 : -9223372036854775808 ≤ n1 ∧ n1 ≤ 9223372036854775807) (b2 : -9223372036854775808 ≤ d1 ∧ d1 ≤ 9223372036854775807) :
    Calls Try.prog 23 #[.agg #[.int .i64 n1, .int .i64 d1], .agg #[.int .i64 n2, .int .i64 d2]] w fun e w' =>
      e = .returned (.tuple #[.agg #[.int .i64 0, .int .i64 0], .int .i64 1]) ∧ Below w.heap.size w w' := by
  have H := Lib.hid (fun k cap W => checked_bad n1 d1 n2 d2 k cap W h b1 b2)
  clear h
  go_enter Try.func23, Try.ntmps23
  go_wp2_with (go_at_call 40; refine (H.out _ _ _).mono ?_; rintro e w1 ⟨rfl, hb⟩; obtain ⟨hc, hf⟩ := bcell hb; have hz := hb.size; (try simp at hz); (have zl0 : w.heap.size < w1.heap.size := by omega); (have ze0 : w.heap.size ≤ w1.heap.size := by omega); (have zl1 : w.heap.size + 1 < w1.heap.size := by omega); (have ze1 : w.heap.size + 1 ≤ w1.heap.size := by omega); (have zl2 : w.heap.size + 1 + 1 < w1.heap.size := by omega); (have ze2 : w.heap.size + 1 + 1 ≤ w1.heap.size := by omega))
  refine bodyPost_ret (by simp [results, Try.results23, go_sem, *]; rfl) rfl ⟨?_, ?_⟩
  · rfl
  · (repeat (first | exact Below.refl _ _ | refine below_drewN ?_ _ | refine Below.drew ?_ | refine below_alloc ?_ _ | refine Below.setCell ?_ (by first | omega | (simp; done) | (simp; omega)) _ | refine below_then ?_ (by assumption)))
end Go.Proofs.Ythgbdpiihdhfiaa
