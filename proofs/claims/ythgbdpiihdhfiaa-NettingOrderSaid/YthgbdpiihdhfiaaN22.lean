/- The walk of NettingOrder: the opposite order of the debts. -/
import Derived.Test.YthgbdpiihdhfiaaN19
namespace Go.Proofs.Ythgbdpiihdhfiaa
open Go.RowKit Go.Sort

/-- the outcomes in the two orders -/
theorem order_cases (p : Int) (l : List Db) :
    (posE p l = 1 ∧ posE p l.reverse = 1 ∧ ntE p l = 1 ∧ ntE p l.reverse = 1) ∨
    (posE p l = 0 ∧ posE p l.reverse = 0 ∧ posL p l.reverse = posL p l ∧ ntE p l = 0 ∧ ntE p l.reverse = 0 ∧ ntL p l.reverse = ntL p l) ∨
    (posE p l = 0 ∧ posE p l.reverse = 0 ∧ posL p l.reverse = posL p l ∧ ntE p l = 2 ∧ ntE p l.reverse = 2) ∨
    (posE p l = 0 ∧ posE p l.reverse = 2 ∧ ntE p l.reverse = 2) ∨ (posE p l = 2 ∧ posE p l.reverse = 0 ∧ ntE p l = 2) ∨ (posE p l = 2 ∧ posE p l.reverse = 2 ∧ ntE p l = 2 ∧ ntE p l.reverse = 2) := by
  cases hv : validD p l with
  | false =>
    have hv' : validD p l.reverse = false := by rw [validD_reverse]; exact hv
    left
    simp [posE, ntE, hv, hv']
  | true =>
    obtain ⟨n, rfl, _⟩ := valid_nat hv
    have hv' : validD (n : Int) l.reverse = true := by rw [validD_reverse]; exact hv
    right
    rw [posE_val hv, posE_val hv', ntE_val hv, ntE_val hv', posL_val hv, posL_val hv', ntL_val hv, ntL_val hv']
    unfold netL
    cases h1 : posF l n with
    | none =>
      cases h2 : posF l.reverse n with
      | none => simp
      | some r => simp
    | some qs =>
      cases h2 : posF l.reverse n with
      | none => simp
      | some r =>
        have := pos_reverse h1 h2
        subst this
        cases h3 : netF (n + 1) r [] with
        | none => simp [h3]
        | some ms => simp [h3]
theorem order_pairs (p : Int) (l : List Db) : (prE p l = 0 ∧ prE p l.reverse = 0 ∧ prL p l.reverse = prL p l) ∨ (prE p l == 0) = false ∨ ((prE p l == 0) = true ∧ (prE p l.reverse == 0) = false) := by
  by_cases h1 : prE p l = 0
  · by_cases h2 : prE p l.reverse = 0
    · left
      refine ⟨h1, h2, ?_⟩
      obtain ⟨n, rfl, hv, ys, hy, hL⟩ := prE_zero h1
      obtain ⟨m, hm, hv', zs, hz, hL'⟩ := prE_zero h2
      obtain rfl : n = m := by omega
      rw [hL, hL', pr_reverse hy hz]
    · exact .inr (.inr ⟨by simp [h1], by simp [h2]⟩)
  · exact .inr (.inl (by simp [h1]))
theorem args_rev {p : Int} {l : List Db} (h : Args p l) : Args p l.reverse := ⟨h.p1, h.p2, by simpa using h.len, fun x hx => h.fit x (by simpa using hx)⟩
theorem take_rev {l : List Db} {t : Nat} {x : Db} (hx : l[t]? = some x) : l.reverse.take (l.length - t) = l.reverse.take (l.length - (t + 1)) ++ [x] := by
  obtain ⟨ht, rfl⟩ := List.getElem?_eq_some_iff.1 hx
  rw [show l.length - t = l.length - (t + 1) + 1 by omega, List.take_succ_eq_append_getElem (by simp; omega)]
  congr 2
  rw [List.getElem_reverse]
  congr 1; omega

set_option maxRecDepth 100000 in
set_option maxHeartbeats 6400000 in
theorem order_any {p : Int} {l : List Db} (h : Args p l) (A : Option Addr) (c : Nat) (w : World) (hm : Seg w w.heap.size 4 encD A l) :
    Calls Try.prog 7 #[.int .i64 p, .slice A l.length c] w fun e w' => e = .returned (.bool true) ∧ Below w.heap.size w w' := by
  have hlen := h.len
  obtain ⟨i0, hi, hz0, hz1, hz2⟩ := info_parts infoD
  by_cases hl : l.length ≤ 400
  · have H := Lib.hid h
    have HS := Lib.hid hm
    have g1 := posL_len p l
    have g2 := prL_len p l
    have g3 := ntL_len p l
    clear hm h
    go_enter Try.func7, Try.ntmps7
    go_wp2_with (go_at_call 9; refine (head_any _).mono ?_; rintro e w0 ⟨rfl, b0⟩)
    have hle0 := b0.size
    go_loopw [6, 7] (fun v i wr => ∃ j : Nat, j ≤ l.length ∧ i = .int .i64 ((j : Int) - 1) ∧ Own wr w.heap.size 38 4 encD v (l.reverse.take (l.length - j)) ∧ Below w.heap.size w wr) (fun _ i _ => (intOf i + 1).toNat)
    case atStart => exact ⟨l.length, by omega, rfl, by rw [Nat.sub_self, List.take_zero]; exact Own.nil .., b0⟩
    case round =>
      obtain ⟨j, hj, rfl, hO, hB⟩ := hrel
      have hle := hB.size
      by_cases hlt : 0 < j
      · obtain ⟨t, rfl⟩ : ∃ t, j = t + 1 := ⟨j - 1, by omega⟩
        rw [show (((t + 1 : Nat) : Int)) - 1 = (t : Int) by omega]
        obtain ⟨x, hx⟩ : ∃ x, l[t]? = some x := ⟨_, List.getElem?_eq_getElem (by omega)⟩
        obtain ⟨g, off, rfl, hb, q0, q1, q2, q3⟩ := segD (HS.out.below hB) hx
        have hbl : g < wr.heap.size := Nat.lt_of_lt_of_le hb hle
        have HT := Lib.hid (take_rev hx)
        have hlen2 : (l.reverse.take (l.length - (t + 1))).length ≤ 400 := by rw [List.length_take]; omega
        clear hx hlt
        have ht1 : (t : Int) < (l.length : Int) := by omega
        generalize l.reverse.take (l.length - (t + 1)) = ys at hO HT hlen2
        go_wp2_with (at_builtin; go_loud (refine wpList_app _ rfl (.tmp 32) (.tmp 37) _ rfl w.heap.size 38 i0 _ 4 32 Try.underlying22 hi hz0 hz1 hz2 rfl (by omega) (by omega) encD encD_len encD_one _ ys rfl (hO.alloc _) (by omega) wr.heap.size 1 x rfl (Blk.new _ _ _) (by simp; omega) ?_); intro v4 w4 hO4 hb4 _)
        go_roundw
        case rel => exact ⟨t, by omega, rfl, by rw [HT.out]; exact hO4, (below_alloc hB _).trans hb4⟩
        case measure => simp [intOf]
      · obtain rfl : j = 0 := by omega
        rw [Nat.sub_zero, List.take_of_length_le (by simp)] at hO
        obtain ⟨M, cm, rfl, _, hM⟩ := hO.seg encD_len
        have HM := Lib.hid hM
        have HB := Lib.hid hB
        clear hM hO hB hle hlt hj
        have R1 := fun W (hW : Below wr.heap.size wr W) => positions_got H.out A c W (seg_of HS.out (below_then HB.out hW))
        have R2 := fun W (hW : Below wr.heap.size wr W) => positions_got (args_rev H.out) M cm W (seg_of HM.out hW)
        have R3 := fun W (hW : Below wr.heap.size wr W) => pairs_got H.out A c W (seg_of HS.out (below_then HB.out hW))
        have R4 := fun W (hW : Below wr.heap.size wr W) => pairs_got (args_rev H.out) M cm W (seg_of HM.out hW)
        have R5 := fun W (hW : Below wr.heap.size wr W) => net_got H.out A c W (seg_of HS.out (below_then HB.out hW))
        have R6 := fun W (hW : Below wr.heap.size wr W) => net_got (args_rev H.out) M cm W (seg_of HM.out hW)
        have cE := order_cases p l
        have cP := order_pairs p l
        generalize l.reverse = m at *
        rw [show (((0 : Nat) : Int)) - 1 = -1 by omega]
        go_upto_region 9 with (fail)
        rcases cE with ⟨e1, e2, e3, e4⟩ | ⟨e1, e2, e3, e4, e5, e6⟩ | ⟨e1, e2, e3, e4, e5⟩ | ⟨e1, e2, e4⟩ | ⟨e1, e2, e4⟩ | ⟨e1, e2, e3, e4⟩ <;> rcases cP with ⟨f1, f2, f3⟩ | f1 | ⟨f1, f2⟩
        all_goals
          simp only [e1] at R1
          simp only [e2] at R2
          try simp only [e3] at R2
          try simp only [e3] at R5
          try simp only [e4] at R5
          try simp only [e4] at R6
          try simp only [e5] at R6
          try simp only [e6] at R6
          try simp only [f1] at R3
          try simp only [f2, f3] at R4
          generalize hG : prE p l = G at *
          generalize hK : prE p m = K at *
          generalize hI : ntE p l = I at *
          generalize hJ : ntE p m = J at *
          clear hG hK hI hJ
          have H1 := Lib.hid R1
          have H2 := Lib.hid R2
          have H3 := Lib.hid R3
          have H4 := Lib.hid R4
          have H5 := Lib.hid R5
          have H6 := Lib.hid R6
          clear R1 R2 R3 R4 R5 R6
          try clear e1
          try clear e2
          try clear e3
          try clear e4
          try clear e5
          try clear e6
          try clear f3
          go_wp2_with (first | (go_at_call_of 10 (Value.slice A l.length c); refine (H1.out _ (by (repeat (first | with_reducible assumption | with_reducible exact Below.refl _ _ | with_reducible refine below_drewN ?_ _ | with_reducible refine Below.drew ?_ | with_reducible refine below_alloc ?_ _ | with_reducible refine Below.setCell ?_ (by first | omega | (simp; done) | (simp; omega)) _ | with_reducible refine below_then ?_ (by with_reducible assumption) | (refine below_then (a := World.drew _) ?_ (by with_reducible assumption)))))).mono ?_; rintro e v1 ⟨⟨A1, c1, rfl, S1⟩, b1⟩) | (go_at_call_of 10 (Value.slice M m.length cm); refine (H2.out _ (by (repeat (first | with_reducible assumption | with_reducible exact Below.refl _ _ | with_reducible refine below_drewN ?_ _ | with_reducible refine Below.drew ?_ | with_reducible refine below_alloc ?_ _ | with_reducible refine Below.setCell ?_ (by first | omega | (simp; done) | (simp; omega)) _ | with_reducible refine below_then ?_ (by with_reducible assumption) | (refine below_then (a := World.drew _) ?_ (by with_reducible assumption)))))).mono ?_; rintro e v2 ⟨⟨A2, c2, rfl, S2⟩, b2⟩) | (go_at_call_of 12 (Value.slice A l.length c); refine (H3.out _ (by (repeat (first | with_reducible assumption | with_reducible exact Below.refl _ _ | with_reducible refine below_drewN ?_ _ | with_reducible refine Below.drew ?_ | with_reducible refine below_alloc ?_ _ | with_reducible refine Below.setCell ?_ (by first | omega | (simp; done) | (simp; omega)) _ | with_reducible refine below_then ?_ (by with_reducible assumption) | (refine below_then (a := World.drew _) ?_ (by with_reducible assumption)))))).mono ?_; rintro e v3 ⟨⟨A3, c3, rfl, S3⟩, b3⟩) | (go_at_call_of 12 (Value.slice M m.length cm); refine (H4.out _ (by (repeat (first | with_reducible assumption | with_reducible exact Below.refl _ _ | with_reducible refine below_drewN ?_ _ | with_reducible refine Below.drew ?_ | with_reducible refine below_alloc ?_ _ | with_reducible refine Below.setCell ?_ (by first | omega | (simp; done) | (simp; omega)) _ | with_reducible refine below_then ?_ (by with_reducible assumption) | (refine below_then (a := World.drew _) ?_ (by with_reducible assumption)))))).mono ?_; rintro e v4 ⟨⟨A4, c4, rfl, S4⟩, b4⟩) | (go_at_call_of 14 (Value.slice A l.length c); refine (H5.out _ (by (repeat (first | with_reducible assumption | with_reducible exact Below.refl _ _ | with_reducible refine below_drewN ?_ _ | with_reducible refine Below.drew ?_ | with_reducible refine below_alloc ?_ _ | with_reducible refine Below.setCell ?_ (by first | omega | (simp; done) | (simp; omega)) _ | with_reducible refine below_then ?_ (by with_reducible assumption) | (refine below_then (a := World.drew _) ?_ (by with_reducible assumption)))))).mono ?_; rintro e v5 ⟨⟨A5, c5, rfl, S5⟩, b5⟩) | (go_at_call_of 14 (Value.slice M m.length cm); refine (H6.out _ (by (repeat (first | with_reducible assumption | with_reducible exact Below.refl _ _ | with_reducible refine below_drewN ?_ _ | with_reducible refine Below.drew ?_ | with_reducible refine below_alloc ?_ _ | with_reducible refine Below.setCell ?_ (by first | omega | (simp; done) | (simp; omega)) _ | with_reducible refine below_then ?_ (by with_reducible assumption) | (refine below_then (a := World.drew _) ?_ (by with_reducible assumption)))))).mono ?_; rintro e v6 ⟨⟨A6, c6, rfl, S6⟩, b6⟩) | (go_at_call 18; refine (ratios_eq _ _ _ _ (posL p l) _ (by omega) (by exact seg_of S1 (by (repeat (first | with_reducible assumption | with_reducible exact Below.refl _ _ | with_reducible refine below_drewN ?_ _ | with_reducible refine Below.drew ?_ | with_reducible refine below_alloc ?_ _ | with_reducible refine Below.setCell ?_ (by first | omega | (simp; done) | (simp; omega)) _ | with_reducible refine below_then ?_ (by with_reducible assumption) | (refine below_then (a := World.drew _) ?_ (by with_reducible assumption)))))) (by exact seg_of S2 (by (repeat (first | with_reducible assumption | with_reducible exact Below.refl _ _ | with_reducible refine below_drewN ?_ _ | with_reducible refine Below.drew ?_ | with_reducible refine below_alloc ?_ _ | with_reducible refine Below.setCell ?_ (by first | omega | (simp; done) | (simp; omega)) _ | with_reducible refine below_then ?_ (by with_reducible assumption) | (refine below_then (a := World.drew _) ?_ (by with_reducible assumption))))))).mono ?_; rintro e v7 ⟨rfl, b7⟩) | (go_at_call_of 19 (Value.slice A3 (prL p l).length c3); refine (same_eq _ _ _ _ (prL p l) _ (by omega) (by exact seg_of S3 (by (repeat (first | with_reducible assumption | with_reducible exact Below.refl _ _ | with_reducible refine below_drewN ?_ _ | with_reducible refine Below.drew ?_ | with_reducible refine below_alloc ?_ _ | with_reducible refine Below.setCell ?_ (by first | omega | (simp; done) | (simp; omega)) _ | with_reducible refine below_then ?_ (by with_reducible assumption) | (refine below_then (a := World.drew _) ?_ (by with_reducible assumption)))))) (by exact seg_of S4 (by (repeat (first | with_reducible assumption | with_reducible exact Below.refl _ _ | with_reducible refine below_drewN ?_ _ | with_reducible refine Below.drew ?_ | with_reducible refine below_alloc ?_ _ | with_reducible refine Below.setCell ?_ (by first | omega | (simp; done) | (simp; omega)) _ | with_reducible refine below_then ?_ (by with_reducible assumption) | (refine below_then (a := World.drew _) ?_ (by with_reducible assumption))))))).mono ?_; rintro e v8 ⟨rfl, b8⟩) | (go_at_call_of 19 (Value.slice A5 (ntL p l).length c5); refine (same_eq _ _ _ _ (ntL p l) _ (by omega) (by exact seg_of S5 (by (repeat (first | with_reducible assumption | with_reducible exact Below.refl _ _ | with_reducible refine below_drewN ?_ _ | with_reducible refine Below.drew ?_ | with_reducible refine below_alloc ?_ _ | with_reducible refine Below.setCell ?_ (by first | omega | (simp; done) | (simp; omega)) _ | with_reducible refine below_then ?_ (by with_reducible assumption) | (refine below_then (a := World.drew _) ?_ (by with_reducible assumption)))))) (by exact seg_of S6 (by (repeat (first | with_reducible assumption | with_reducible exact Below.refl _ _ | with_reducible refine below_drewN ?_ _ | with_reducible refine Below.drew ?_ | with_reducible refine below_alloc ?_ _ | with_reducible refine Below.setCell ?_ (by first | omega | (simp; done) | (simp; omega)) _ | with_reducible refine below_then ?_ (by with_reducible assumption) | (refine below_then (a := World.drew _) ?_ (by with_reducible assumption))))))).mono ?_; rintro e v9 ⟨rfl, b9⟩))
          all_goals
            go_ret
            exact ⟨rfl, below_then HB.out (by (repeat (first | with_reducible assumption | with_reducible exact Below.refl _ _ | with_reducible refine below_drewN ?_ _ | with_reducible refine Below.drew ?_ | with_reducible refine below_alloc ?_ _ | with_reducible refine Below.setCell ?_ (by first | omega | (simp; done) | (simp; omega)) _ | with_reducible refine below_then ?_ (by with_reducible assumption) | (refine below_then (a := World.drew _) ?_ (by with_reducible assumption)))))⟩
  · go_enter Try.func7, Try.ntmps7
    go_wp2_with (go_at_call 9; refine (head_any _).mono ?_; rintro e w0 ⟨rfl, b0⟩)
    go_ret
    exact ⟨rfl, b0⟩
end Go.Proofs.Ythgbdpiihdhfiaa
