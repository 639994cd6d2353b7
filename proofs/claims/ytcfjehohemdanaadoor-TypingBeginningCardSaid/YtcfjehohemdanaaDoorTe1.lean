/- The walk of TypingOrder. -/
import Derived.Test.YtcfjehohemdanaaDoorTd5
namespace Go.Proofs.YtcfjehohemdanaaDoor
open Go.RowKit Go.Sort

theorem chk_len (s : Sy) : (chk s).length ≤ 1000 := by
  cases h : wfS s with
  | false => rw [chk_no h]; simp
  | true =>
    have hs := h
    simp only [wfS, smallT, Bool.and_eq_true, decide_eq_true_eq] at hs
    rw [chk, if_pos h]
    have h1 := flt_len (eBeg s) (-1); have h2 := fU_len s s.un.length; have h3 := fA_len s s.ac.length; have h4 := fC_len s s.cl.length
    simp only [List.length_append]; omega
theorem frl_take {l : List (Int × Int)} {k : Nat} {x : Int × Int} (h : l[k]? = some x) : frl (l.take (k + 1)) = if x.2 = -1 ∧ (frl (l.take k)).2 = -1 then ((frl (l.take k)).1 + 1, (frl (l.take k)).2) else ((frl (l.take k)).1, x.2) := by
  obtain ⟨h1, rfl⟩ := List.getElem?_eq_some_iff.1 h
  rw [List.take_succ_eq_append_getElem h1, frl_app]
theorem frl_le (l : List (Int × Int)) : 0 ≤ (frl l).1 ∧ (frl l).1 ≤ l.length := by
  generalize hn : l.length = n
  induction n generalizing l with
  | zero => obtain rfl := List.eq_nil_of_length_eq_zero hn; simp [frl]
  | succ n ih =>
    obtain ⟨G, y, rfl⟩ : ∃ G y, l = G ++ [y] := ⟨l.dropLast, l.getLast (by intro h; simp [h] at hn), (List.dropLast_concat_getLast _).symm⟩
    have := ih G (by simpa using hn)
    rw [frl_app]
    split <;> simp only <;> omega
/-- what every law begins with -/
structure Beg (w : World) (s : Sy) (m : Sm) : Prop where
  nr : Nr w
  tb : Tb w
  sm : Smw w s m
  nl : Nls s m
theorem Beg.then_ {w w' : World} {s : Sy} {m : Sm} (h : Beg w s m) (hb : Below w.heap.size w w') : Beg w' s m := ⟨h.nr.below hb, h.tb.below hb, h.sm.then_ hb, h.nl⟩
set_option maxRecDepth 100000 in
set_option maxHeartbeats 6400000 in
theorem order_any (s : Sy) (m : Sm) (w : World) (h : Beg w s m) : Calls Tryd.prog 3 #[.agg (syA s m)] w fun e w' => e = .returned (.bool true) ∧ Below w.heap.size w w' := by
  have H := Lib.hid h
  have HH := Lib.hid (fun W (hb : Below w.heap.size w W) => head_any W (h.nr.below hb) (h.tb.below hb))
  have HS := Lib.hid (fun W (hb : Below w.heap.size w W) => small_any s m W (h.sm.then_ hb))
  clear h
  obtain ⟨b, hb⟩ : ∃ b, small s = b := ⟨_, rfl⟩
  rw [hb] at HS
  go_enter Tryd.func3, Tryd.ntmps3
  go_upto_region 1 with (fail)
  refine name_wp ?_
  intro X hX
  have gX : Blk X w.heap.size 34 (syA s m) := by rw [hX]; exact Blk.new _ _ _
  have hbX : Below w.heap.size w X := by rw [hX]; exact wa1 _ _
  have lX := gX.lt
  obtain ⟨b1, e1⟩ : ∃ b, w.heap.size = b := ⟨_, rfl⟩
  rw [e1] at gX ⊢
  have HBX := Lib.hid hbX
  clear hX hbX
  have hz := Below.refl X.heap.size X
  cases b with
  | false =>
    clear hb
    go_wp2_with (first | (refine wpList_row_w (by rfl) 34 _ rfl b1 rfl 34 (syA s m) (by (repeat (first | with_reducible assumption | with_reducible exact Blk.new _ _ _ | with_reducible refine Blk.drew ?_ | with_reducible refine Blk.alloc ?_ _ | with_reducible refine Blk.drewN ?_ _ | with_reducible apply Blk.setT0 | with_reducible apply Blk.setT1 | with_reducible refine Blk.far ?_ (by first | (simp; done) | omega | (simp; omega)) _ | with_reducible refine Blk.then_ ?_ (by with_reducible assumption)))) ⟨_, Tryd.underlying34⟩ (by kernel_rfl) ?_; simp only [Act.put, List.setIfInBounds_toArray, List.set_cons_succ, List.set_cons_zero]) | (go_at_call 9; (with_reducible refine (HH.out _ HBX.out).mono ?_); rintro e w1 ⟨rfl, hb1⟩) | (go_at_call 10; (with_reducible refine (HS.out _ (below_then HBX.out hb1)).mono ?_); rintro e w2 ⟨rfl, hb2⟩))
    go_ret
    exact ⟨rfl, below_then (below_then HBX.out hb1) hb2⟩
  | true =>
    go_upto_region 4 with (first | (refine wpList_row_w (by rfl) 34 _ rfl b1 rfl 34 (syA s m) (by (repeat (first | with_reducible assumption | with_reducible exact Blk.new _ _ _ | with_reducible refine Blk.drew ?_ | with_reducible refine Blk.alloc ?_ _ | with_reducible refine Blk.drewN ?_ _ | with_reducible apply Blk.setT0 | with_reducible apply Blk.setT1 | with_reducible refine Blk.far ?_ (by first | (simp; done) | omega | (simp; omega)) _ | with_reducible refine Blk.then_ ?_ (by with_reducible assumption)))) ⟨_, Tryd.underlying34⟩ (by kernel_rfl) ?_; simp only [Act.put, List.setIfInBounds_toArray, List.set_cons_succ, List.set_cons_zero]) | (go_at_call 9; (with_reducible refine (HH.out _ HBX.out).mono ?_); rintro e w1 ⟨rfl, hb1⟩) | (go_at_call 10; (with_reducible refine (HS.out _ (below_then HBX.out hb1)).mono ?_); rintro e w2 ⟨rfl, hb2⟩))
    have hn1 : s.ac.length ≤ 70 ∧ s.cl.length ≤ 60 ∧ s.un.length ≤ 30 := by simp only [small, Bool.and_eq_true, decide_eq_true_eq] at hb; omega
    obtain ⟨hla, hlc, hlu⟩ := hn1
    have HSB := Lib.hid (H.out.sm.smb hb)
    clear hb
    have HPL := Lib.hid (fun W (hb : Below w.heap.size w W) => placed_any s m W (HSB.out.then_ hb) H.out.nl)
    go_upto_region 5 with (first | (refine wpList_row_w (by rfl) 34 _ rfl b1 rfl 34 (syA s m) (by (repeat (first | with_reducible assumption | with_reducible exact Blk.new _ _ _ | with_reducible refine Blk.drew ?_ | with_reducible refine Blk.alloc ?_ _ | with_reducible refine Blk.drewN ?_ _ | with_reducible apply Blk.setT0 | with_reducible apply Blk.setT1 | with_reducible refine Blk.far ?_ (by first | (simp; done) | omega | (simp; omega)) _ | with_reducible refine Blk.then_ ?_ (by with_reducible assumption)))) ⟨_, Tryd.underlying34⟩ (by kernel_rfl) ?_; simp only [Act.put, List.setIfInBounds_toArray, List.set_cons_succ, List.set_cons_zero]) | (go_at_call 12; (with_reducible refine (HPL.out _ (below_then (below_then HBX.out hb1) hb2)).mono ?_); rintro e w3 ⟨ga, ca, gc, cc, rfl, hb3, _, hoA, hoC⟩; rw [placed_syA]; have hsm := placed_smb (HSB.out.then_ (below_then (below_then HBX.out hb1) hb2)) hb3 hoA hoC) | (go_at_call 11; (with_reducible refine (check_any s.plc _ w3 (H.out.nr.below (below_then (below_then (below_then HBX.out hb1) hb2) hb3)) (H.out.tb.below (below_then (below_then (below_then HBX.out hb1) hb2) hb3)) hsm).mono ?_); rintro e w4 ⟨v4, rfl, hb4, hO4⟩; obtain ⟨A4, c4, rfl, _, hS4⟩ := hO4.seg encF_len))
    refine name_wp ?_
    intro Y hY
    subst hY
    have gY := (((gX.then_ hb1).then_ hb2).then_ hb3).then_ hb4
    have hbY := below_then (below_then (below_then (below_then HBX.out hb1) hb2) hb3) hb4
    have GY := Lib.hid gY
    have HBY := Lib.hid hbY
    have HSY := Lib.hid hS4
    have HO := Lib.hid (order_law s)
    have hll : (chk s.plc).length ≤ 1000 := chk_len _
    obtain ⟨L, hL⟩ : ∃ L, chk s.plc = L := ⟨_, rfl⟩
    rw [hL] at HSY HO hll ⊢
    clear hb1 hb2 hb3 hb4 hsm hO4 hS4 gX lX gY hbY hL hoA hoC hz HPL HS HH
    go_upto_region 8 with (fail)
    go_loopw [5, 6, 7] (fun f la x wr => ∃ k : Nat, k ≤ L.length ∧ x = .int .i64 k ∧ f = .int .i64 (frl (L.take k)).1 ∧ la = .int .i64 (frl (L.take k)).2 ∧ Below Y.heap.size Y wr) (fun _ _ x _ => 2000000 - (intOf x).toNat)
    case atStart => exact ⟨0, by omega, rfl, rfl, rfl, Below.refl _ _⟩
    case round =>
      obtain ⟨k, hk, rfl, rfl, rfl, hbr⟩ := hrel
      have HBR := Lib.hid hbr
      have gR := GY.out.then_ hbr
      have lR := gR.lt
      have c15 : wr.cell? ⟨b1, 15, none⟩ = some (.slice m.u s.un.length m.uc) := gR.cell 15
      have c16 : wr.cell? ⟨b1, 16, none⟩ = some (.slice m.a s.ac.length m.ac) := gR.cell 16
      have c17 : wr.cell? ⟨b1, 17, none⟩ = some (.slice m.c s.cl.length m.cc) := gR.cell 17
      clear gR
      obtain ⟨hf0, hf1⟩ := frl_le (L.take k)
      have hf2 : (L.take k).length ≤ 1000 := by rw [List.length_take]; omega
      by_cases hlt : k < L.length
      · obtain ⟨x, hx⟩ : ∃ x, L[k]? = some x := ⟨_, List.getElem?_eq_getElem hlt⟩
        obtain ⟨p1, p2, p3⟩ := HO.out.1 k x hx
        have HT := Lib.hid (frl_take hx)
        obtain ⟨bl, ol, ea, hbl, d0, d1⟩ := segF (HSY.out.below hbr) hx
        have hbl' : bl < wr.heap.size := Nat.lt_of_lt_of_le hbl hbr.size
        obtain ⟨q, hq⟩ : ∃ q, frl (L.take k) = q := ⟨_, rfl⟩
        obtain ⟨fr, la⟩ := q
        rw [hq] at p3 HT hf0 hf1 ⊢
        rw [ea]
        obtain ⟨er, at_⟩ := x
        have h1 : (er == 0) = false := by simpa using p1
        clear hx hq hbr ea p1
        have h2 : Hid (er = 1 → L.length ≤ 1 ∧ at_ = -1) := p2
        clear p2
        simp only at p3 HT hf0 hf1 ⊢
        rcases p3 with ⟨rfl, rfl⟩ | ⟨p0, p4, p5⟩
        · rw [if_pos ⟨rfl, rfl⟩] at HT
          by_cases he : er = 1
          · have hl1 : decide (1 < (L.length : Int)) = false := decide_eq_false (by have := (h2.out he).1; omega)
            subst he
            go_wp2
            go_roundw
            case rel => exact ⟨k + 1, by omega, by go_num, by rw [HT.out], by rw [HT.out], HBR.out⟩
            case measure => simp [intOf]; omega
          · have he' : (er == 1) = false := by simpa using he
            clear he
            go_wp2
            go_roundw
            case rel => exact ⟨k + 1, by omega, by go_num, by rw [HT.out], by rw [HT.out], HBR.out⟩
            case measure => simp [intOf]; omega
        · rw [if_neg p0] at HT
          have he' : (er == 1) = false := by
            rw [beq_eq_false_iff_ne]
            intro he
            have := (h2.out he).2
            omega
          have ha' : (at_ == -1) = false := by rw [beq_eq_false_iff_ne]; omega
          clear p0
          rcases p5 with p5 | p5
          · skip
            have q1 : decide (1000 ≤ at_) = true := decide_eq_true p5.1
            have q2 : decide (at_ < 1000 + (s.ac.length : Int)) = true := decide_eq_true p5.2
            have q3 : decide (2000 ≤ at_) = false := decide_eq_false (by omega)
            have q4 : decide (at_ ≤ la) = false := decide_eq_false (by omega)
            clear p4 p5
            go_upto_region 14 with (fail)
            have rg0 := cell_regrown d1
            have rg1 := cell_regrown c16
            refine wp_region_qt [0, 1, 2, 3, 4, 5, 6, 7, 8, 9, 10, 11, 12, 13, 14, 15, 16, 17, 18] [] (by kernel_rfl) (by kernel_rfl) (by repeat (first | with_reducible refine panOk_then ?_ | with_reducible refine panOk_block ?_ | exact panOk_body)) ?_
            simp only [opsAt, List.getElem?_toArray, List.getElem?_cons_succ, List.getElem?_cons_zero, Option.toList_some, List.cons_append, List.nil_append]
            repeat (go_big_quiet_step (fail))
            refine wpQuiet_nil ?_
            intro W2 hw2
            have hbW2 := qt_world hw2
            clear hw2 rg0 rg1
            have d2 := (hbW2.cell (p := ⟨bl, ol + k * 2 + 1, none⟩) hbl').trans d1
            have e17 := (hbW2.cell (p := ⟨b1, 17, none⟩) lR).trans c17
            have lb2 : bl < W2.heap.size := Nat.lt_of_lt_of_le hbl' hbW2.size
            go_upto_region 15 with (fail)
            have rg0 := cell_regrown d2
            have rg1 := cell_regrown e17
            refine wp_region_qt [0, 1, 2, 3, 4, 5, 6, 7, 8, 9, 10, 11, 12, 13, 14, 15, 16, 17, 18] [] (by kernel_rfl) (by kernel_rfl) (by repeat (first | with_reducible refine panOk_then ?_ | with_reducible refine panOk_block ?_ | exact panOk_body)) ?_
            simp only [opsAt, List.getElem?_toArray, List.getElem?_cons_succ, List.getElem?_cons_zero, Option.toList_some, List.cons_append, List.nil_append]
            repeat (go_big_quiet_step (fail))
            refine wpQuiet_nil ?_
            intro W3 hw2
            have hbW3 := qt_world hw2
            clear hw2 rg0 rg1
            have d3 := (hbW3.cell (p := ⟨bl, ol + k * 2 + 1, none⟩) lb2).trans d2
            have lb3 : bl < W3.heap.size := Nat.lt_of_lt_of_le lb2 hbW3.size
            have HB3 := Lib.hid (below_then (below_then HBR.out hbW2) hbW3)
            clear hbW2 hbW3 d2 d1 d0 c15 c16 c17 e17
            go_wp2
            go_roundw
            case rel => exact ⟨k + 1, by omega, by go_num, by rw [HT.out], by rw [HT.out], HB3.out⟩
            case measure => simp [intOf]; omega
          · skip
            have q1 : decide (1000 ≤ at_) = true := decide_eq_true (by omega)
            have q2 : decide (at_ < 1000 + (s.ac.length : Int)) = false := decide_eq_false (by omega)
            have q3 : decide (2000 ≤ at_) = true := decide_eq_true p5.2.1
            have q5 : decide (at_ < 2000 + (s.cl.length : Int)) = true := decide_eq_true p5.2.2
            have q4 : decide (at_ ≤ la) = false := decide_eq_false (by omega)
            clear p4 p5
            go_upto_region 14 with (fail)
            have rg0 := cell_regrown d1
            have rg1 := cell_regrown c16
            refine wp_region_qt [0, 1, 2, 3, 4, 5, 6, 7, 8, 9, 10, 11, 12, 13, 14, 15, 16, 17, 18] [] (by kernel_rfl) (by kernel_rfl) (by repeat (first | with_reducible refine panOk_then ?_ | with_reducible refine panOk_block ?_ | exact panOk_body)) ?_
            simp only [opsAt, List.getElem?_toArray, List.getElem?_cons_succ, List.getElem?_cons_zero, Option.toList_some, List.cons_append, List.nil_append]
            repeat (go_big_quiet_step (fail))
            refine wpQuiet_nil ?_
            intro W2 hw2
            have hbW2 := qt_world hw2
            clear hw2 rg0 rg1
            have d2 := (hbW2.cell (p := ⟨bl, ol + k * 2 + 1, none⟩) hbl').trans d1
            have e17 := (hbW2.cell (p := ⟨b1, 17, none⟩) lR).trans c17
            have lb2 : bl < W2.heap.size := Nat.lt_of_lt_of_le hbl' hbW2.size
            go_upto_region 15 with (fail)
            have rg0 := cell_regrown d2
            have rg1 := cell_regrown e17
            refine wp_region_qt [0, 1, 2, 3, 4, 5, 6, 7, 8, 9, 10, 11, 12, 13, 14, 15, 16, 17, 18] [] (by kernel_rfl) (by kernel_rfl) (by repeat (first | with_reducible refine panOk_then ?_ | with_reducible refine panOk_block ?_ | exact panOk_body)) ?_
            simp only [opsAt, List.getElem?_toArray, List.getElem?_cons_succ, List.getElem?_cons_zero, Option.toList_some, List.cons_append, List.nil_append]
            repeat (go_big_quiet_step (fail))
            refine wpQuiet_nil ?_
            intro W3 hw2
            have hbW3 := qt_world hw2
            clear hw2 rg0 rg1
            have d3 := (hbW3.cell (p := ⟨bl, ol + k * 2 + 1, none⟩) lb2).trans d2
            have lb3 : bl < W3.heap.size := Nat.lt_of_lt_of_le lb2 hbW3.size
            have HB3 := Lib.hid (below_then (below_then HBR.out hbW2) hbW3)
            clear hbW2 hbW3 d2 d1 d0 c15 c16 c17 e17
            go_wp2
            go_roundw
            case rel => exact ⟨k + 1, by omega, by go_num, by rw [HT.out], by rw [HT.out], HB3.out⟩
            case measure => simp [intOf]; omega
      · obtain rfl : k = L.length := by omega
        have HL : Hid (frl (L.take L.length) = frl L) := by unfold Hid; rw [List.take_length]
        rw [HL.out] at hf0 hf1 ⊢
        have HO2 := HO.out.2
        go_wp2
        go_ret
        exact ⟨rfl, below_then HBY.out HBR.out⟩
end Go.Proofs.YtcfjehohemdanaaDoor
