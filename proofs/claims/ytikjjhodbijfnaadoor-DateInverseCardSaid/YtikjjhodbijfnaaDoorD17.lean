/- The walk of DateInverse: true at every input. -/
import Derived.Test.YtikjjhodbijfnaaDoorD14
namespace Go.Proofs.YtikjjhodbijfnaaDoor
open Go.RowKit Go.Sort

/-- a date and the next one -/
theorem day_cases (n : Int) (h : isD n = true) : ∃ y m d, okC y m d = true ∧ num y m d = n ∧
    ((n = 73048 ∧ y = 2189 ∧ m = 12 ∧ d = 31) ∨ (n < 73048 ∧ ((okC y m (d + 1) = true ∧ num y m (d + 1) = n + 1) ∨ (28 ≤ d ∧ okC y (m + 1) 1 = true ∧ num y (m + 1) 1 = n + 1) ∨ (d = 31 ∧ m = 12 ∧ okC (y + 1) 1 1 = true ∧ num (y + 1) 1 1 = n + 1)))) := by
  have hd := of_decide_eq_true h
  obtain ⟨y, m, d, ho, hn⟩ := num_onto hd.1 hd.2
  refine ⟨y, m, d, ho, hn, ?_⟩
  by_cases hx : n = 73048
  · left
    exact ⟨hx, num_inj ho (show okC 2189 12 31 = true by decide) (by rw [hn, hx]; decide)⟩
  · right
    refine ⟨by omega, ?_⟩
    obtain ⟨h1, h2, h3, h4, h5, h6⟩ := okC_of ho
    have l := len_bd y m h3 h4
    rcases num_next ho (by omega) with ⟨a, b, c⟩ | ⟨a, b, c, e⟩ | ⟨a, b, c, e⟩
    · exact .inl ⟨b, by omega⟩
    · exact .inr (.inl ⟨by omega, c, by omega⟩)
    · exact .inr (.inr ⟨a, b, c, by omega⟩)
theorem isD_out {n : Int} (h : isD n = false) : n < 0 ∨ (0 ≤ n ∧ 73048 < n) := by
  simp only [isD, decide_eq_false_iff_not] at h
  omega
set_option maxRecDepth 100000 in
set_option maxHeartbeats 1600000 in
theorem inverse_any (xy xm xd day : Int) (w : World) (ht : Tb w) :
    Calls Tryd.prog 3 #[.agg #[.int .i64 xy, .int .i64 xm, .int .i64 xd], .int .i64 day] w fun e w' => e = .returned (.bool true) ∧ Below w.heap.size w w' := by
  have HT := Lib.hid ht
  have HN := Lib.hid (fun W hW => nNumber_any xy xm xd W (ht.below hW))
  clear ht
  have hx : (okC xy xm xd = true) ∨ okC xy xm xd = false := hbb _
  have HX := Lib.hid hx
  clear hx
  go_enter Tryd.func3, Tryd.ntmps3
  go_upto_region 1 with (fail)
  refine name_wp ?_
  intro X hX
  have gX : Blk X w.heap.size 23 #[.int .i64 xy, .int .i64 xm, .int .i64 xd] := by rw [hX]; exact Blk.new _ _ _
  have hbX : Below w.heap.size w X := by rw [hX]; exact below_alloc (Below.refl _ _) _
  have HTX := Lib.hid (HT.out.below hbX)
  clear hX
  go_upto_region 2 with (go_at_call 9; with_reducible refine (head_any _ (by exact HTX.out)).mono ?_; rintro e w1 ⟨rfl, hb1⟩)
  have g1 := gX.then_ hb1
  have B1 := below_then hbX hb1
  obtain ⟨c0, c1, c2, _⟩ := blk_three g1
  clear gX HTX hb1
  have HQ := Lib.hid (show isD day = true ∨ isD day = false from hbb _)
  rcases HX.out with hx | hx
  case' inl =>
    rw [show nuN xy xm xd = num xy xm xd by simp [nuN, hx], show nuE xy xm xd = 0 by simp [nuE, hx]] at HN
    have bd := num_bd hx
    have HC := Lib.hid (fun W hW => cCivil_yes xy xm xd W hx (HT.out.below hW))
    clear hx HX
    generalize num xy xm xd = n at *
    go_upto_region 4 with (go_at_call 10; with_reducible refine (HN.out _ B1).mono ?_; rintro e w2 ⟨rfl, hb2⟩)
    have B2 := below_then B1 hb2
    go_upto_region 5 with (go_at_call 11; with_reducible refine (HC.out _ B2).mono ?_; rintro e w3 ⟨rfl, hb3⟩)
    refine name_wp ?_
    intro Y hY
    have BY : Below w.heap.size w Y := by rw [hY]; exact below_alloc (below_then B2 hb3) _
    obtain ⟨d0, d1, d2, _⟩ := blk_three (show Blk Y w3.heap.size 23 #[.int .i64 xy, .int .i64 xm, .int .i64 xd] by rw [hY]; exact Blk.new _ _ _)
    obtain ⟨e0, e1, e2, _⟩ := blk_three (show Blk Y w.heap.size 23 #[.int .i64 xy, .int .i64 xm, .int .i64 xd] by rw [hY]; exact ((g1.then_ hb2).then_ hb3).alloc _)
    clear hY hb3 hb2 c0 c1 c2 B1 B2 HN HC hbX
    go_upto_region 7 with (fail)
    clear d0 d1 d2 e0 e1 e2 bd
  case' inr =>
    rw [show nuN xy xm xd = 0 by simp [nuN, hx], show nuE xy xm xd = 1 by simp [nuE, hx]] at HN
    clear hx HX
    go_upto_region 7 with (go_at_call 10; with_reducible refine (HN.out _ B1).mono ?_; rintro e Y ⟨rfl, hb2⟩)
    have BY : Below w.heap.size w Y := below_then B1 hb2
    clear hb2 c0 c1 c2 B1 HN hbX
  all_goals (
    rcases HQ.out with hq | hq
    · obtain ⟨y, m, d, ho, hn, hc⟩ := day_cases day hq
      obtain ⟨q0, q1⟩ := (show 0 ≤ day ∧ day ≤ 73048 from of_decide_eq_true hq)
      have HC := Lib.hid (fun W hW => cCivil_yes y m d W ho (HT.out.below hW))
      have HN := Lib.hid (fun W hW => nNumber_any y m d W (HT.out.below hW))
      have HW := Lib.hid (fun W => weekday_yes day W ⟨q0, q1⟩)
      rw [show nuN y m d = num y m d by simp [nuN, ho], show nuE y m d = 0 by simp [nuE, ho], hn] at HN
      rw [hn] at HC
      have bo := okC_of ho
      have bl := len_bd y m bo.2.2.1 bo.2.2.2.1
      obtain ⟨b1, b2, b3, b4, b5, b6⟩ := bo
      have b7 : d ≤ 31 := by omega
      have HH := Lib.hid hc
      clear hc HQ hn ho hq bl b6
      go_upto_region 8 with (go_at_call 11; with_reducible refine (HC.out _ BY).mono ?_; rintro e w5 ⟨rfl, hb5⟩)
      refine name_wp ?_
      intro Z hZ
      have gZ : Blk Z w5.heap.size 23 #[.int .i64 y, .int .i64 m, .int .i64 d] := by rw [hZ]; exact Blk.new _ _ _
      have BZ : Below w.heap.size w Z := by rw [hZ]; exact below_alloc (below_then BY hb5) _
      obtain ⟨c0, c1, c2, _⟩ := blk_three gZ
      clear hZ hb5 BY HC
      go_upto_region 11 with (go_at_call 10; with_reducible refine (HN.out _ BZ).mono ?_; rintro e w6 ⟨rfl, hb6⟩)
      have B6 := below_then BZ hb6
      have g6 := gZ.then_ hb6
      obtain ⟨d0, d1, d2, _⟩ := blk_three g6
      clear c0 c1 c2 hb6 BZ HN gZ
      rcases HH.out with ⟨rfl, rfl, rfl, rfl⟩ | ⟨hl, hc⟩
      · go_wp2_with (go_at_call 12; with_reducible refine (HW.out _).mono ?_; rintro e w7 ⟨rfl, rfl⟩)
        go_ret
        exact ⟨ret_bool (by simp), B6⟩
      · rcases hc with ⟨ho, hn⟩ | ⟨h28, ho, hn⟩ | ⟨rfl, rfl, ho, hn⟩
        · have HC := Lib.hid (fun W hW => cCivil_yes y m (d + 1) W ho (HT.out.below hW))
          rw [hn] at HC
          clear ho hn HH
          go_upto_region 17 with (first | (go_at_call 12; with_reducible refine (HW.out _).mono ?_; rintro e w7 ⟨rfl, rfl⟩) | (go_at_call 11; with_reducible refine (HC.out _ B6).mono ?_; rintro e w8 ⟨rfl, hb8⟩))
          refine name_wp ?_
          intro V hV
          have BV : Below w.heap.size w V := by rw [hV]; exact below_alloc (below_then B6 hb8) _
          obtain ⟨e0, e1, e2, _⟩ := blk_three (show Blk V w5.heap.size 23 #[.int .i64 y, .int .i64 m, .int .i64 d] by rw [hV]; exact (g6.then_ hb8).alloc _)
          obtain ⟨f0, f1, f2, _⟩ := blk_three (show Blk V w8.heap.size 23 #[.int .i64 y, .int .i64 m, .int .i64 (d + 1)] by rw [hV]; exact Blk.new _ _ _)
          clear hV hb8 B6 g6 d0 d1 d2 HW HC
          have n1 : (m == m + 1) = false := by simp; omega
          have n2 : (y == y + 1) = false := by simp; omega
          go_wp2
          go_ret
          exact ⟨ret_bool (by simp), BV⟩
        · have HC := Lib.hid (fun W hW => cCivil_yes y (m + 1) 1 W ho (HT.out.below hW))
          rw [hn] at HC
          clear ho hn HH
          go_upto_region 17 with (first | (go_at_call 12; with_reducible refine (HW.out _).mono ?_; rintro e w7 ⟨rfl, rfl⟩) | (go_at_call 11; with_reducible refine (HC.out _ B6).mono ?_; rintro e w8 ⟨rfl, hb8⟩))
          refine name_wp ?_
          intro V hV
          have BV : Below w.heap.size w V := by rw [hV]; exact below_alloc (below_then B6 hb8) _
          obtain ⟨e0, e1, e2, _⟩ := blk_three (show Blk V w5.heap.size 23 #[.int .i64 y, .int .i64 m, .int .i64 d] by rw [hV]; exact (g6.then_ hb8).alloc _)
          obtain ⟨f0, f1, f2, _⟩ := blk_three (show Blk V w8.heap.size 23 #[.int .i64 y, .int .i64 (m + 1), .int .i64 1] by rw [hV]; exact Blk.new _ _ _)
          clear hV hb8 B6 g6 d0 d1 d2 HW HC
          have n1 : (m + 1 == m) = false := by simp; omega
          have n2 : (y == y + 1) = false := by simp; omega
          go_wp2
          go_ret
          exact ⟨ret_bool (by simp), BV⟩
        · have HC := Lib.hid (fun W hW => cCivil_yes (y + 1) 1 1 W ho (HT.out.below hW))
          rw [hn] at HC
          clear ho hn HH
          go_upto_region 17 with (first | (go_at_call 12; with_reducible refine (HW.out _).mono ?_; rintro e w7 ⟨rfl, rfl⟩) | (go_at_call 11; with_reducible refine (HC.out _ B6).mono ?_; rintro e w8 ⟨rfl, hb8⟩))
          refine name_wp ?_
          intro V hV
          have BV : Below w.heap.size w V := by rw [hV]; exact below_alloc (below_then B6 hb8) _
          obtain ⟨e0, e1, e2, _⟩ := blk_three (show Blk V w5.heap.size 23 #[.int .i64 y, .int .i64 12, .int .i64 31] by rw [hV]; exact (g6.then_ hb8).alloc _)
          obtain ⟨f0, f1, f2, _⟩ := blk_three (show Blk V w8.heap.size 23 #[.int .i64 (y + 1), .int .i64 1, .int .i64 1] by rw [hV]; exact Blk.new _ _ _)
          clear hV hb8 B6 g6 d0 d1 d2 HW HC
          have n1 : (y + 1 == y) = false := by simp; omega
          go_wp2
          go_ret
          exact ⟨ret_bool (by simp), BV⟩
    · have HC := Lib.hid (fun W => cCivil_no day W hq)
      have hr := isD_out hq
      clear HQ hq
      go_upto_region 8 with (go_at_call 11; with_reducible refine (HC.out _).mono ?_; rintro e w5 ⟨rfl, hb5⟩)
      refine name_wp ?_
      intro Z hZ
      have gZ : Blk Z w5.heap.size 23 #[.int .i64 0, .int .i64 0, .int .i64 0] := by rw [hZ]; exact Blk.new _ _ _
      have BZ : Below w.heap.size w Z := by rw [hZ]; exact below_alloc (below_then BY hb5) _
      obtain ⟨c0, c1, c2, _⟩ := blk_three gZ
      clear hZ hb5 BY HC gZ
      rcases hr with hr | ⟨hr, hs⟩
      · go_wp2
        go_ret
        exact ⟨ret_bool (by simp), BZ⟩
      · go_wp2
        go_ret
        exact ⟨ret_bool (by simp), BZ⟩)
end Go.Proofs.YtikjjhodbijfnaaDoor
