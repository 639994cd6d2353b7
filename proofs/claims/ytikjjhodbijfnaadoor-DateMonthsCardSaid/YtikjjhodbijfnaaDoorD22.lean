/- The walk of DateMonths: true at every input. -/
import Derived.Test.YtikjjhodbijfnaaDoorD17
namespace Go.Proofs.YtikjjhodbijfnaaDoor
open Go.RowKit Go.Sort

/-- what Months gives: an argument is bad, or a date, or the month is out of range -/
def MoP (n k a e : Int) : Prop :=
  (e = 1 ∧ a = 0 ∧ (n < 0 ∨ (0 ≤ n ∧ 73048 < n) ∨ (0 ≤ n ∧ n ≤ 73048 ∧ k < -2400) ∨ (0 ≤ n ∧ n ≤ 73048 ∧ -2400 ≤ k ∧ 2400 < k))) ∨
  (∃ y m d, okC y m d = true ∧ num y m d = n ∧ -2400 ≤ k ∧ k ≤ 2400 ∧
    ((e = 2 ∧ a = 0 ∧ (tot y m k < 23880 ∨ (23880 ≤ tot y m k ∧ 26280 ≤ tot y m k))) ∨ (e = 0 ∧ a = num (mY y m k) (mM y m k) (mD y m d k) ∧ 1990 * 12 ≤ tot y m k ∧ mY y m k ≤ 2189)))
theorem months_out (n k : Int) : ∃ a e, (∀ W, Tb W → Calls Tryd.prog 13 #[.int .i64 n, .int .i64 k] W fun x w' => x = .returned (.tuple #[.int .i64 a, .int .i64 e]) ∧ Below W.heap.size W w') ∧ MoP n k a e := by
  by_cases hb : isD n = false ∨ k < -2400 ∨ 2400 < k
  · refine ⟨0, 1, fun W _ => months_bad n k W hb, .inl ⟨rfl, rfl, ?_⟩⟩
    rcases hb with h | h | h
    · have := isD_out h; omega
    · omega
    · omega
  · have hd : isD n = true := by cases h : isD n <;> simp_all
    have hd' : 0 ≤ n ∧ n ≤ 73048 := of_decide_eq_true hd
    obtain ⟨y, m, d, ho, rfl⟩ := num_onto hd'.1 hd'.2
    have k1 : -2400 ≤ k := by omega
    have k2 : k ≤ 2400 := by omega
    by_cases ht : tot y m k < 23880 ∨ 2189 < mY y m k
    · refine ⟨0, 2, fun W hW => ?_, .inr ⟨y, m, d, ho, rfl, k1, k2, .inl ⟨rfl, rfl, ?_⟩⟩⟩
      · have := months_any y m d k W ho k1 k2 hW
        rwa [if_pos ht, if_pos ht] at this
      · unfold mY at ht; omega
    · refine ⟨num (mY y m k) (mM y m k) (mD y m d k), 0, fun W hW => ?_, .inr ⟨y, m, d, ho, rfl, k1, k2, .inr ⟨rfl, rfl, by omega, by omega⟩⟩⟩
      have := months_any y m d k W ho k1 k2 hW
      rwa [if_neg ht, if_neg ht] at this
/-- what the law needs of a date that Months gives -/
theorem months_facts {y m d k : Int} (h : okC y m d = true) (h1 : 1990 * 12 ≤ tot y m k) (h2 : mY y m k ≤ 2189) (k1 : -2400 ≤ k) (k2 : k ≤ 2400) :
    okC (mY y m k) (mM y m k) (mD y m d k) = true ∧ mY y m k * 12 + mM y m k - 1 = tot y m k ∧ mD y m d k ≤ d ∧
    (mD y m d k < d → 28 < d ∧ num (mY y m k) (mM y m k) (mD y m d k) < 73048 ∧ ∃ Y M, okC Y M 1 = true ∧ num Y M 1 = num (mY y m k) (mM y m k) (mD y m d k) + 1) ∧
    (d ≤ 28 → ∀ W, Tb W → Calls Tryd.prog 13 #[.int .i64 (num (mY y m k) (mM y m k) (mD y m d k)), .int .i64 (-k)] W fun x w' => x = .returned (.tuple #[.int .i64 (num y m d), .int .i64 0]) ∧ Below W.heap.size W w') := by
  have ho := mD_ok h h1 h2
  obtain ⟨a1, a2, a3, a4, a5, a6⟩ := okC_of h
  obtain ⟨g1, g2, g3, g4, g5, g6⟩ := okC_of ho
  have hl := len_bd (mY y m k) (mM y m k) g3 g4
  have hl' := len_bd y m a3 a4
  have hm : mD y m d k = if d ≤ len (mY y m k) (mM y m k) then d else len (mY y m k) (mM y m k) := rfl
  refine ⟨ho, mY_M y m k, ?_, fun hlt => ?_, fun h28 W hW => ?_⟩
  · rw [hm]; split <;> omega
  · have he : mD y m d k = len (mY y m k) (mM y m k) ∧ len (mY y m k) (mM y m k) < d := by
      rw [hm] at hlt ⊢
      split at hlt
      · omega
      · rename_i hn
        rw [if_neg hn]
        exact ⟨rfl, by omega⟩
    have hb := num_bd ho
    have hlt2 : num (mY y m k) (mM y m k) (mD y m d k) < 73048 := by
      rcases Int.lt_or_le (num (mY y m k) (mM y m k) (mD y m d k)) 73048 with h | h
      · exact h
      · obtain ⟨_, _, hd⟩ := num_inj ho (show okC 2189 12 31 = true by decide) (show num (mY y m k) (mM y m k) (mD y m d k) = num 2189 12 31 by rw [show num 2189 12 31 = 73048 by decide]; omega)
        omega
    refine ⟨by omega, hlt2, ?_⟩
    rcases num_next ho hlt2 with ⟨a, _, _⟩ | ⟨_, _, c, e⟩ | ⟨_, _, c, e⟩
    · omega
    · exact ⟨_, _, c, e⟩
    · exact ⟨_, _, c, e⟩
  · have hb := months_back (k := k) h h28
    have ht := tot_back y m k
    have := months_any (mY y m k) (mM y m k) (mD y m d k) (-k) W ho (by omega) (by omega) hW
    rw [if_neg (by rw [ht, hb.1]; omega), if_neg (by rw [ht, hb.1]; omega), hb.1, hb.2.1, hb.2.2] at this
    exact this
theorem months_le {n n' k a e b f : Int} (h : MoP n k a e) (h' : MoP n' k b f) (he : e = 0) (hf : f = 0) (hn : n ≤ n') : a ≤ b := by
  rcases h with ⟨h, _⟩ | ⟨y, m, d, ho, rfl, k1, k2, ⟨h, _⟩ | ⟨_, rfl, t1, t2⟩⟩
  · omega
  · omega
  · rcases h' with ⟨h, _⟩ | ⟨y', m', d', ho', rfl, k1', k2', ⟨h, _⟩ | ⟨_, rfl, t1', t2'⟩⟩
    · omega
    · omega
    · exact months_mono ho ho' hn (mD_ok ho t1 t2) (mD_ok ho' t1' t2')
set_option maxRecDepth 100000 in
set_option maxHeartbeats 1600000 in
theorem months_law (day later k : Int) (w : World) (ht : Tb w) :
    Calls Tryd.prog 5 #[.int .i64 day, .int .i64 later, .int .i64 k] w fun e w' => e = .returned (.bool true) ∧ Below w.heap.size w w' := by
  obtain ⟨a, e, hA, pA⟩ := months_out day k
  obtain ⟨b, f, hB, pB⟩ := months_out later k
  have HA := Lib.hid hA
  have HB := Lib.hid hB
  have PA := Lib.hid pA
  have PB := Lib.hid pB
  have HT := Lib.hid ht
  clear ht hA hB pA pB
  go_enter Tryd.func5, Tryd.ntmps5
  go_upto_region 2 with (go_at_call 9; with_reducible refine (head_any _ (by exact HT.out)).mono ?_; rintro e w1 ⟨rfl, hb1⟩)
  have B1 := Lib.hid (show Below w.heap.size w w1 from hb1)
  clear hb1
  go_upto_region 3 with (go_at_call 13; with_reducible refine (HA.out _ (HT.out.below B1.out)).mono ?_; rintro e w2 ⟨rfl, hk⟩)
  have B2 := Lib.hid (below_then B1.out hk)
  clear hk B1
  go_upto_region 4 with (go_at_call 13; with_reducible refine (HB.out _ (HT.out.below B2.out)).mono ?_; rintro e w3 ⟨rfl, hk⟩)
  have B3 := Lib.hid (below_then B2.out hk)
  clear hk B2 HA HB
  rcases (show MoP day k a e from PA.out) with ⟨rfl, rfl, h⟩ | ⟨y, m, d, ho, hn, k1, k2, ⟨rfl, rfl, h⟩ | ⟨rfl, ha, t1, t2⟩⟩
  · clear PA PB
    rcases h with h | ⟨h, h'⟩ | ⟨h, h', h''⟩ | ⟨h, h', h'', h'''⟩
    · go_wp2
      go_ret
      exact ⟨ret_bool (by simp), B3.out⟩
    · go_wp2
      go_ret
      exact ⟨ret_bool (by simp), B3.out⟩
    · go_wp2
      go_ret
      exact ⟨ret_bool (by simp), B3.out⟩
    · go_wp2
      go_ret
      exact ⟨ret_bool (by simp), B3.out⟩
  · have HC := Lib.hid (fun W hW => cCivil_yes y m d W ho (HT.out.below hW))
    rw [hn] at HC
    obtain ⟨b1, b2, b3, b4, b5, b6⟩ := okC_of ho
    obtain ⟨t, ht⟩ : ∃ t, y * 12 + m - 1 + k = t := ⟨_, rfl⟩
    have HY := Lib.hid ht
    rw [show tot y m k = t from ht] at h
    clear ht hn ho PA PB b6
    go_upto_region 7 with (go_at_call 11; with_reducible refine (HC.out _ B3.out).mono ?_; rintro e w4 ⟨rfl, hk⟩)
    refine name_wp ?_
    intro Z hZ
    have BZ : Below w.heap.size w Z := by rw [hZ]; exact below_alloc (below_then B3.out hk) _
    obtain ⟨c0, c1, c2, _⟩ := blk_three (show Blk Z w4.heap.size 23 #[.int .i64 y, .int .i64 m, .int .i64 d] by rw [hZ]; exact Blk.new _ _ _)
    clear hZ hk B3 HC
    go_upto_region 10 with (fail)
    rw [HY.out]
    rcases h with h | ⟨h, h'⟩
    · go_wp2
      go_ret
      exact ⟨ret_bool (by simp), BZ⟩
    · go_wp2
      go_ret
      exact ⟨ret_bool (by simp), BZ⟩
  · obtain ⟨f1, f2, f3, f4, f5⟩ := months_facts ho t1 t2 k1 k2
    have HC := Lib.hid (fun W hW => cCivil_yes y m d W ho (HT.out.below hW))
    have HC2 := Lib.hid (fun W hW => cCivil_yes _ _ _ W f1 (HT.out.below hW))
    have HL := Lib.hid (show f ≠ 0 ∨ (f = 0 ∧ later < day) ∨ (f = 0 ∧ day ≤ later ∧ a ≤ b) by
      by_cases hf : f = 0
      · rcases Int.lt_or_le later day with h | h
        · exact .inr (.inl ⟨hf, h⟩)
        · exact .inr (.inr ⟨hf, h, months_le PA.out PB.out rfl hf h⟩)
      · exact .inl hf)
    rw [hn] at HC
    obtain ⟨b1, b2, b3, b4, b5, b6⟩ := okC_of ho
    obtain ⟨g1, g2, g3, g4, g5, g6⟩ := okC_of f1
    have l1 := len_bd y m b3 b4
    have na := num_bd f1
    obtain ⟨t, ht⟩ : ∃ t, y * 12 + m - 1 + k = t := ⟨_, rfl⟩
    rw [show tot y m k = t from ht] at f2 t1
    rw [← ha] at f4 f5 HC2 na
    rw [hn] at f5
    have HY := Lib.hid ht
    have F5 := Lib.hid f5
    have hd31 : d ≤ 31 := by omega
    generalize mY y m k = Y at *
    generalize mM y m k = M at *
    generalize mD y m d k = D at *
    have HD : Hid ((D < d ∧ 28 < d ∧ a < 73048 ∧ ∃ Y M, okC Y M 1 = true ∧ num Y M 1 = a + 1) ∨ (D = d ∧ d ≤ 28) ∨ (D = d ∧ 28 < d)) := by
      rcases Int.lt_or_le D d with h | h
      · exact .inl ⟨h, f4 h⟩
      · have : D = d := by omega
        by_cases h28 : d ≤ 28
        · exact .inr (.inl ⟨this, h28⟩)
        · exact .inr (.inr ⟨this, by omega⟩)
    have F2 := Lib.hid f2
    clear f1 f2 f4 f5 ha hn ho PA PB b6 g6 t2 l1 ht t1
    go_upto_region 7 with (go_at_call 11; with_reducible refine (HC.out _ B3.out).mono ?_; rintro e w4 ⟨rfl, hk⟩)
    refine name_wp ?_
    intro Z hZ
    have BZ : Below w.heap.size w Z := by rw [hZ]; exact below_alloc (below_then B3.out hk) _
    have gZ : Blk Z w4.heap.size 23 #[.int .i64 y, .int .i64 m, .int .i64 d] := by rw [hZ]; exact Blk.new _ _ _
    obtain ⟨c0, c1, c2, _⟩ := blk_three gZ
    clear hZ hk B3 HC
    go_upto_region 10 with (fail)
    rw [HY.out]
    clear c0 c1 c2
    go_upto_region 13 with (go_at_call 11; with_reducible refine (HC2.out _ BZ).mono ?_; rintro e w5 ⟨rfl, hk⟩)
    refine name_wp ?_
    intro V hV
    have BV : Below w.heap.size w V := by rw [hV]; exact below_alloc (below_then BZ hk) _
    have gV : Blk V w4.heap.size 23 #[.int .i64 y, .int .i64 m, .int .i64 d] := by rw [hV]; exact (gZ.then_ hk).alloc _
    have gW : Blk V w5.heap.size 23 #[.int .i64 Y, .int .i64 M, .int .i64 D] := by rw [hV]; exact Blk.new _ _ _
    obtain ⟨c0, c1, c2, _⟩ := blk_three gV
    obtain ⟨e0, e1, e2, _⟩ := blk_three gW
    clear hV hk BZ HC2 gZ
    have f2 := F2.out
    go_upto_region 15 with (fail)
    clear f2 F2
    rcases HD.out with ⟨hlt, h28, ha, Y', M', ho', hn'⟩ | ⟨rfl, h28⟩ | ⟨rfl, h28⟩
    case' inl =>
      have HC3 := Lib.hid (fun W hW => cCivil_yes _ _ _ W ho' (HT.out.below hW))
      rw [hn'] at HC3
      clear ho' hn' HD F5
      go_upto_region 17 with (go_at_call 11; with_reducible refine (HC3.out _ BV).mono ?_; rintro e w6 ⟨rfl, hk⟩)
      refine name_wp ?_
      intro U hU
      have BU : Below w.heap.size w U := by rw [hU]; exact below_alloc (below_then BV hk) _
      obtain ⟨c0, c1, c2, _⟩ := blk_three (show Blk U w4.heap.size 23 #[.int .i64 y, .int .i64 m, .int .i64 d] by rw [hU]; exact (gV.then_ hk).alloc _)
      obtain ⟨e0, e1, e2, _⟩ := blk_three (show Blk U w6.heap.size 23 #[.int .i64 Y', .int .i64 M', .int .i64 1] by rw [hU]; exact Blk.new _ _ _)
      clear hU hk BV gV gW HC3
      go_upto_region 23 with (fail)
      clear c0 c1 c2 e0 e1 e2
    case' inr.inl =>
      go_upto_region 23 with (go_at_call 13; with_reducible refine (F5.out h28 _ (HT.out.below BV)).mono ?_; rintro e U ⟨rfl, hk⟩)
      have BU := below_then BV hk
      clear hk BV gV gW c0 c1 c2 e0 e1 e2
    case' inr.inr =>
      go_upto_region 23 with (fail)
      have BU := BV
      clear gV gW BV c0 c1 c2 e0 e1 e2
    all_goals (
      rcases HL.out with hf | ⟨rfl, h⟩ | ⟨rfl, h, h'⟩
      · go_wp2
        go_ret
        exact ⟨ret_bool (by simp), BU⟩
      · go_wp2
        go_ret
        exact ⟨ret_bool (by simp), BU⟩
      · go_wp2
        go_ret
        exact ⟨ret_bool (by simp), BU⟩)
end Go.Proofs.YtikjjhodbijfnaaDoor
