/- The walks of package netting and its reference, third part: the sum of debts with the signs of the second closure. -/
import Derived.Test.YteoicnhnpailiaaN02
namespace Go.Proofs.Yteoicnhnpailiaa
open Go.RowKit

set_option maxHeartbeats 1600000 in
/-- netting.total over valid debts, with the signs of Pairs's closure -/
theorem total2 (A : Option Addr) (c : Nat) (l : List Db) (w : World) (g g' : Nat) (p p' : Int) (hg : g < w.heap.size) (cg : w.cell? ⟨g, 0, none⟩ = some (.int .i64 p)) (hg' : g' < w.heap.size) (cg' : w.cell? ⟨g', 0, none⟩ = some (.int .i64 p')) (hl : l.length ≤ 400)
    (hf : ∀ x ∈ l, vld x.n x.d = true) (hm : Seg w w.heap.size 4 encD A l) :
    Calls Try.prog 44 #[.slice A l.length c, .func (.func 45) #[] #[.pointer (some ⟨g, 0, none⟩), .pointer (some ⟨g', 0, none⟩)]] w fun e w' => TotP (totF (sgAB p p') l) e ∧ Below w.heap.size w w' := by
  have hs : ∀ x, sgAB p p' x = 0 ∨ sgAB p p' x = 1 ∨ sgAB p p' x = -1 := by intro x; unfold sgAB; split; (right; left; rfl); split; (right; right; rfl); left; rfl
  have HM := Lib.hid (And.intro hf (And.intro hm hs))
  have HG := Lib.hid (And.intro hg cg)
  have HG' := Lib.hid (And.intro hg' cg')
  clear hf hm hs hg cg hg' cg'
  go_enter Try.func44, Try.ntmps44
  go_wp2_with fail
  go_loopw [15] (fun i wr => ∃ (k : Nat) (s : Rat), k ≤ l.length ∧ i = .int .i64 k ∧ Hid (totF (sgAB p p') (l.take k) = some s ∧ inR s = true) ∧ Below w.heap.size w wr ∧
      Blk wr w.heap.size 44 #[.int .i64 0, .int .i64 0] ∧ Blk wr (w.heap.size + 1) 44 #[.int .i64 s.num, .int .i64 s.den]) (fun i _ => l.length - (intOf i).toNat)
  case atStart =>
    refine ⟨0, 0, by omega, rfl, ⟨by simp [totF], by decide⟩, by (repeat (first | exact Below.refl _ _ | refine below_drewN ?_ _ | refine Below.drew ?_ | refine below_alloc ?_ _ | refine Below.setCell ?_ (by first | omega | (simp; done) | (simp; omega)) _ | refine below_then ?_ (by assumption))), ?_, ?_⟩
    · exact (Blk.new _ _ _).alloc _
    · have := Blk.new (w.alloc (.cells #[.int .i64 0, .int .i64 0] 44)) 44 #[.int .i64 0, .int .i64 1]
      simpa using this
  case round =>
    obtain ⟨k, s, hk, rfl, hS, hB, hk0, hk1⟩ := hrel
    obtain ⟨d0, d1, d2, d3⟩ := hk0.two
    obtain ⟨s0, s1, s2, s3⟩ := hk1.two
    have hlt0 := hk0.lt
    have hlt1 := hk1.lt
    have hle0 : w.heap.size ≤ wr.heap.size := by omega
    have hle1 : w.heap.size + 1 ≤ wr.heap.size := by omega
    by_cases hlt : k < l.length
    · obtain ⟨x, hx⟩ : ∃ x, l[k]? = some x := ⟨_, List.getElem?_eq_getElem hlt⟩
      obtain ⟨b, off, rfl, hb, c0, c1, c2, c3⟩ := segD (HM.out.2.1.below hB) hx
      have hv := HM.out.1 x (List.mem_of_getElem? hx)
      have hbl : b < wr.heap.size := Nat.lt_of_lt_of_le hb hB.size
      have HX := Lib.hid hx
      have HV := Lib.hid (qOf_vld hv)
      have HS := HM.out.2.2 x
      have hgl : g < wr.heap.size := Nat.lt_of_lt_of_le HG.out.1 hB.size
      have hgl' : g' < wr.heap.size := Nat.lt_of_lt_of_le HG'.out.1 hB.size
      have hgc' : wr.cell? ⟨g', 0, none⟩ = some (.int .i64 p') := (hB.cell (p := ⟨g', 0, none⟩) HG'.out.1).trans HG'.out.2
      have hgc : wr.cell? ⟨g, 0, none⟩ = some (.int .i64 p) := (hB.cell (p := ⟨g, 0, none⟩) HG.out.1).trans HG.out.2
      clear hx hv
      by_cases h0 : sgAB p p' x = 0
      · have h0' : (sgAB p p' x == 0) = true := by simpa using h0
        have H0 := Lib.hid h0
        clear h0 HS
        go_wp2_with (go_at_call 45; refine (sg2_any x _ g g' p p' (by simp; omega) (by simp [go_sem, *]) (by simp; omega) (by simp [go_sem, *])).mono ?_; rintro e w1 ⟨rfl, hb⟩; obtain ⟨hc, hf⟩ := bcell hb; have hz := hb.size; (try simp at hz); (have zl0 : w.heap.size < w1.heap.size := by omega); (have ze0 : w.heap.size ≤ w1.heap.size := by omega); (have zl1 : w.heap.size + 1 < w1.heap.size := by omega); (have ze1 : w.heap.size + 1 ≤ w1.heap.size := by omega); obtain ⟨hc, hf⟩ := bcell hb; have hz := hb.size; (try simp at hz); (have zl0 : wr.heap.size < w1.heap.size := by omega); (have ze0 : wr.heap.size ≤ w1.heap.size := by omega))
        go_roundw
        case rel =>
          refine ⟨k + 1, s, by omega, by go_num, ⟨?_, hS.out.2⟩, by (repeat (first | with_reducible assumption | with_reducible refine below_drewN ?_ _ | with_reducible refine Below.drew ?_ | with_reducible refine below_alloc ?_ _ | with_reducible refine Below.setCell ?_ (by first | omega | (simp; done) | (simp; omega)) _ | with_reducible refine below_then ?_ (by with_reducible assumption))), ?_, ?_⟩
          · rw [totF_take HX.out, hS.out.1]; simp [stepT, H0.out]
          · (repeat (first | with_reducible assumption | with_reducible refine Blk.alloc ?_ _ | with_reducible refine Blk.drewN ?_ _ | with_reducible apply Blk.setT0 | with_reducible apply Blk.setT1 | with_reducible refine Blk.far ?_ (by first | (simp; done) | omega | (simp; omega)) _ | with_reducible refine Blk.then_ ?_ (by with_reducible assumption)))
          · (repeat (first | with_reducible assumption | with_reducible refine Blk.alloc ?_ _ | with_reducible refine Blk.drewN ?_ _ | with_reducible apply Blk.setT0 | with_reducible apply Blk.setT1 | with_reducible refine Blk.far ?_ (by first | (simp; done) | omega | (simp; omega)) _ | with_reducible refine Blk.then_ ?_ (by with_reducible assumption)))
        case measure => simp [intOf]; omega
      · have h0' : (sgAB p p' x == 0) = false := by simpa using h0
        have hz : sgAB p p' x = 1 ∨ sgAB p p' x = -1 := HS.resolve_left h0
        obtain ⟨V1, V2, V3⟩ := HV.out
        have bx := inR_bd V3
        rw [V1] at bx
        have bz : -1000000000000 ≤ sgAB p p' x * x.n ∧ sgAB p p' x * x.n ≤ 1000000000000 := by rcases hz with e | e <;> rw [e] <;> omega
        have q1 := signed_num (q := qOf x) hz
        have q2 := signed_inR hz V3
        have HQ : Hid ((((sgAB p p' x : Int) : Rat) * qOf x).num = sgAB p p' x * x.n ∧ ((((sgAB p p' x : Int) : Rat) * qOf x).den : Int) = x.d ∧ inR (((sgAB p p' x : Int) : Rat) * qOf x) = true) := ⟨by rw [q1.1, V1], by rw [q1.2, V2], q2⟩
        have ST : Hid (stepT (sgAB p p') x s = if inR (s + ((sgAB p p' x : Int) : Rat) * qOf x) then some (s + ((sgAB p p' x : Int) : Rat) * qOf x) else none) := by rw [Hid, stepT, if_neg h0]
        generalize hr : s + ((sgAB p p' x : Int) : Rat) * qOf x = r at ST
        have HR := Lib.hid hr
        clear hr h0 hz V1 V2 V3 bx q1 q2 HS
        cases hin : inR r
        · have e1 := oE_no hin
          have e2 := oN_no hin
          have e3 := oD_no hin
          have HN := Lib.hid hin
          clear hin
          go_wp2_with (first | (go_at_call 45; refine (sg2_any x _ g g' p p' (by simp; omega) (by simp [go_sem, *]) (by simp; omega) (by simp [go_sem, *])).mono ?_; rintro e w1 ⟨rfl, hb⟩; obtain ⟨hc, hf⟩ := bcell hb; have hz := hb.size; (try simp at hz); (have zl0 : w.heap.size < w1.heap.size := by omega); (have ze0 : w.heap.size ≤ w1.heap.size := by omega); (have zl1 : w.heap.size + 1 < w1.heap.size := by omega); (have ze1 : w.heap.size + 1 ≤ w1.heap.size := by omega); obtain ⟨hc, hf⟩ := bcell hb; have hz := hb.size; (try simp at hz); (have zl0 : wr.heap.size < w1.heap.size := by omega); (have ze0 : wr.heap.size ≤ w1.heap.size := by omega); have hb1 := hb) | (go_at_call 19; refine (add_of s (((sgAB p p' x : Int) : Rat) * qOf x) _ hS.out.2 HQ.out.2.2 rfl rfl HQ.out.1 HQ.out.2.1).mono ?_; rw [HR.out]; rintro e w1 ⟨rfl, hb⟩; obtain ⟨hc, hf⟩ := bcell hb; have hz := hb.size; (try simp at hz); (have zl0 : w.heap.size < w1.heap.size := by omega); (have ze0 : w.heap.size ≤ w1.heap.size := by omega); (have zl1 : w.heap.size + 1 < w1.heap.size := by omega); (have ze1 : w.heap.size + 1 ≤ w1.heap.size := by omega); obtain ⟨hc, hf⟩ := bcell hb; have hz := hb.size; (try simp at hz); (have zl0 : wr.heap.size < w1.heap.size := by omega); (have ze0 : wr.heap.size ≤ w1.heap.size := by omega)))
          refine bodyPost_ret (ret_rat rfl rfl (by (repeat (first | with_reducible assumption | with_reducible refine Blk.alloc ?_ _ | with_reducible refine Blk.drewN ?_ _ | with_reducible apply Blk.setT0 | with_reducible apply Blk.setT1 | with_reducible refine Blk.far ?_ (by first | (simp; done) | omega | (simp; omega)) _ | with_reducible refine Blk.then_ ?_ (by with_reducible assumption))))) rfl ⟨?_, ?_⟩
          · refine TotP.none_ ?_ ?_ ?_ ?_
            · refine totF_none (k := k + 1) ?_
              rw [totF_take HX.out, hS.out.1]
              show stepT (sgAB p p') x s = none
              rw [ST.out, HN.out]; rfl
            all_goals first | rfl | assumption
          · (repeat (first | with_reducible assumption | with_reducible refine below_drewN ?_ _ | with_reducible refine Below.drew ?_ | with_reducible refine below_alloc ?_ _ | with_reducible refine Below.setCell ?_ (by first | omega | (simp; done) | (simp; omega)) _ | with_reducible refine below_then ?_ (by with_reducible assumption)))
        · have e1 := oE_yes hin
          have e2 := oN_yes hin
          have e3 := oD_yes hin
          have HN := Lib.hid hin
          clear hin
          go_wp2_with (first | (go_at_call 45; refine (sg2_any x _ g g' p p' (by simp; omega) (by simp [go_sem, *]) (by simp; omega) (by simp [go_sem, *])).mono ?_; rintro e w1 ⟨rfl, hb⟩; obtain ⟨hc, hf⟩ := bcell hb; have hz := hb.size; (try simp at hz); (have zl0 : w.heap.size < w1.heap.size := by omega); (have ze0 : w.heap.size ≤ w1.heap.size := by omega); (have zl1 : w.heap.size + 1 < w1.heap.size := by omega); (have ze1 : w.heap.size + 1 ≤ w1.heap.size := by omega); obtain ⟨hc, hf⟩ := bcell hb; have hz := hb.size; (try simp at hz); (have zl0 : wr.heap.size < w1.heap.size := by omega); (have ze0 : wr.heap.size ≤ w1.heap.size := by omega); have hb1 := hb) | (go_at_call 19; refine (add_of s (((sgAB p p' x : Int) : Rat) * qOf x) _ hS.out.2 HQ.out.2.2 rfl rfl HQ.out.1 HQ.out.2.1).mono ?_; rw [HR.out]; rintro e w2 ⟨rfl, hb2⟩; have hb := hb2; obtain ⟨hc, hf⟩ := bcell hb; have hz := hb.size; (try simp at hz); (have zl0 : w.heap.size < w2.heap.size := by omega); (have ze0 : w.heap.size ≤ w2.heap.size := by omega); (have zl1 : w.heap.size + 1 < w2.heap.size := by omega); (have ze1 : w.heap.size + 1 ≤ w2.heap.size := by omega); obtain ⟨hc, hf⟩ := bcell hb; have hz := hb.size; (try simp at hz); (have zl0 : wr.heap.size < w2.heap.size := by omega); (have ze0 : wr.heap.size ≤ w2.heap.size := by omega)))
          go_roundw
          case rel =>
            refine ⟨k + 1, r, by omega, by go_num, ⟨?_, HN.out⟩, by (repeat (first | with_reducible assumption | with_reducible refine below_drewN ?_ _ | with_reducible refine Below.drew ?_ | with_reducible refine below_alloc ?_ _ | with_reducible refine Below.setCell ?_ (by first | omega | (simp; done) | (simp; omega)) _ | with_reducible refine below_then ?_ (by with_reducible assumption))), ?_, ?_⟩
            · rw [totF_take HX.out, hS.out.1]
              show stepT (sgAB p p') x s = some r
              rw [ST.out, HN.out]; rfl
            · (repeat (first | with_reducible assumption | with_reducible refine Blk.alloc ?_ _ | with_reducible refine Blk.drewN ?_ _ | with_reducible apply Blk.setT0 | with_reducible apply Blk.setT1 | with_reducible refine Blk.far ?_ (by first | (simp; done) | omega | (simp; omega)) _ | with_reducible refine Blk.then_ ?_ (by with_reducible assumption)))
            · (repeat (first | with_reducible assumption | with_reducible refine Blk.alloc ?_ _ | with_reducible refine Blk.drewN ?_ _ | with_reducible apply Blk.setT0 | with_reducible apply Blk.setT1 | with_reducible refine Blk.far ?_ (by first | (simp; done) | omega | (simp; omega)) _ | with_reducible refine Blk.then_ ?_ (by with_reducible assumption)))
          case measure => simp [intOf]; omega
    · go_wp2
      refine bodyPost_ret (ret_rat rfl rfl (by (repeat (first | with_reducible assumption | with_reducible refine Blk.alloc ?_ _ | with_reducible refine Blk.drewN ?_ _ | with_reducible apply Blk.setT0 | with_reducible apply Blk.setT1 | with_reducible refine Blk.far ?_ (by first | (simp; done) | omega | (simp; omega)) _ | with_reducible refine Blk.then_ ?_ (by with_reducible assumption))))) rfl ⟨?_, ?_⟩
      · obtain rfl : k = l.length := by omega
        have := hS.out.1
        rw [List.take_length] at this
        exact TotP.some_ this rfl rfl rfl
      · (repeat (first | with_reducible assumption | with_reducible refine below_drewN ?_ _ | with_reducible refine Below.drew ?_ | with_reducible refine below_alloc ?_ _ | with_reducible refine Below.setCell ?_ (by first | omega | (simp; done) | (simp; omega)) _ | with_reducible refine below_then ?_ (by with_reducible assumption)))

end Go.Proofs.Yteoicnhnpailiaa
