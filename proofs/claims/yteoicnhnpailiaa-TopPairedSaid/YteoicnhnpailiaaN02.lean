/- The walks of package netting and its reference, second part: the sum of debts with signs, the closures. -/
import Derived.Test.YteoicnhnpailiaaN01
namespace Go.Proofs.Yteoicnhnpailiaa
open Go.RowKit

theorem add_of {n1 d1 n2 d2 : Int} (q r : Rat) (w : World) (hq : inR q = true) (hr : inR r = true) (e1 : q.num = n1) (e2 : (q.den : Int) = d1) (e3 : r.num = n2) (e4 : (r.den : Int) = d2) :
    Calls Try.prog 19 #[.agg #[.int .i64 n1, .int .i64 d1], .agg #[.int .i64 n2, .int .i64 d2]] w fun e w' =>
      e = .returned (.tuple #[.agg #[.int .i64 (oN (q + r)), .int .i64 (oD (q + r))], .int .i64 (oE (q + r))]) ∧ Below w.heap.size w w' := by
  subst e1 e2 e3 e4; exact add_any q r w hq hr

/-- what a sum hands back -/
def TotP (o : Option Rat) (e : Ending) : Prop :=
  match o with
  | some s => e = .returned (.tuple #[.agg #[.int .i64 s.num, .int .i64 s.den], .int .i64 0])
  | none => e = .returned (.tuple #[.agg #[.int .i64 0, .int .i64 0], .int .i64 2])
theorem TotP.some_ {o : Option Rat} {s : Rat} (h : o = some s) {a b c : Int} (h1 : a = s.num) (h2 : b = (s.den : Int)) (h3 : c = 0) : TotP o (.returned (.tuple #[.agg #[.int .i64 a, .int .i64 b], .int .i64 c])) := by
  subst h h1 h2 h3; rfl
theorem TotP.none_ {o : Option Rat} (h : o = none) {a b c : Int} (h1 : a = 0) (h2 : b = 0) (h3 : c = 2) : TotP o (.returned (.tuple #[.agg #[.int .i64 a, .int .i64 b], .int .i64 c])) := by
  subst h h1 h2 h3; rfl

/-- netting.Positions's closure: the sign of a debt for a party -/
theorem sg1_any (x : Db) (w : World) (g : Nat) (p : Int) (hg : g < w.heap.size) (cg : w.cell? ⟨g, 0, none⟩ = some (.int .i64 p)) :
    Calls Try.prog 47 #[.agg #[.int .i64 x.f, .int .i64 x.t, .int .i64 x.n, .int .i64 x.d], .pointer (some ⟨g, 0, none⟩)] w fun e w' => e = .returned (.int .i64 (sgP p x)) ∧ Below w.heap.size w w' := by
  by_cases e1 : x.t = p
  · have h : sgP p x = 1 := by simp [sgP, e1]
    have e1' : (p == x.t) = true := by simp [e1]
    have H := Lib.hid h
    clear h e1
    go_enter Try.func47, Try.ntmps47
    go_wp2
    go_ret
    exact ⟨ret_int H.out.symm, by (repeat (first | exact Below.refl _ _ | refine below_drewN ?_ _ | refine Below.drew ?_ | refine below_alloc ?_ _ | refine Below.setCell ?_ (by first | omega | (simp; done) | (simp; omega)) _ | refine below_then ?_ (by assumption)))⟩
  · have e1' : (p == x.t) = false := by simp; omega
    by_cases e2 : x.f = p
    · have h : sgP p x = -1 := by simp [sgP, e1, e2]
      have e2' : (p == x.f) = true := by simp [e2]
      have H := Lib.hid h
      clear h e1 e2
      go_enter Try.func47, Try.ntmps47
      go_wp2
      go_ret
      exact ⟨ret_int H.out.symm, by (repeat (first | exact Below.refl _ _ | refine below_drewN ?_ _ | refine Below.drew ?_ | refine below_alloc ?_ _ | refine Below.setCell ?_ (by first | omega | (simp; done) | (simp; omega)) _ | refine below_then ?_ (by assumption)))⟩
    · have h : sgP p x = 0 := by simp [sgP, e1, e2]
      have e2' : (p == x.f) = false := by simp; omega
      have H := Lib.hid h
      clear h e1 e2
      go_enter Try.func47, Try.ntmps47
      go_wp2
      go_ret
      exact ⟨ret_int H.out.symm, by (repeat (first | exact Below.refl _ _ | refine below_drewN ?_ _ | refine Below.drew ?_ | refine below_alloc ?_ _ | refine Below.setCell ?_ (by first | omega | (simp; done) | (simp; omega)) _ | refine below_then ?_ (by assumption)))⟩

/-- netting.Pairs's closure: the sign of a debt for two parties -/
theorem sg2_any (x : Db) (w : World) (g h : Nat) (p p' : Int) (hg : g < w.heap.size) (cg : w.cell? ⟨g, 0, none⟩ = some (.int .i64 p)) (hh : h < w.heap.size) (ch : w.cell? ⟨h, 0, none⟩ = some (.int .i64 p')) :
    Calls Try.prog 45 #[.agg #[.int .i64 x.f, .int .i64 x.t, .int .i64 x.n, .int .i64 x.d], .pointer (some ⟨g, 0, none⟩), .pointer (some ⟨h, 0, none⟩)] w fun e w' => e = .returned (.int .i64 (sgAB p p' x)) ∧ Below w.heap.size w w' := by
  have H : sgAB p p' x = if ((x.f == p) && (x.t == p')) = true then 1 else if ((x.f == p') && (x.t == p)) = true then -1 else 0 := by simp [sgAB]
  cases h1 : (x.f == p) <;> cases h2 : (x.t == p') <;> cases h3 : (x.f == p') <;> cases h4 : (x.t == p)
  all_goals
    simp only [h1, h2, h3, h4, Bool.and_true, Bool.and_false, Bool.false_eq_true, if_true, if_false] at H
    have HH := Lib.hid H
    clear H
    go_enter Try.func45, Try.ntmps45
    go_wp2
    go_ret
    exact ⟨ret_int HH.out.symm, by (repeat (first | exact Below.refl _ _ | refine below_drewN ?_ _ | refine Below.drew ?_ | refine below_alloc ?_ _ | refine Below.setCell ?_ (by first | omega | (simp; done) | (simp; omega)) _ | refine below_then ?_ (by assumption)))⟩

set_option maxHeartbeats 1600000 in
/-- netting.total over valid debts, with the signs of Positions's closure -/
theorem total1 (A : Option Addr) (c : Nat) (l : List Db) (w : World) (g : Nat) (p : Int) (hg : g < w.heap.size) (cg : w.cell? ⟨g, 0, none⟩ = some (.int .i64 p)) (hl : l.length ≤ 400)
    (hf : ∀ x ∈ l, vld x.n x.d = true) (hm : Seg w w.heap.size 4 encD A l) :
    Calls Try.prog 44 #[.slice A l.length c, .func (.func 47) #[] #[.pointer (some ⟨g, 0, none⟩)]] w fun e w' => TotP (totF (sgP p) l) e ∧ Below w.heap.size w w' := by
  have hs : ∀ x, sgP p x = 0 ∨ sgP p x = 1 ∨ sgP p x = -1 := by intro x; unfold sgP; split; (right; left; rfl); split; (right; right; rfl); left; rfl
  have HM := Lib.hid (And.intro hf (And.intro hm hs))
  have HG := Lib.hid (And.intro hg cg)
  clear hf hm hs hg cg
  go_enter Try.func44, Try.ntmps44
  go_wp2_with fail
  go_loopw [15] (fun i wr => ∃ (k : Nat) (s : Rat), k ≤ l.length ∧ i = .int .i64 k ∧ Hid (totF (sgP p) (l.take k) = some s ∧ inR s = true) ∧ Below w.heap.size w wr ∧
      Blk wr w.heap.size 44 #[.int .i64 0, .int .i64 0] ∧ Blk wr (w.heap.size + 1) 44 #[.int .i64 s.num, .int .i64 s.den]) (fun i _ => l.length - (intOf i).toNat)
  case atStart =>
    refine ⟨0, 0, by omega, rfl, ⟨by simp [totF], by decide⟩, by (repeat (first | exact Below.refl _ _ | refine below_drewN ?_ _ | refine Below.drew ?_ | refine below_alloc ?_ _ | refine Below.setCell ?_ (by first | omega | (simp; done) | (simp; omega)) _ | refine below_then ?_ (by assumption))), ?_, ?_⟩
    · exact (Blk.new _ _ _).alloc _
    · have := Blk.new (w.alloc (.cells #[.int .i64 0, .int .i64 0] 44)) 44 #[.int .i64 0, .int .i64 1]
      simpa using this
  case round =>
    obtain ⟨k, s, hk, rfl, hS, hB, hk0, hk1⟩ := hrel
    obtain ⟨d0, d1, d2, d3⟩ := hk0.two
    obtain ⟨s0, s1, s2, s3⟩ := hk1.two
    have hlt0 := hk0.lt
    have hlt1 := hk1.lt
    have hle0 : w.heap.size ≤ wr.heap.size := by omega
    have hle1 : w.heap.size + 1 ≤ wr.heap.size := by omega
    by_cases hlt : k < l.length
    · obtain ⟨x, hx⟩ : ∃ x, l[k]? = some x := ⟨_, List.getElem?_eq_getElem hlt⟩
      obtain ⟨b, off, rfl, hb, c0, c1, c2, c3⟩ := segD (HM.out.2.1.below hB) hx
      have hv := HM.out.1 x (List.mem_of_getElem? hx)
      have hbl : b < wr.heap.size := Nat.lt_of_lt_of_le hb hB.size
      have HX := Lib.hid hx
      have HV := Lib.hid (qOf_vld hv)
      have HS := HM.out.2.2 x
      have hgl : g < wr.heap.size := Nat.lt_of_lt_of_le HG.out.1 hB.size
      have hgc : wr.cell? ⟨g, 0, none⟩ = some (.int .i64 p) := (hB.cell (p := ⟨g, 0, none⟩) HG.out.1).trans HG.out.2
      clear hx hv
      by_cases h0 : sgP p x = 0
      · have h0' : (sgP p x == 0) = true := by simpa using h0
        have H0 := Lib.hid h0
        clear h0 HS
        go_wp2_with (go_at_call 47; refine (sg1_any x _ g p (by simp; omega) (by simp [go_sem, *])).mono ?_; rintro e w1 ⟨rfl, hb⟩; obtain ⟨hc, hf⟩ := bcell hb; have hz := hb.size; (try simp at hz); (have zl0 : w.heap.size < w1.heap.size := by omega); (have ze0 : w.heap.size ≤ w1.heap.size := by omega); (have zl1 : w.heap.size + 1 < w1.heap.size := by omega); (have ze1 : w.heap.size + 1 ≤ w1.heap.size := by omega); obtain ⟨hc, hf⟩ := bcell hb; have hz := hb.size; (try simp at hz); (have zl0 : wr.heap.size < w1.heap.size := by omega); (have ze0 : wr.heap.size ≤ w1.heap.size := by omega))
        go_roundw
        case rel =>
          refine ⟨k + 1, s, by omega, by go_num, ⟨?_, hS.out.2⟩, by (repeat (first | with_reducible assumption | with_reducible refine below_drewN ?_ _ | with_reducible refine Below.drew ?_ | with_reducible refine below_alloc ?_ _ | with_reducible refine Below.setCell ?_ (by first | omega | (simp; done) | (simp; omega)) _ | with_reducible refine below_then ?_ (by with_reducible assumption))), ?_, ?_⟩
          · rw [totF_take HX.out, hS.out.1]; simp [stepT, H0.out]
          · (repeat (first | with_reducible assumption | with_reducible refine Blk.alloc ?_ _ | with_reducible refine Blk.drewN ?_ _ | with_reducible apply Blk.setT0 | with_reducible apply Blk.setT1 | with_reducible refine Blk.far ?_ (by first | (simp; done) | omega | (simp; omega)) _ | with_reducible refine Blk.then_ ?_ (by with_reducible assumption)))
          · (repeat (first | with_reducible assumption | with_reducible refine Blk.alloc ?_ _ | with_reducible refine Blk.drewN ?_ _ | with_reducible apply Blk.setT0 | with_reducible apply Blk.setT1 | with_reducible refine Blk.far ?_ (by first | (simp; done) | omega | (simp; omega)) _ | with_reducible refine Blk.then_ ?_ (by with_reducible assumption)))
        case measure => simp [intOf]; omega
      · have h0' : (sgP p x == 0) = false := by simpa using h0
        have hz : sgP p x = 1 ∨ sgP p x = -1 := HS.resolve_left h0
        obtain ⟨V1, V2, V3⟩ := HV.out
        have bx := inR_bd V3
        rw [V1] at bx
        have bz : -1000000000000 ≤ sgP p x * x.n ∧ sgP p x * x.n ≤ 1000000000000 := by rcases hz with e | e <;> rw [e] <;> omega
        have q1 := signed_num (q := qOf x) hz
        have q2 := signed_inR hz V3
        have HQ : Hid ((((sgP p x : Int) : Rat) * qOf x).num = sgP p x * x.n ∧ ((((sgP p x : Int) : Rat) * qOf x).den : Int) = x.d ∧ inR (((sgP p x : Int) : Rat) * qOf x) = true) := ⟨by rw [q1.1, V1], by rw [q1.2, V2], q2⟩
        have ST : Hid (stepT (sgP p) x s = if inR (s + ((sgP p x : Int) : Rat) * qOf x) then some (s + ((sgP p x : Int) : Rat) * qOf x) else none) := by rw [Hid, stepT, if_neg h0]
        generalize hr : s + ((sgP p x : Int) : Rat) * qOf x = r at ST
        have HR := Lib.hid hr
        clear hr h0 hz V1 V2 V3 bx q1 q2 HS
        cases hin : inR r
        · have e1 := oE_no hin
          have e2 := oN_no hin
          have e3 := oD_no hin
          have HN := Lib.hid hin
          clear hin
          go_wp2_with (first | (go_at_call 47; refine (sg1_any x _ g p (by simp; omega) (by simp [go_sem, *])).mono ?_; rintro e w1 ⟨rfl, hb⟩; obtain ⟨hc, hf⟩ := bcell hb; have hz := hb.size; (try simp at hz); (have zl0 : w.heap.size < w1.heap.size := by omega); (have ze0 : w.heap.size ≤ w1.heap.size := by omega); (have zl1 : w.heap.size + 1 < w1.heap.size := by omega); (have ze1 : w.heap.size + 1 ≤ w1.heap.size := by omega); obtain ⟨hc, hf⟩ := bcell hb; have hz := hb.size; (try simp at hz); (have zl0 : wr.heap.size < w1.heap.size := by omega); (have ze0 : wr.heap.size ≤ w1.heap.size := by omega); have hb1 := hb) | (go_at_call 19; refine (add_of s (((sgP p x : Int) : Rat) * qOf x) _ hS.out.2 HQ.out.2.2 rfl rfl HQ.out.1 HQ.out.2.1).mono ?_; rw [HR.out]; rintro e w1 ⟨rfl, hb⟩; obtain ⟨hc, hf⟩ := bcell hb; have hz := hb.size; (try simp at hz); (have zl0 : w.heap.size < w1.heap.size := by omega); (have ze0 : w.heap.size ≤ w1.heap.size := by omega); (have zl1 : w.heap.size + 1 < w1.heap.size := by omega); (have ze1 : w.heap.size + 1 ≤ w1.heap.size := by omega); obtain ⟨hc, hf⟩ := bcell hb; have hz := hb.size; (try simp at hz); (have zl0 : wr.heap.size < w1.heap.size := by omega); (have ze0 : wr.heap.size ≤ w1.heap.size := by omega)))
          refine bodyPost_ret (ret_rat rfl rfl (by (repeat (first | with_reducible assumption | with_reducible refine Blk.alloc ?_ _ | with_reducible refine Blk.drewN ?_ _ | with_reducible apply Blk.setT0 | with_reducible apply Blk.setT1 | with_reducible refine Blk.far ?_ (by first | (simp; done) | omega | (simp; omega)) _ | with_reducible refine Blk.then_ ?_ (by with_reducible assumption))))) rfl ⟨?_, ?_⟩
          · refine TotP.none_ ?_ ?_ ?_ ?_
            · refine totF_none (k := k + 1) ?_
              rw [totF_take HX.out, hS.out.1]
              show stepT (sgP p) x s = none
              rw [ST.out, HN.out]; rfl
            all_goals first | rfl | assumption
          · (repeat (first | with_reducible assumption | with_reducible refine below_drewN ?_ _ | with_reducible refine Below.drew ?_ | with_reducible refine below_alloc ?_ _ | with_reducible refine Below.setCell ?_ (by first | omega | (simp; done) | (simp; omega)) _ | with_reducible refine below_then ?_ (by with_reducible assumption)))
        · have e1 := oE_yes hin
          have e2 := oN_yes hin
          have e3 := oD_yes hin
          have HN := Lib.hid hin
          clear hin
          go_wp2_with (first | (go_at_call 47; refine (sg1_any x _ g p (by simp; omega) (by simp [go_sem, *])).mono ?_; rintro e w1 ⟨rfl, hb⟩; obtain ⟨hc, hf⟩ := bcell hb; have hz := hb.size; (try simp at hz); (have zl0 : w.heap.size < w1.heap.size := by omega); (have ze0 : w.heap.size ≤ w1.heap.size := by omega); (have zl1 : w.heap.size + 1 < w1.heap.size := by omega); (have ze1 : w.heap.size + 1 ≤ w1.heap.size := by omega); obtain ⟨hc, hf⟩ := bcell hb; have hz := hb.size; (try simp at hz); (have zl0 : wr.heap.size < w1.heap.size := by omega); (have ze0 : wr.heap.size ≤ w1.heap.size := by omega); have hb1 := hb) | (go_at_call 19; refine (add_of s (((sgP p x : Int) : Rat) * qOf x) _ hS.out.2 HQ.out.2.2 rfl rfl HQ.out.1 HQ.out.2.1).mono ?_; rw [HR.out]; rintro e w2 ⟨rfl, hb2⟩; have hb := hb2; obtain ⟨hc, hf⟩ := bcell hb; have hz := hb.size; (try simp at hz); (have zl0 : w.heap.size < w2.heap.size := by omega); (have ze0 : w.heap.size ≤ w2.heap.size := by omega); (have zl1 : w.heap.size + 1 < w2.heap.size := by omega); (have ze1 : w.heap.size + 1 ≤ w2.heap.size := by omega); obtain ⟨hc, hf⟩ := bcell hb; have hz := hb.size; (try simp at hz); (have zl0 : wr.heap.size < w2.heap.size := by omega); (have ze0 : wr.heap.size ≤ w2.heap.size := by omega)))
          go_roundw
          case rel =>
            refine ⟨k + 1, r, by omega, by go_num, ⟨?_, HN.out⟩, by (repeat (first | with_reducible assumption | with_reducible refine below_drewN ?_ _ | with_reducible refine Below.drew ?_ | with_reducible refine below_alloc ?_ _ | with_reducible refine Below.setCell ?_ (by first | omega | (simp; done) | (simp; omega)) _ | with_reducible refine below_then ?_ (by with_reducible assumption))), ?_, ?_⟩
            · rw [totF_take HX.out, hS.out.1]
              show stepT (sgP p) x s = some r
              rw [ST.out, HN.out]; rfl
            · (repeat (first | with_reducible assumption | with_reducible refine Blk.alloc ?_ _ | with_reducible refine Blk.drewN ?_ _ | with_reducible apply Blk.setT0 | with_reducible apply Blk.setT1 | with_reducible refine Blk.far ?_ (by first | (simp; done) | omega | (simp; omega)) _ | with_reducible refine Blk.then_ ?_ (by with_reducible assumption)))
            · (repeat (first | with_reducible assumption | with_reducible refine Blk.alloc ?_ _ | with_reducible refine Blk.drewN ?_ _ | with_reducible apply Blk.setT0 | with_reducible apply Blk.setT1 | with_reducible refine Blk.far ?_ (by first | (simp; done) | omega | (simp; omega)) _ | with_reducible refine Blk.then_ ?_ (by with_reducible assumption)))
          case measure => simp [intOf]; omega
    · go_wp2
      refine bodyPost_ret (ret_rat rfl rfl (by (repeat (first | with_reducible assumption | with_reducible refine Blk.alloc ?_ _ | with_reducible refine Blk.drewN ?_ _ | with_reducible apply Blk.setT0 | with_reducible apply Blk.setT1 | with_reducible refine Blk.far ?_ (by first | (simp; done) | omega | (simp; omega)) _ | with_reducible refine Blk.then_ ?_ (by with_reducible assumption))))) rfl ⟨?_, ?_⟩
      · obtain rfl : k = l.length := by omega
        have := hS.out.1
        rw [List.take_length] at this
        exact TotP.some_ this rfl rfl rfl
      · (repeat (first | with_reducible assumption | with_reducible refine below_drewN ?_ _ | with_reducible refine Below.drew ?_ | with_reducible refine below_alloc ?_ _ | with_reducible refine Below.setCell ?_ (by first | omega | (simp; done) | (simp; omega)) _ | with_reducible refine below_then ?_ (by with_reducible assumption)))

end Go.Proofs.Yteoicnhnpailiaa
