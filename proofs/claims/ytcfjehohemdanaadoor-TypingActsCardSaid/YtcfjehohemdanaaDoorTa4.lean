/- TypingBeginning: what symbols without faults have; which faults they have with another beginning. -/
import Derived.Test.YtcfjehohemdanaaDoorTa3
import Derived.Test.YtcfjehohemdanaaDoorD06
namespace Go.Proofs.YtcfjehohemdanaaDoor

theorem incr_asc (l : List Int) (p : Int) : incr l p = asc p l := by
  induction l generalizing p with
  | nil => rfl
  | cons a l ih =>
    simp only [incr, asc, ih]
    congr 1
    rw [Bool.eq_iff_iff]
    simp
def calS (s : Sy) : Cld := ⟨[s.wk.1, s.wk.2.1, s.wk.2.2.1, s.wk.2.2.2.1, s.wk.2.2.2.2.1, s.wk.2.2.2.2.2.1, s.wk.2.2.2.2.2.2], s.hol⟩
def gdB (y mo dd days : Int) : Bool := okC y mo dd && inn days 1 2000 && !decide (73048 < num y mo dd + days)
theorem fst1_zero {l : List (Int × Bool)} (h : fst1 l = 0) (hn : ∀ x ∈ l, x.1 ≠ 0) : ∀ x ∈ l, x.2 = false := by
  induction l with
  | nil => simp
  | cons a l ih =>
    obtain ⟨e, b⟩ := a
    rw [fst1] at h
    have h0 := hn (e, b) (by simp)
    cases b with
    | true => exact absurd h h0
    | false =>
      intro x hx
      rcases List.mem_cons.1 hx with rfl | hx
      · rfl
      · exact ih h (fun y hy => hn y (by simp [hy])) x hx
theorem eBeg_zero {s : Sy} (h : eBeg s = 0) : badBg s = false ∧ s.par.isEmpty = false ∧ s.ro.isEmpty = false := by
  have := fst1_zero h (by simp)
  have h1 := this (2, badBg s) (by simp)
  have h2 := this (14, s.par.isEmpty || s.ro.isEmpty) (by simp)
  simp only [Bool.or_eq_false_iff] at h2
  exact ⟨h1, h2⟩
theorem beg_facts {s : Sy} (h : chk s = []) : okC s.y s.mo s.dd = true ∧ (1 ≤ s.days ∧ s.days ≤ 2000) ∧ num s.y s.mo s.dd + s.days ≤ 73048 ∧ s.par.length ≠ 0 ∧ s.ro.length ≠ 0 ∧ vldC (calS s) = true ∧ allW s = false := by
  obtain ⟨h1, h2, _⟩ := chk_nil.1 h
  obtain ⟨q1, q2, q3⟩ := eBeg_zero h2
  simp only [badBg, Bool.or_eq_false_iff, Bool.not_eq_false', inn, Bool.and_eq_true, decide_eq_true_eq, decide_eq_false_iff_not] at q1
  simp only [wfS, smallT, Bool.and_eq_true, decide_eq_true_eq] at h1
  refine ⟨q1.1.1.1, q1.1.1.2, by omega, by simpa using q2, by simpa using q3, ?_, q1.2⟩
  rw [asc_vld, ← incr_asc]
  simp only [calS, Bool.and_eq_true, decide_eq_true_eq]
  have hh : s.hol.length ≤ 400 := by omega
  refine ⟨?_, decide_eq_true hh, h1.1.1.1.1.2⟩
  have hw := q1.2
  unfold allW at hw
  cases hb : (List.contains [s.wk.1, s.wk.2.1, s.wk.2.2.1, s.wk.2.2.2.1, s.wk.2.2.2.2.1, s.wk.2.2.2.2.2.1, s.wk.2.2.2.2.2.2] false) with
  | true => rfl
  | false =>
    simp at hb
    obtain ⟨b0, b1, b2, b3, b4, b5, b6⟩ := hb
    rw [show s.wk = (true, true, true, true, true, true, true) from Prod.ext b0 (Prod.ext b1 (Prod.ext b2 (Prod.ext b3 (Prod.ext b4 (Prod.ext b5 b6)))))] at hw
    simp at hw
def Sy.beg (s : Sy) (y mo dd days : Int) : Sy := { s with y := y, mo := mo, dd := dd, days := days }
theorem chk_beg {s : Sy} (h : chk s = []) (y mo dd days : Int) : chk (s.beg y mo dd days) = if gdB y mo dd days then [] else [(2, -1)] := by
  obtain ⟨h1, h2, h3, h4, h5⟩ := chk_nil.1 h
  obtain ⟨_, q2, q3⟩ := eBeg_zero h2
  have hw := (beg_facts h).2.2.2.2.2.2
  have w1 : wfS (s.beg y mo dd days) = true := h1
  rw [chk_wf w1]
  have g1 : gx (eUn (s.beg y mo dd days)) (fun _ => -1) 0 (s.beg y mo dd days).un = [] := gx_nil.2 fun i a ha => by rw [Nat.zero_add]; exact h3 i a ha
  have g2 : gx (fun _ (a : As) => eAc a.a) (·.pos) 0 (s.beg y mo dd days).ac = [] := gx_nil.2 fun i a ha => h4 i a ha
  have g3 : gx (eCl (s.beg y mo dd days)) (·.pos) 0 (s.beg y mo dd days).cl = [] := gx_nil.2 fun i a ha => by rw [Nat.zero_add]; exact h5 i a ha
  rw [g1, g2, g3]
  simp only [List.append_nil]
  have e1 : eBeg (s.beg y mo dd days) = fst1 [(2, badBg (s.beg y mo dd days)), (14, s.par.isEmpty || s.ro.isEmpty)] := rfl
  have e2 : badBg (s.beg y mo dd days) = !gdB y mo dd days := by
    simp only [badBg, gdB]
    rw [show allW (s.beg y mo dd days) = allW s from rfl, hw]
    simp only [Sy.beg, Bool.or_false]
    by_cases h9 : 73048 < num y mo dd + days <;> simp [h9, Bool.not_and]
  rw [e1, e2, q2, q3]
  cases gdB y mo dd days <;> rfl
end Go.Proofs.YtcfjehohemdanaaDoor
