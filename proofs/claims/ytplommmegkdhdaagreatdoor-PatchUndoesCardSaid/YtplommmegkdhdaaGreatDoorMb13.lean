/- Contracts of functions and plain laws, joined: Kc4. -/
import Derived.Test.YtplommmegkdhdaaGreatDoorMb12
/- Plain: which patches commute. -/
namespace Go.Proofs.YtplommmegkdhdaaGreatDoor

theorem one_one (p : Pat) (k : Cla) : p.one (p.one k) = p.one k := by
  unfold Pat.one
  split
  · rfl
  · split <;> rfl
theorem fold_get (p : Pat) : ∀ (is : List Int) (l : List Cla) (i : Nat), (∀ x ∈ is, 0 ≤ x) → (is.foldl (fun l i => l.modify i.toNat p.one) l)[i]? = (l[i]?).map fun k => if (i : Int) ∈ is then p.one k else k
  | [], l, i, _ => by simp
  | x :: is, l, i, h => by
    rw [List.foldl_cons, fold_get p is _ i (fun y hy => h y (List.mem_cons_of_mem _ hy)), List.getElem?_modify]
    have hx := h x (List.mem_cons_self ..)
    by_cases hi : x.toNat = i
    · have e : (i : Int) = x := by omega
      cases l[i]? with
      | none => simp
      | some k =>
        by_cases hm : x ∈ is
        · simp [hi, e, hm, one_one]
        · simp [hi, e, hm]
    · have e : (i : Int) ≠ x := by omega
      cases l[i]? with
      | none => simp
      | some k => simp [hi, e]
theorem fold_len (p : Pat) : ∀ (is : List Int) (l : List Cla), (is.foldl (fun l i => l.modify i.toNat p.one) l).length = l.length
  | [], l => rfl
  | x :: is, l => by rw [List.foldl_cons, fold_len p is]; simp
theorem incI_mem : ∀ (n : Nat) (last : Int) (l : List Int), incI n last l = true → ∀ x ∈ l, last < x ∧ x < n
  | n, last, [], _, x, hx => by cases hx
  | n, last, d :: l, h, x, hx => by
    simp only [incI, Bool.and_eq_true, decide_eq_true_eq] at h
    rcases List.mem_cons.1 hx with rfl | hx
    · exact h.1
    · have := incI_mem n d l h.2 x hx
      omega
theorem incI_mono : ∀ (n m : Nat) (last : Int) (l : List Int), n ≤ m → incI n last l = true → incI m last l = true
  | n, m, last, [], _, _ => rfl
  | n, m, last, d :: l, hm, h => by
    simp only [incI, Bool.and_eq_true, decide_eq_true_eq] at h ⊢
    exact ⟨⟨h.1.1, by omega⟩, incI_mono n m d l hm h.2⟩
/-- what is known of a patch that can be applied -/
structure Fit (c : Con) (p : Pat) : Prop where
  ok : c.ok = true
  kn : known p.kind = true
  fi : p.fits c.cl.length = true
  li : ¬ (p.kind = 1 ∧ c.cl.length = 400)
  re : (c.ap p).ok = true
theorem apE_iff {c : Con} {p : Pat} : c.apE p = 0 ↔ Fit c p := by
  unfold Con.apE
  constructor
  · intro h
    split at h
    · rename_i h1
      simp only [Bool.and_eq_true] at h1
      split at h
      · cases h
      · rename_i h2
        split at h
        · rename_i h3
          exact ⟨h1.1.1, h1.1.2, h1.2, fun ⟨a, b⟩ => h2 (by simp [a, b]), h3⟩
        · cases h
    · cases h
  · intro h
    rw [if_pos (by simp [h.ok, h.kn, h.fi]), if_neg (by intro e; simp at e; exact h.li e), if_pos (show (c.wc (p.do_ c.cl)).ok = true from h.re)]
theorem Fit.cls {c : Con} {p : Pat} (h : Fit c p) : ∀ x ∈ p.cls, 0 ≤ x ∧ x < c.cl.length := by
  have := h.fi
  unfold Pat.fits at this
  simp only [Bool.and_eq_true] at this
  intro x hx
  have := incI_mem _ _ _ this.1.1.2 x hx
  omega
/-- the clause at a place behind a patch -/
theorem do_get {p : Pat} (h : ∀ x ∈ p.cls, 0 ≤ x) (hk : p.kind ≠ 1) (l : List Cla) (i : Nat) : (p.do_ l)[i]? = (l[i]?).map fun k => if (i : Int) ∈ p.cls then p.one k else k := by
  unfold Pat.do_
  rw [if_neg (by simpa using hk)]
  exact fold_get p _ l i h
theorem do_len {p : Pat} (l : List Cla) : (p.do_ l).length = if p.kind = 1 then l.length + 1 else l.length := by
  unfold Pat.do_
  by_cases hk : p.kind = 1
  · rw [if_pos (by simpa using hk), if_pos hk]; simp
  · rw [if_neg (by simpa using hk), if_neg hk, fold_len]
theorem do_add {p : Pat} (hk : p.kind = 1) (l : List Cla) : p.do_ l = l ++ [p.new] := by
  unfold Pat.do_
  rw [if_pos (by simpa using hk)]
theorem claOk_mono {c : Con} {l m : List Cla} (h : l.length ≤ m.length) {i : Nat} {k : Cla} (hk : (c.wc l).claOk i k = true) : (c.wc m).claOk i k = true := by
  have e : ∀ s, condOk l.length i s = true → condOk m.length i s = true := by
    intro s hs
    unfold condOk isI at hs ⊢
    simp only [Bool.and_eq_true, decide_eq_true_eq] at hs ⊢
    exact ⟨⟨⟨⟨hs.1.1.1.1, by omega⟩, hs.1.1.2⟩, hs.1.2⟩, hs.2⟩
  unfold Con.claOk at hk ⊢
  simp only [Bool.and_eq_true] at hk ⊢
  obtain ⟨⟨⟨⟨⟨⟨⟨a1, a2⟩, a3⟩, a4⟩, a5⟩, a6⟩, a7⟩, a8⟩ := hk
  refine ⟨⟨⟨⟨⟨⟨⟨a1, a2⟩, a3⟩, a4⟩, a5⟩, ?_⟩, a7⟩, a8⟩
  rw [List.all_eq_true] at a6 ⊢
  exact fun s hs => e s (a6 s hs)
theorem ok_wc {c : Con} {l : List Cla} : (c.wc l).ok = true ↔ ((decide (c.par ≤ 12) && decide (c.days ≤ 2000) && decide (c.hold.length ≤ 12) && decide (c.un.length ≤ 20) && decide (c.ac.length ≤ 60)) = true ∧ l.length ≤ 400) ∧ (c.wc l).framed = true ∧ ∀ i k, l[i]? = some k → (c.wc l).claOk i k = true := by
  unfold Con.ok Con.lim
  simp only [Bool.and_eq_true, decide_eq_true_eq]
  rw [Con.clsOk_iff]
  simp only [Nat.zero_add]
  constructor
  · rintro ⟨⟨⟨⟨⟨⟨⟨a, b⟩, d⟩, e⟩, f⟩, g⟩, h⟩, i⟩
    exact ⟨⟨⟨⟨⟨⟨a, b⟩, d⟩, e⟩, f⟩, g⟩, h, i⟩
  · rintro ⟨⟨⟨⟨⟨⟨a, b⟩, d⟩, e⟩, f⟩, g⟩, h, i⟩
    exact ⟨⟨⟨⟨⟨⟨⟨a, b⟩, d⟩, e⟩, f⟩, g⟩, h⟩, i⟩
theorem wc_self (c : Con) : c.wc c.cl = c := rfl
/-- the clauses after two patches of which the second does not touch the first one's, none of both kinds add -/
theorem after_ok {c : Con} {p q : Pat} (hp : Fit c p) (hq : Fit c q) (hn : c.cl.length ≤ 20) (hk : ¬ (p.kind = 1 ∧ q.kind = 1)) (hd : ∀ x ∈ p.cls, x ∉ q.cls) : Fit (c.ap p) q := by
  have lp := do_len (p := p) c.cl
  have lq := do_len (p := q) c.cl
  have lpq := do_len (p := q) (p.do_ c.cl)
  have hcl : (c.ap p).cl = p.do_ c.cl := rfl
  have rp := hp.re
  have rq := hq.re
  have xp : (c.wc (p.do_ c.cl)).ok = true := rp
  have xq : (c.wc (q.do_ c.cl)).ok = true := rq
  rw [ok_wc] at xp xq
  have hle : c.cl.length ≤ (p.do_ c.cl).length := by rw [lp]; split <;> omega
  refine ⟨hp.re, hq.kn, ?_, ?_, ?_⟩
  · have := hq.fi
    unfold Pat.fits at this ⊢
    simp only [Bool.and_eq_true] at this ⊢
    exact ⟨⟨⟨this.1.1.1, incI_mono _ _ _ _ hle this.1.1.2⟩, this.1.2⟩, this.2⟩
  · rw [hcl, lp]
    split <;> omega
  · show ((c.ap p).wc (q.do_ (c.ap p).cl)).ok = true
    have e : (c.ap p).wc (q.do_ (c.ap p).cl) = c.wc (q.do_ (p.do_ c.cl)) := rfl
    rw [e, ok_wc]
    refine ⟨⟨xp.1.1, by rw [lpq, lp]; split <;> split <;> omega⟩, xp.2.1, ?_⟩
    intro i k hik
    by_cases hqk : q.kind = 1
    · -- q adds
      rw [do_add hqk] at hik
      have hpk : p.kind ≠ 1 := fun h => hk ⟨h, hqk⟩
      rw [if_neg hpk] at lp
      by_cases hi : i < (p.do_ c.cl).length
      · rw [List.getElem?_append_left hi] at hik
        exact claOk_mono (by rw [do_add hqk]; simp) (xp.2.2 i k hik)
      · rw [List.getElem?_append_right (by omega)] at hik
        have hi0 : i - (p.do_ c.cl).length = 0 := by
          have := (List.getElem?_eq_some_iff.1 hik).1
          simpa using this
        rw [hi0] at hik
        have : (q.do_ c.cl)[i]? = some k := by
          rw [do_add hqk, List.getElem?_append_right (by omega), show i - c.cl.length = 0 by omega]
          exact hik
        exact claOk_mono (by rw [do_add hqk, do_add hqk]; simp; omega) (xq.2.2 i k this)
    · rw [do_get (fun x hx => (hq.cls x hx).1) hqk] at hik
      rw [if_neg hqk] at lpq
      rw [if_neg hqk] at lq
      cases ha : (p.do_ c.cl)[i]? with
      | none => rw [ha] at hik; cases hik
      | some a =>
        rw [ha] at hik
        simp only [Option.map_some, Option.some.injEq] at hik
        by_cases hi : (i : Int) ∈ q.cls
        · rw [if_pos hi] at hik
          have hip : (i : Int) ∉ p.cls := fun h => hd _ h hi
          have hlt := (hq.cls _ hi).2
          -- the clause is that of q alone
          have ha0 : c.cl[i]? = some a := by
            by_cases hpk : p.kind = 1
            · rw [do_add hpk, List.getElem?_append_left (by omega)] at ha
              exact ha
            · rw [do_get (fun x hx => (hp.cls x hx).1) hpk] at ha
              cases hc : c.cl[i]? with
              | none => rw [hc] at ha; cases ha
              | some b => rw [hc] at ha; simp only [Option.map_some, if_neg hip] at ha; exact ha
          have : (q.do_ c.cl)[i]? = some k := by
            rw [do_get (fun x hx => (hq.cls x hx).1) hqk, ha0]
            simp only [Option.map_some, if_pos hi, hik]
          exact claOk_mono (by rw [lpq, lq]; omega) (xq.2.2 i k this)
        · rw [if_neg hi] at hik
          subst hik
          exact claOk_mono (by rw [lpq]; omega) (xp.2.2 i a ha)
theorem after_same {c : Con} {p q : Pat} (hp : Fit c p) (hq : Fit c q) (hk : ¬ (p.kind = 1 ∧ q.kind = 1)) (hd : ∀ x ∈ p.cls, x ∈ q.cls → ∀ k, p.one (q.one k) = q.one (p.one k)) : q.do_ (p.do_ c.cl) = p.do_ (q.do_ c.cl) := by
  have key : ∀ (p q : Pat), Fit c p → Fit c q → p.kind = 1 → q.kind ≠ 1 → q.do_ (p.do_ c.cl) = p.do_ (q.do_ c.cl) := by
    intro p q hp hq h1 h2
    rw [do_add h1, do_add h1]
    apply List.ext_getElem?
    intro i
    rw [do_get (fun x hx => (hq.cls x hx).1) h2]
    have lq := do_len (p := q) c.cl
    rw [if_neg h2] at lq
    by_cases hi : i < c.cl.length
    · rw [List.getElem?_append_left hi, List.getElem?_append_left (by omega), do_get (fun x hx => (hq.cls x hx).1) h2]
    · rw [List.getElem?_append_right (by omega), List.getElem?_append_right (by omega), lq]
      have : (i : Int) ∉ q.cls := fun h => by have := (hq.cls _ h).2; omega
      simp only [if_neg this]
      cases [p.new][i - c.cl.length]? <;> rfl
  by_cases h1 : p.kind = 1
  · exact key p q hp hq h1 (fun h => hk ⟨h1, h⟩)
  · by_cases h2 : q.kind = 1
    · exact (key q p hq hp h2 h1).symm
    · apply List.ext_getElem?
      intro i
      rw [do_get (fun x hx => (hq.cls x hx).1) h2, do_get (fun x hx => (hp.cls x hx).1) h1, do_get (fun x hx => (hp.cls x hx).1) h1, do_get (fun x hx => (hq.cls x hx).1) h2]
      cases c.cl[i]? with
      | none => rfl
      | some k =>
        simp only [Option.map_some, Option.some.injEq]
        by_cases a : (i : Int) ∈ p.cls <;> by_cases b : (i : Int) ∈ q.cls
        · simp only [if_pos a, if_pos b]; exact (hd _ a b k).symm
        · simp only [if_pos a, if_neg b]
        · simp only [if_neg a, if_pos b]
        · simp only [if_neg a, if_neg b]
theorem al2 {c : Con} {p q : Pat} (hp : Fit c p) (hq : Fit (c.ap p) q) : (c.al [p, q]).1 = 0 ∧ (c.al [p, q]).2 = (c.ap p).ap q := by
  rw [al_yes _ (apE_iff.2 hp), al_yes _ (apE_iff.2 hq)]
  exact ⟨rfl, rfl⟩
theorem swap_swap (n : Nat) (l : List Cla) : swapL n (swapL n l) = l := by
  cases ha : l[n]? with
  | none =>
    have e : swapL n l = l := by unfold swapL; rw [ha]
    rw [e, e]
  | some a =>
    cases hb : l[n + 1]? with
    | none =>
      have e : swapL n l = l := by unfold swapL; rw [ha, hb]
      rw [e, e]
    | some b =>
      obtain ⟨h1, _⟩ := List.getElem?_eq_some_iff.1 ha
      obtain ⟨h2, _⟩ := List.getElem?_eq_some_iff.1 hb
      have e : swapL n l = (l.set n b).set (n + 1) a := by unfold swapL; rw [ha, hb]
      have e1 : ((l.set n b).set (n + 1) a)[n]? = some b := by
        rw [List.getElem?_set_ne (by omega), List.getElem?_set_self h1]
      have e2 : ((l.set n b).set (n + 1) a)[n + 1]? = some a := by
        rw [List.getElem?_set_self (by simpa using h2)]
      have e3 : swapL n ((l.set n b).set (n + 1) a) = (((l.set n b).set (n + 1) a).set n a).set (n + 1) b := by unfold swapL; rw [e1, e2]
      rw [e, e3]
      apply List.ext_getElem?
      intro i
      by_cases c1 : n + 1 = i
      · subst c1
        rw [List.getElem?_set_self (by simpa using h2), hb]
      · rw [List.getElem?_set_ne c1]
        by_cases c2 : n = i
        · subst c2
          rw [List.getElem?_set_self (by simpa using h1), ha]
        · rw [List.getElem?_set_ne c2, List.getElem?_set_ne c1, List.getElem?_set_ne c2]
theorem com_symm (c : Con) (p q : Pat) : c.com q p = c.com p q := by
  unfold Con.com
  rw [Bool.eq_iff_iff]
  simp only [Bool.and_eq_true, decide_eq_true_eq]
  by_cases hk : p.kind = 1 ∧ q.kind = 1
  · rw [if_pos hk, if_pos ⟨hk.2, hk.1⟩]
    constructor
    · rintro ⟨⟨a, b⟩, e⟩; exact ⟨⟨b, a⟩, by rw [e, swap_swap]⟩
    · rintro ⟨⟨a, b⟩, e⟩; exact ⟨⟨b, a⟩, by rw [e, swap_swap]⟩
  · rw [if_neg hk, if_neg (fun h => hk ⟨h.2, h.1⟩)]
    constructor
    · rintro ⟨⟨a, b⟩, e⟩; exact ⟨⟨b, a⟩, e.symm⟩
    · rintro ⟨⟨a, b⟩, e⟩; exact ⟨⟨b, a⟩, e.symm⟩
/-- the clauses that a patch reads or changes -/
def Con.tch (c : Con) (p : Pat) : List Int := p.cls ++ (if p.kind = 1 then [(c.cl.length : Int)] else []) ++ p.new.start.map (·.1)
theorem disjoint_law {c : Con} {p q : Pat} (hp : c.apE p = 0) (hq : c.apE q = 0) (hn : c.cl.length ≤ 20) (hd : ∀ x ∈ c.tch p, x ∉ c.tch q) : c.com p q = true := by
  rw [apE_iff] at hp hq
  have hk : ¬ (p.kind = 1 ∧ q.kind = 1) := by
    rintro ⟨a, b⟩
    exact hd (c.cl.length : Int) (by unfold Con.tch; rw [if_pos a]; simp) (by unfold Con.tch; rw [if_pos b]; simp)
  have h1 : ∀ x ∈ p.cls, x ∉ q.cls := fun x hx hy => hd x (by unfold Con.tch; simp [hx]) (by unfold Con.tch; simp [hy])
  have f1 := after_ok hp hq hn hk h1
  have f2 := after_ok hq hp hn (fun h => hk ⟨h.2, h.1⟩) (fun x hx hy => h1 x hy hx)
  obtain ⟨a1, a2⟩ := al2 hp f1
  obtain ⟨b1, b2⟩ := al2 hq f2
  have e := after_same hp hq hk (fun x hx hy => absurd hy (h1 x hx))
  unfold Con.com
  rw [a1, b1, a2, b2, if_neg hk]
  simp only [decide_true, Bool.true_and, decide_eq_true_eq]
  exact e
end Go.Proofs.YtplommmegkdhdaaGreatDoor
