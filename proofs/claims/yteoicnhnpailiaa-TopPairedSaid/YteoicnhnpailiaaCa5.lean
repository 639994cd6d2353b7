/- Debts netted between each two parties: nobody has to pay more. No program in sight. -/
import Derived.Test.YteoicnhnpailiaaCa4
import Derived.Test.YteoicnhnpailiaaNet5
namespace Go.Proofs.Yteoicnhnpailiaa

def selQ (j to : Int) (x : Db) : Rat := if sel j to x then qOf x else 0
theorem sumQ_ams (l : List Db) (j to : Int) : sumQ (ams l j to) = sm (selQ j to) l := by
  induction l with
  | nil => rfl
  | cons x l ih =>
    have hc : ams (x :: l) j to = (if sel j to x then [qOf x] else []) ++ ams l j to := by
      unfold ams
      cases h : sel j to x <;> simp [h]
    rw [hc, sumQ_app, ih]
    show _ = selQ j to x + sm (selQ j to) l
    unfold selQ
    cases h : sel j to x <;> simp [sumQ, Rat.add_zero]
theorem sm_sel_filter {l : List Db} {a b : Nat} (hab : a ≠ b) : sm (selQ a b) l = sm (selQ a b) (l.filter fun x => sgAB a b x != 0) := by
  induction l with
  | nil => rfl
  | cons x l ih =>
    rw [List.filter_cons]
    show selQ a b x + sm (selQ a b) l = _
    by_cases h : sgAB a b x = 0
    · have h0 : selQ a b x = 0 := by
        unfold selQ sel
        have : ¬ (x.f = a ∧ x.t = b) := fun e => by rw [sgAB, if_pos e] at h; cases h
        rw [if_neg]
        intro hs
        simp only [Bool.and_eq_true, Bool.or_eq_true, beq_iff_eq, decide_eq_true_eq] at hs
        rcases hs.2 with h1 | h1
        · omega
        · exact this ⟨hs.1, h1⟩
      rw [if_neg (by simp [h]), h0, ih]; grind
    · rw [if_pos (by simpa using h), ih]; rfl
theorem sm_nonneg {α : Type} {f : α → Rat} {l : List α} (h : ∀ x ∈ l, 0 ≤ f x) : 0 ≤ sm f l := by
  have := sm_le (f := fun _ => (0 : Rat)) (g := f) (l := l) h
  rwa [sm_zero fun _ _ => rfl] at this
theorem selQ_pos {n : Int} {l : List Db} (h : ∀ x ∈ l, okD n x = true) (j to : Int) : 0 ≤ sm (selQ j to) l := by
  refine sm_nonneg fun x hx => ?_
  unfold selQ
  split
  · exact (qOf_pos (h x hx)).1
  · exact Rat.le_refl
/-- a pair's balance -/
theorem tv_pair {n : Int} {l : List Db} (_h : ∀ x ∈ l, okD n x = true) {a b : Nat} (hab : a ≠ b) : tv (sgAB a b) l = sm (selQ a b) l - sm (selQ b a) l := by
  have e : tv (sgAB a b) l = sm (fun x => selQ a b x + -selQ b a x) l := by
    refine sm_congr fun x _ => ?_
    unfold selQ sel sgAB
    have ha : ¬ ((a : Int) < 0) := by omega
    have hb : ¬ ((b : Int) < 0) := by omega
    by_cases h1 : x.f = a ∧ x.t = b
    · have h2 : ¬ (x.f = b) := fun e => hab (by omega)
      simp only [h1.1, h1.2] at h2 ⊢
      simp [ha, hb, h2]
      grind
    · by_cases h2 : x.f = b ∧ x.t = a
      · have h3 : ¬ (x.f = a) := fun e => hab (by omega)
        simp only [h2.1, h2.2] at h3 ⊢
        simp [ha, hb, h3]
        grind
      · have h3 : ¬ ((x.f == (a : Int)) = true ∧ (x.t == (b : Int)) = true) := by simpa using h1
        have h4 : ¬ ((x.f == (b : Int)) = true ∧ (x.t == (a : Int)) = true) := by simpa using h2
        simp only [h1, h2, if_false]
        have e1 : (x.f == (a : Int) && (decide ((b : Int) < 0) || x.t == (b : Int))) = false := by
          cases c1 : (x.f == (a : Int)) <;> cases c2 : (x.t == (b : Int)) <;> simp_all
        have e2 : (x.f == (b : Int) && (decide ((a : Int) < 0) || x.t == (a : Int))) = false := by
          cases c1 : (x.f == (b : Int)) <;> cases c2 : (x.t == (a : Int)) <;> simp_all
        rw [e1, e2]
        simp
        grind
  rw [e, sm_add, sm_neg]
  grind
theorem prD_sel {a b : Nat} (hab : a ≠ b) (s : Rat) : sm (selQ a b) (prD a b s) = (if 0 < s.num then s else 0) ∧ sm (selQ b a) (prD a b s) = (if s.num < 0 then -s else 0) := by
  rcases Int.lt_trichotomy s.num 0 with h | h | h
  · rw [prD_neg h, if_neg (by omega), if_pos h]
    simp only [sm, selQ, sel, qOf_neg]
    have h1 : ¬ ((b : Int) == (a : Int)) = true := by simp; omega
    simp [h1]
    constructor <;> grind
  · rw [prD_zero h, if_neg (by omega), if_neg (by omega)]
    exact ⟨rfl, rfl⟩
  · rw [prD_pos h, if_pos h, if_neg (by omega)]
    simp only [sm, selQ, sel, qOf_mk]
    have h1 : ¬ ((a : Int) == (b : Int)) = true := by simp; omega
    simp [h1]
    constructor <;> grind
/-- netted, nobody owes another one more -/
theorem pair_less {n : Nat} {l ys : List Db} (hv : ∀ x ∈ l, okD n x = true) (h : prF l n n = some ys) {a b : Nat} (ha : a < n) (hb : b < n) : sm (selQ a b) ys ≤ sm (selQ a b) l := by
  have hy := (prF_mem (Nat.le_refl n) h).1
  by_cases hab : a = b
  · subst hab
    have : sm (selQ a a) ys = 0 := sm_zero fun x hx => by
      have hne := (okD_of (hy x hx).2).1.2.2.2.2
      unfold selQ sel
      rw [if_neg]
      intro hs
      simp only [Bool.and_eq_true, Bool.or_eq_true, beq_iff_eq, decide_eq_true_eq] at hs
      rcases hs.2 with h1 | h1
      · omega
      · exact hne (hs.1.trans h1.symm)
    rw [this]
    exact selQ_pos hv _ _
  · have key : ∀ (x y : Nat), x < y → y < n → sm (selQ x y) ys ≤ sm (selQ x y) l ∧ sm (selQ y x) ys ≤ sm (selQ y x) l := by
      intro x y hxy hyn
      cases hs : totF (sgAB x y) l with
      | none => rw [prF_bad hxy hyn hs] at h; cases h
      | some s =>
        have hk := prF_key hs hxy hyn h
        rw [if_pos (by omega)] at hk
        have hval := totF_val hs
        rw [tv_pair hv (by omega : x ≠ y)] at hval
        have p1 := selQ_pos hv (x : Int) y
        have p2 := selQ_pos hv (y : Int) x
        have q1 := prD_sel (by omega : x ≠ y) s
        have f1 : sm (selQ x y) ys = sm (selQ x y) (prD x y s) := by rw [sm_sel_filter (by omega), hk]
        have f2 : sm (selQ y x) ys = sm (selQ y x) (prD x y s) := by
          rw [sm_sel_filter (by omega), ← hk]
          congr 1
          refine List.filter_congr fun z _ => ?_
          unfold sgAB
          by_cases g1 : z.f = (x : Int) ∧ z.t = (y : Int)
          · have g2 : ¬ (z.f = (y : Int) ∧ z.t = (x : Int)) := fun e => by omega
            rw [if_neg g2, if_pos g1, if_pos g1]; rfl
          · by_cases g2 : z.f = (y : Int) ∧ z.t = (x : Int)
            · rw [if_pos g2, if_neg g1, if_pos g2]; rfl
            · rw [if_neg g2, if_neg g1, if_neg g1, if_neg g2]
        rw [f1, f2, q1.1, q1.2]
        constructor
        · split <;> grind
        · split <;> grind
    rcases Nat.lt_or_ge a b with hl | hl
    · exact (key a b hl hb).1
    · exact (key b a (by omega) ha).2
theorem all_sum {n : Nat} {l : List Db} (hv : ∀ x ∈ l, okD n x = true) (j : Int) : sm (selQ j (-1)) l = rs (fun k => sm (selQ j (k : Int)) l) n := by
  rw [rs_sm]
  refine sm_congr fun x hx => ?_
  obtain ⟨⟨_, _, h3, h4, _⟩, _, _⟩ := okD_of (hv x hx)
  rw [rs_one (k := x.t.toNat) (by omega) fun i hi hne => ?_]
  · unfold selQ sel
    rw [Int.toNat_of_nonneg h3]
    simp
  · unfold selQ sel
    rw [if_neg]
    intro hs
    simp only [Bool.and_eq_true, Bool.or_eq_true, beq_iff_eq, decide_eq_true_eq] at hs
    rcases hs.2 with h1 | h1
    · omega
    · omega
theorem due_less {n : Nat} {l ys : List Db} (hv : ∀ x ∈ l, okD n x = true) (h : prF l n n = some ys) {j : Nat} (hj : j < n) {to : Int} (ht : to = -1 ∨ (0 ≤ to ∧ to < n)) : sumQ (ams ys j to) ≤ sumQ (ams l j to) := by
  rw [sumQ_ams, sumQ_ams]
  rcases ht with rfl | ⟨t0, t1⟩
  · rw [all_sum (fun x hx => ((prF_mem (Nat.le_refl n) h).1 x hx).2), all_sum hv]
    exact rs_le fun k hk => pair_less hv h hj hk
  · obtain ⟨k, rfl⟩ := Int.eq_ofNat_of_zero_le t0
    exact pair_less hv h hj (by omega)
def netP (p : Pf) (ys : List Db) : Pf := { p with du := ys }
theorem VP.net {p : Pf} (hp : VP p) {n : Nat} (hn : p.n = n) {ys : List Db} (h : prF p.du n n = some ys) : VP (netP p ys) := by
  have hv : validD n p.du = true := by
    have := hp.n1; have := hp.n12
    exact validD_mk ⟨by omega, by omega, hp.ldu⟩ fun x hx => by rw [← hn]; exact hp.du x hx
  have h2 := pairs_valid hv h
  obtain ⟨_, _, h3⟩ := validD_of h2
  exact ⟨hp.n1, hp.n12, hp.len, h3, hp.lla, hp.lgu, hp.ltr, hp.as, fun x hx => by show okD p.n x = true; rw [hn]; exact validD_mem h2 x hx, hp.la, hp.gu, hp.tr⟩
theorem sumQ_flat {α : Type} {f g : α → List Rat} : ∀ {l : List α}, (∀ x ∈ l, sumQ (f x) ≤ sumQ (g x)) → sumQ (l.flatMap f) ≤ sumQ (l.flatMap g)
  | [], _ => Rat.le_refl
  | x :: l, h => by
    simp only [List.flatMap_cons, sumQ_app]
    have h1 := h x (by simp)
    have h2 := sumQ_flat (f := f) (g := g) (l := l) fun y hy => h y (by simp [hy])
    grind
theorem net_amt {p : Pf} (hp : VP p) {n : Nat} (hn : p.n = n) {ys : List Db} (h : prF p.du n n = some ys) (S : List Bool) {i : Nat} (hi : i < n) : sumQ (amtC (netP p ys) S i) ≤ sumQ (amtC p S i) := by
  have hv : ∀ x ∈ p.du, okD n x = true := fun x hx => by rw [← hn]; exact hp.du x hx
  have he : ∀ (j : Nat) (to : Int), j < n → (to = -1 ∨ (0 ≤ to ∧ to < n)) → sumQ (eachL (netP p ys) S j to) ≤ sumQ (eachL p S j to) := by
    intro j to hj ht
    have h1 := due_less hv h hj ht
    unfold eachL
    rw [sumQ_app, sumQ_app]
    have h2 : lat (netP p ys) S j = lat p S j := rfl
    rw [h2]
    have h3 : (netP p ys).la = p.la := rfl
    have h4 : (netP p ys).du = ys := rfl
    rw [h3, h4]
    grind
  unfold amtC
  rw [sumQ_app, sumQ_app]
  have h1 := he i (-1) hi (.inl rfl)
  have h2 : sumQ ((netP p ys).gu.flatMap (gOf (netP p ys) S i)) ≤ sumQ (p.gu.flatMap (gOf p S i)) := by
    refine sumQ_flat fun g hg => ?_
    obtain ⟨⟨x0, x1⟩, _, ⟨t0, t1⟩, _⟩ := hp.gu g hg
    unfold gOf
    by_cases hc : (g.b == (i : Int) && has S g.x) = true
    · rw [if_pos hc, if_pos hc]
      obtain ⟨k, hk⟩ := Int.eq_ofNat_of_zero_le x0
      rw [hk]
      exact he k g.t (by omega) (.inr ⟨t0, by omega⟩)
    · rw [if_neg hc, if_neg hc]; exact Rat.le_refl
  grind
theorem paired_law {p : Pf} (hp : VP p) {n : Nat} (hn : p.n = n) {ys : List Db} (h : prF p.du n n = some ys) {K K' : Nat} (hs : SpOk p K) (hs' : SpOk (netP p ys) K') : sub p.n (Dk (netP p ys) K') (Dk p K) :=
  less_law (q := netP p ys) hp rfl (VP.net hp hn h) hs hs' (fun S T i x y hST i0 i1 hx hy hlt => by
    obtain ⟨j, rfl⟩ := Int.eq_ofNat_of_zero_le i0
    have e1 := ow_eq hx
    have e2 := ow_eq hy
    have h1 := net_amt hp hn h S (i := j) (by omega)
    have h2 := sumQ_sub (amtC_mono hp hST (j : Int)) (amtC_pos hp T (j : Int))
    have h3 : asQ (netP p ys) ((j : Int).toNat) = asQ p ((j : Int).toNat) := rfl
    rw [h3] at hlt
    grind) K' (Nat.le_refl _)
end Go.Proofs.Yteoicnhnpailiaa
