/- Contracts of functions and plain laws, joined: Kc8, Kbv. -/
import Derived.Test.YtcplneglfbdooaaMb21
import Derived.Test.YtcplneglfbdooaaMb20
/- Plain: merging the other way round: all pairs commute there, too, and the contracts are the same up to the order of what was added. -/
namespace Go.Proofs.Ytcplneglfbdooaa

theorem rens_zero (n : Nat) (r : List Pat) : rens n 0 r = r := by
  unfold rens
  rw [show (fun q : Pat => q.ren n 0) = id from funext fun p => ren_zero p _, List.map_id]
theorem rens_snoc (n k : Nat) (l : List Pat) (q : Pat) : rens n k (l ++ [q]) = rens n k l ++ [q.ren n k] := by unfold rens; simp
theorem addsN_rens (n k : Nat) (l : List Pat) : addsN (rens n k l) = addsN l := addsN_ren n k l
/-- what is known of one list that can be applied -/
theorem fr_at {c : Con} {L : List Pat} (h : (c.al L).1 = 0) {i : Nat} {p : Pat} (hp : L[i]? = some p) : Fit (c.fr L i) p ∧ c.fr L (i + 1) = (c.fr L i).ap p ∧ (c.fr L i).cl.length = c.cl.length + addsN (L.take i) ∧ addsN (L.take (i + 1)) = addsN (L.take i) + addsN [p] := by
  have h1 := al_take (i + 1) h
  have h0 := al_take i h
  rw [take_snoc hp] at h1
  have h2 := al_snoc' h1
  refine ⟨apE_fit h2.2, ?_, al_len _ _ h0, by rw [take_snoc hp, addsN_app]⟩
  unfold Con.fr
  rw [take_snoc hp]
  exact (al_snoc h2.1 h2.2).2
theorem st_len {c : Con} {L R : List Pat} {i j : Nat} (hL : (c.al L).1 = 0) (h : ((c.fr L i).al (rens c.cl.length (addsN (L.take i)) (R.take j))).1 = 0) : (c.st L R i j).cl.length = c.cl.length + addsN (L.take i) + addsN (R.take j) := by
  unfold Con.st
  rw [al_len _ _ h, addsN_rens]
  unfold Con.fr
  rw [al_len _ _ (al_take i hL)]
theorem st_snoc {c : Con} {L R : List Pat} {i j : Nat} {q : Pat} (hq : R[j]? = some q) (h : ((c.fr L i).al (rens c.cl.length (addsN (L.take i)) (R.take j))).1 = 0) (ha : (c.st L R i j).apE (q.ren c.cl.length (addsN (L.take i))) = 0) :
    ((c.fr L i).al (rens c.cl.length (addsN (L.take i)) (R.take (j + 1)))).1 = 0 ∧ c.st L R i (j + 1) = (c.st L R i j).ap (q.ren c.cl.length (addsN (L.take i))) := by
  have := al_snoc h ha
  rw [← rens_snoc, ← take_snoc hq] at this
  exact this
theorem ren_mapP {q : Pat} {n m k : Nat} {π ρ : Int → Int} (h : InD q m) (e : ∀ x : Int, 0 ≤ x → x < m → π (renI n k x) = ρ x) : (q.ren n k).mapP π = q.mapP ρ := by
  rw [ren_map, mapP_comp]
  exact h.congr e
/-- where both add, the last two clauses exchanged are the clauses in another order -/
theorem tau_rel {X : Con} {N : Nat} (hl : X.cl.length = N + 2) (hc : ∀ (i : Nat) (k : Cla), X.cl[i]? = some k → ∀ s ∈ k.start, s.1 < (N : Int)) : Rel (sg N 1 1) X (X.wc (swapL N X.cl)) := by
  refine ⟨rfl, by rw [wc_cl, swapL_len], fun i k hk => ?_⟩
  have hi := (List.getElem?_eq_some_iff.1 hk).1
  have hm : k.mapC (sg N 1 1) = k := by
    unfold Cla.mapC
    have : (k.start.map fun s => (sg N 1 1 s.1, s.2)) = k.start := by
      have h1 : (k.start.map fun s => (sg N 1 1 s.1, s.2)) = k.start.map id := List.map_congr_left fun s hs => by
        have := hc i k hk s hs
        have : sg N 1 1 s.1 = s.1 := by unfold sg; rw [if_neg (by omega), if_neg (by omega)]
        rw [this]; rfl
      rw [h1, List.map_id]
    rw [this]
  rw [hm, wc_cl, swapL_get N _ (by omega)]
  by_cases e1 : i = N
  · subst e1
    rw [show sg i 1 1 (i : Int) = (i : Int) + 1 by unfold sg; rw [if_pos (by omega)]; rfl, if_neg (by omega), if_pos (by omega)]
    exact hk
  · by_cases e2 : i = N + 1
    · subst e2
      rw [show sg N 1 1 ((N + 1 : Nat) : Int) = (N : Int) by unfold sg; rw [if_neg (by omega), if_pos (by omega)]; omega, if_pos (by omega)]
      exact hk
    · rw [show sg N 1 1 (i : Int) = (i : Int) by unfold sg; rw [if_neg (by omega), if_neg (by omega)], if_neg (by omega), if_neg (by omega)]
      simpa using hk
/-- one row of the grid: the patch p of the left list ahead of the right list, or behind it -/
theorem row_step {c : Con} {L R : List Pat} (hL : (c.al L).1 = 0) (hR : (c.al R).1 = 0) (hg : c.grid L R) {i : Nat} {p : Pat} (hp : L[i]? = some p)
    (hok : ∀ j, j ≤ R.length → ((c.fr L i).al (rens c.cl.length (addsN (L.take i)) (R.take j))).1 = 0) : ∀ j, j ≤ R.length →
    ((c.fr L (i + 1)).al (rens c.cl.length (addsN (L.take (i + 1))) (R.take j))).1 = 0 ∧ (c.st L R i j).apE p = 0 ∧ Rel (sg (c.cl.length + addsN (L.take i)) (addsN (R.take j)) (addsN [p])) ((c.st L R i j).ap p) (c.st L R (i + 1) j) := by
  obtain ⟨f1, f2, f3, f4⟩ := fr_at hL hp
  intro j
  induction j with
  | zero =>
    intro _
    refine ⟨rfl, apE_iff.2 f1, ?_⟩
    have e1 : c.st L R i 0 = c.fr L i := rfl
    have e2 : c.st L R (i + 1) 0 = c.fr L (i + 1) := rfl
    rw [e1, e2, f2]
    exact Rel.id_ _ fun x => sg_zero' _ _ x
  | succ j ih =>
    intro hj
    obtain ⟨q, hq⟩ : ∃ q, R[j]? = some q := ⟨_, List.getElem?_eq_getElem (by omega)⟩
    obtain ⟨g1, g2, g3⟩ := ih (by omega)
    obtain ⟨r1, r2, r3, r4⟩ := fr_at hR hq
    have hcom := hg i p hp j q hq
    have hlen := st_len hL (hok j (by omega))
    have hD : InD q (c.cl.length + addsN (R.take j)) := by rw [← r3]; exact r1.ind
    have hsn := st_snoc hq (hok j (by omega))
    have hsn1 := st_snoc (L := L) (i := i + 1) hq g1
    rw [f4] at g1 hsn1 ⊢
    rw [r4]
    generalize ha : addsN (List.take i L) = a0 at *
    generalize hb : addsN (List.take j R) = b0 at *
    generalize he : addsN [p] = e0 at *
    generalize hn : c.cl.length = n at *
    generalize hS : c.st L R i j = S at *
    generalize hQ : q.ren n a0 = Q at *
    generalize hS' : c.st L R (i + 1) j = S' at *
    have hc2 := hcom
    unfold Con.com at hc2
    simp only [Bool.and_eq_true, decide_eq_true_eq] at hc2
    obtain ⟨⟨h1, h2⟩, h3⟩ := hc2
    obtain ⟨a1, a2, a3⟩ := al_two h1
    obtain ⟨b1, b2, b3⟩ := al_two h2
    obtain ⟨s1, s2⟩ := hsn b1
    have hSp : (S.ap p).cl.length = n + a0 + b0 + e0 := by
      rw [ap_len, hlen, ← he, addsN_one]; split <;> omega
    have hP : Prm (sg (n + a0) b0 e0) (sg (n + a0) e0 b0) (S.ap p).cl.length := sg_prm _ _ _ _ (by omega)
    have hQm : Q.mapP (sg (n + a0) b0 e0) = q.ren n (a0 + e0) := by
      rw [← hQ, ren_map q n (a0 + e0)]
      refine ren_mapP hD fun x x0 x1 => ?_
      unfold renI sg
      repeat' split
      all_goals omega
    have hI : Idx (sg (n + a0) b0 e0) (S.ap p).cl.length Q := by
      refine ⟨?_, ?_⟩
      · rw [← hQ]; exact incI_mono _ _ _ _ (by omega) (hD.ren (k := a0) (n := n)).1
      · have : Q.cls.map (sg (n + a0) b0 e0) = (q.ren n (a0 + e0)).cls := by rw [← hQm]; rfl
        rw [this]
        exact incI_mono _ _ _ _ (by omega) (hD.ren (k := a0 + e0) (n := n)).1
    have hA := apE_rel hP g3 hI
    rw [hQm, a2] at hA
    have hRl := ap_rel hP g3 hI.mem
    rw [hQm] at hRl
    obtain ⟨t1, t2⟩ := hsn1 hA
    refine ⟨t1, by rw [s2]; exact b2, ?_⟩
    rw [s2, t2]
    rw [a3, b3] at h3
    by_cases hk : p.kind = 1 ∧ Q.kind = 1
    · rw [if_pos hk] at h3
      have hqk : q.kind = 1 := by have := hk.2; rw [← hQ] at this; exact this
      have e1 : e0 = 1 := by rw [← he, addsN_one, if_pos hk.1]
      have e2 : addsN [q] = 1 := by rw [addsN_one, if_pos hqk]
      rw [e1] at hRl ⊢
      rw [e2]
      have hcl : ((S.ap Q).ap p).cl = S.cl ++ [Q.new] ++ [p.new] := by
        show p.do_ (Q.do_ S.cl) = _
        rw [do_add hk.1, do_add hk.2]
      have fp := apE_fit a1
      have fq := apE_fit b1
      have hconds : ∀ (i : Nat) (k : Cla), ((S.ap Q).ap p).cl[i]? = some k → ∀ s ∈ k.start, s.1 < ((n + a0 + b0 : Nat) : Int) := by
        intro m k hk s hs
        rw [hcl] at hk
        have hmm : k ∈ S.cl ++ [Q.new] ++ [p.new] := List.mem_of_getElem? hk
        rcases List.mem_append.1 hmm with hmm | hmm
        · rcases List.mem_append.1 hmm with hmm | hmm
          · obtain ⟨m2, hm2⟩ := List.getElem?_of_mem hmm
            have := (claOk_cond (ok_cl fp.ok hm2) s hs).2.1
            omega
          · obtain rfl := List.mem_singleton.1 hmm
            have := (fq.ind.2 s hs).2
            omega
        · obtain rfl := List.mem_singleton.1 hmm
          have := (fp.ind.2 s hs).2
          omega
      have hlx : ((S.ap Q).ap p).cl.length = (n + a0 + b0) + 2 := by rw [hcl]; simp [hlen]
      have ht := tau_rel (N := n + a0 + b0) hlx hconds
      have heq : (S.ap p).ap Q = ((S.ap Q).ap p).wc (swapL (n + a0 + b0) ((S.ap Q).ap p).cl) := by
        rw [hlen] at h3
        exact con_ext h3 rfl rfl rfl rfl rfl rfl
      rw [heq] at hRl
      have hcomp := Rel.comp (sg_prm (n + a0 + b0) 1 1 _ (by rw [hlx]; omega)) ht hRl
      have hf : (fun x => sg (n + a0) b0 1 (sg (n + a0 + b0) 1 1 x)) = sg (n + a0) (b0 + 1) 1 := funext fun x => sg_tau _ _ x
      rw [hf] at hcomp
      exact hcomp
    · rw [if_neg hk] at h3
      have heq : (S.ap p).ap Q = (S.ap Q).ap p := con_ext h3 rfl rfl rfl rfl rfl rfl
      rw [heq] at hRl
      have hf : sg (n + a0) (b0 + addsN [q]) e0 = sg (n + a0) b0 e0 := by
        by_cases hpk : p.kind = 1
        · have hqk : q.kind ≠ 1 := fun h => hk ⟨hpk, by rw [← hQ]; exact h⟩
          rw [addsN_one, if_neg hqk, Nat.add_zero]
        · have e1 : e0 = 0 := by rw [← he, addsN_one, if_neg hpk]
          rw [e1]
          funext x
          rw [sg_zero, sg_zero]
      rw [hf]
      exact hRl
theorem all_ok {c : Con} {L R : List Pat} (hL : (c.al L).1 = 0) (hR : (c.al R).1 = 0) (hg : c.grid L R) : ∀ i, i ≤ L.length → ∀ j, j ≤ R.length → ((c.fr L i).al (rens c.cl.length (addsN (L.take i)) (R.take j))).1 = 0 := by
  intro i
  induction i with
  | zero =>
    intro _ j _
    show (c.al (rens c.cl.length 0 (R.take j))).1 = 0
    rw [rens_zero]
    exact al_take j hR
  | succ i ih =>
    intro hi j hj
    obtain ⟨p, hp⟩ : ∃ p, L[i]? = some p := ⟨_, List.getElem?_eq_getElem (by omega)⟩
    exact (row_step hL hR hg hp (ih (by omega)) j hj).1
/-- the other way round -/
theorem turned {c : Con} {L R : List Pat} (hL : (c.al L).1 = 0) (hR : (c.al R).1 = 0) (hg : c.grid L R) : ∀ i, i ≤ L.length → ∀ j, j ≤ R.length →
    ((c.fr R j).al (rens c.cl.length (addsN (R.take j)) (L.take i))).1 = 0 ∧ Rel (sg c.cl.length (addsN (L.take i)) (addsN (R.take j))) (c.st L R i j) (c.st R L j i) := by
  intro i
  induction i with
  | zero =>
    intro _ j _
    refine ⟨rfl, ?_⟩
    have e1 : c.st L R 0 j = (c.al (rens c.cl.length 0 (R.take j))).2 := rfl
    have e2 : c.st R L j 0 = (c.al (R.take j)).2 := rfl
    rw [e1, e2, rens_zero]
    exact Rel.id_ _ fun x => sg_zero' _ _ x
  | succ i ih =>
    intro hi j hj
    obtain ⟨p, hp⟩ : ∃ p, L[i]? = some p := ⟨_, List.getElem?_eq_getElem (by omega)⟩
    obtain ⟨k1, k2⟩ := ih (by omega) j hj
    have hok := all_ok hL hR hg i (by omega)
    obtain ⟨g1, g2, g3⟩ := row_step hL hR hg hp hok j hj
    obtain ⟨f1, f2, f3, f4⟩ := fr_at hL hp
    have hlen := st_len hL (hok j hj)
    have hlen2 := st_len hL g1
    have hsn := st_snoc (L := R) (i := j) hp k1
    have hD : InD p (c.cl.length + addsN (L.take i)) := by rw [← f3]; exact f1.ind
    rw [f4] at hlen2 ⊢
    generalize ha : addsN (List.take i L) = a0 at *
    generalize hb : addsN (List.take j R) = b0 at *
    generalize he : addsN [p] = e0 at *
    generalize hn : c.cl.length = n at *
    have hP : Prm (sg n a0 b0) (sg n b0 a0) (c.st L R i j).cl.length := sg_prm _ _ _ _ (by omega)
    have hm : p.mapP (sg n a0 b0) = p.ren n b0 := by
      rw [ren_map p n b0]
      refine hD.congr fun x x0 x1 => ?_
      unfold renI sg
      repeat' split
      all_goals omega
    have hI : Idx (sg n a0 b0) (c.st L R i j).cl.length p := by
      refine ⟨incI_mono _ _ _ _ (by omega) hD.1, ?_⟩
      have : p.cls.map (sg n a0 b0) = (p.ren n b0).cls := by rw [← hm]; rfl
      rw [this]
      exact incI_mono _ _ _ _ (by omega) (hD.ren (k := b0) (n := n)).1
    have hA := apE_rel hP k2 hI
    rw [hm, g2] at hA
    have hRl := ap_rel hP k2 hI.mem
    rw [hm] at hRl
    obtain ⟨t1, t2⟩ := hsn hA
    refine ⟨t1, ?_⟩
    rw [t2]
    have hPr : Prm (sg (n + a0) b0 e0) (sg (n + a0) e0 b0) ((c.st L R i j).ap p).cl.length := sg_prm _ _ _ _ (by rw [ap_len, hlen, ← he, addsN_one]; split <;> omega)
    have hs := g3.symm hPr
    have hcomp := Rel.comp (by rw [g3.len]; exact hPr.symm) hs hRl
    have hf : (fun x => sg n a0 b0 (sg (n + a0) e0 b0 x)) = sg n (a0 + e0) b0 := by
      funext y
      by_cases h0 : e0 = 0
      · rw [h0, sg_zero']; rfl
      · have h1 : e0 = 1 := by rw [← he, addsN_one] at h0 ⊢; split at h0 <;> simp_all
        rw [h1]
        have := sg_rho n a0 b0 (sg (n + a0) 1 b0 y)
        have h2 := hPr.r y
        rw [h1] at h2
        rw [← this, h2]
    rw [hf] at hcomp
    exact hcomp
theorem grid_symm {c : Con} {L R : List Pat} (hL : (c.al L).1 = 0) (hR : (c.al R).1 = 0) (hg : c.grid L R) : c.grid R L := by
  intro j q hq i p hp
  have hi := (List.getElem?_eq_some_iff.1 hp).1
  have hj := (List.getElem?_eq_some_iff.1 hq).1
  obtain ⟨k1, k2⟩ := turned hL hR hg i (by omega) j (by omega)
  have hok := all_ok hL hR hg i (by omega) j (by omega)
  have hcom := hg i p hp j q hq
  obtain ⟨f1, f2, f3, f4⟩ := fr_at hL hp
  obtain ⟨r1, r2, r3, r4⟩ := fr_at hR hq
  have hD : InD p (c.cl.length + addsN (L.take i)) := by rw [← f3]; exact f1.ind
  have hE : InD q (c.cl.length + addsN (R.take j)) := by rw [← r3]; exact r1.ind
  have hlen := st_len hL hok
  generalize ha : addsN (List.take i L) = a0 at *
  generalize hb : addsN (List.take j R) = b0 at *
  generalize hn : c.cl.length = n at *
  have hP : Prm (sg n a0 b0) (sg n b0 a0) (c.st L R i j).cl.length := sg_prm _ _ _ _ (by omega)
  have hm : p.mapP (sg n a0 b0) = p.ren n b0 := by
    rw [ren_map p n b0]
    refine hD.congr fun x x0 x1 => ?_
    unfold renI sg
    repeat' split
    all_goals omega
  have hI : Idx (sg n a0 b0) (c.st L R i j).cl.length p := by
    refine ⟨incI_mono _ _ _ _ (by omega) hD.1, ?_⟩
    have : p.cls.map (sg n a0 b0) = (p.ren n b0).cls := by rw [← hm]; rfl
    rw [this]
    exact incI_mono _ _ _ _ (by omega) (hD.ren (k := b0) (n := n)).1
  have hq0 : (q.ren n a0).mapP (sg n a0 b0) = q := by
    have h1 := ren_mapP (q := q) (n := n) (k := a0) (π := sg n a0 b0) (ρ := fun x => x) hE fun x x0 x1 => by
      unfold renI sg
      repeat' split
      all_goals omega
    rw [h1]
    exact mapP_id (fun _ => rfl) q
  have hJ : Idx (sg n a0 b0) (c.st L R i j).cl.length (q.ren n a0) := by
    refine ⟨incI_mono _ _ _ _ (by omega) (hE.ren (k := a0) (n := n)).1, ?_⟩
    have : (q.ren n a0).cls.map (sg n a0 b0) = q.cls := by
      conv => rhs; rw [← hq0]
      rfl
    rw [this]
    exact incI_mono _ _ _ _ (by omega) hE.1
  have := com_rel hP k2 hJ hI
  rw [hq0, hm, com_symm (c.st L R i j) p, hcom] at this
  exact this
theorem outer_grid_iff {c : Con} {L R : List Pat} (hL : (c.al L).1 = 0) : outer c.cl.length R c 0 0 L = none ↔ c.grid L R := by
  rw [outer_iff _ _ _ _ _ _ hL]
  simp only [Nat.zero_add]
  constructor
  · intro h i p hp j q hq
    have hi := h i p hp
    rw [inner_iff] at hi
    have hok : ∀ j, j ≤ R.length → ((c.fr L i).al (rens c.cl.length (addsN (L.take i)) (R.take j))).1 = 0 := by
      intro j
      induction j with
      | zero => intro _; rfl
      | succ j ih =>
        intro hj
        obtain ⟨x, hx⟩ : ∃ x, R[j]? = some x := ⟨_, List.getElem?_eq_getElem (by omega)⟩
        exact (st_snoc hx (ih (by omega)) (com_apE (hi j x hx (ih (by omega)))).2).1
    exact hi j q hq (hok j (by have := (List.getElem?_eq_some_iff.1 hq).1; omega))
  · intro h i p hp
    rw [inner_iff]
    exact fun j q hq _ => h i p hp j q hq
/-- no conflict in one way, none in the other -/
theorem outer_symm {c : Con} {L R : List Pat} (hL : (c.al L).1 = 0) (hR : (c.al R).1 = 0) : outer c.cl.length R c 0 0 L = none ↔ outer c.cl.length L c 0 0 R = none := by
  rw [outer_grid_iff hL, outer_grid_iff hR]
  exact ⟨grid_symm hL hR, grid_symm hR hL⟩
/-- the clauses from n on: a clauses and b clauses after them exchanged, with their indices in conditions -/
def exI (n a b : Nat) (x : Int) : Int := if (n : Int) + a ≤ x then x - a else if (n : Int) ≤ x then x + b else x
def exchL (n a b : Nat) (l : List Cla) : List Cla := (l.take n ++ l.drop (n + a) ++ (l.drop n).take a).map fun k => k.mapC (exI n a b)
theorem exch_rel {n a b : Nat} {B A : Con} (hl : B.cl.length = n + a + b) (hB : B.ok = true) (h : Rel (sg n a b) B A) : A.cl = exchL n a b B.cl := by
  have hm : ∀ (i : Nat) (k : Cla), B.cl[i]? = some k → k.mapC (sg n a b) = k.mapC (exI n a b) := by
    intro i k hk
    unfold Cla.mapC
    have : (k.start.map fun s => (sg n a b s.1, s.2)) = k.start.map fun s => (exI n a b s.1, s.2) := List.map_congr_left fun s hs => by
      have := claOk_cond (ok_cl hB hk) s hs
      have : sg n a b s.1 = exI n a b s.1 := by unfold sg exI; repeat' split
                                                all_goals omega
      rw [this]
    rw [this]
  apply List.ext_getElem?
  intro m
  unfold exchL
  rw [List.getElem?_map]
  by_cases h1 : m < n
  · obtain ⟨k, hk⟩ : ∃ k, B.cl[m]? = some k := ⟨_, List.getElem?_eq_getElem (by omega)⟩
    have h2 := h.at_ m k hk
    rw [show sg n a b (m : Int) = (m : Int) by unfold sg; rw [if_neg (by omega), if_neg (by omega)], hm m k hk] at h2
    rw [List.append_assoc, List.getElem?_append_left (by rw [List.length_take]; omega), List.getElem?_take_of_lt h1, hk]
    simpa using h2
  · by_cases h2 : m < n + b
    · obtain ⟨k, hk⟩ : ∃ k, B.cl[m + a]? = some k := ⟨_, List.getElem?_eq_getElem (by omega)⟩
      have h3 := h.at_ (m + a) k hk
      rw [show sg n a b ((m + a : Nat) : Int) = (m : Int) by unfold sg; repeat' split
                                                             all_goals omega, hm _ k hk] at h3
      rw [List.append_assoc, List.getElem?_append_right (by rw [List.length_take]; omega), List.getElem?_append_left (by rw [List.length_take, List.length_drop]; omega), List.getElem?_drop, List.length_take,
        show n + a + (m - min n B.cl.length) = m + a by omega, hk]
      simpa using h3
    · by_cases h4 : m < n + a + b
      · obtain ⟨k, hk⟩ : ∃ k, B.cl[m - b]? = some k := ⟨_, List.getElem?_eq_getElem (by omega)⟩
        have h3 := h.at_ (m - b) k hk
        rw [show sg n a b ((m - b : Nat) : Int) = (m : Int) by unfold sg; repeat' split
                                                               all_goals omega, hm _ k hk] at h3
        rw [List.getElem?_append_right (by rw [List.length_append, List.length_take, List.length_drop]; omega), List.length_append, List.length_take, List.length_drop, List.getElem?_take_of_lt (by omega), List.getElem?_drop,
          show n + (m - (min n B.cl.length + (B.cl.length - (n + a)))) = m - b by omega, hk]
        simpa using h3
      · rw [List.getElem?_eq_none (by rw [h.len]; omega), List.getElem?_eq_none (by simp; omega)]; rfl
theorem merged_st {c : Con} {L R : List Pat} (hL : (c.al L).1 = 0) (h : ((c.fr L L.length).al (rens c.cl.length (addsN L) R)).1 = 0) : (c.al (c.mrL L R)).1 = 0 ∧ (c.al (c.mrL L R)).2 = ((c.fr L L.length).al (rens c.cl.length (addsN L) R)).2 := by
  have e : c.mrL L R = L ++ rens c.cl.length (addsN L) R := by
    unfold Con.mrL
    have := rens_zero c.cl.length L
    unfold rens at this ⊢
    rw [this]
  have e2 : c.fr L L.length = (c.al L).2 := by unfold Con.fr; rw [List.take_length]
  rw [e, al_app c L _ hL, e2]
  rw [e2] at h
  exact ⟨h, rfl⟩
theorem allE_cases (c : Con) (l : List Pat) : c.allE l ≠ 16 := by
  have ap : ∀ (l : List Pat) (c : Con), (c.al l).1 = 0 ∨ (c.al l).1 = 1 ∨ (c.al l).1 = 3 := by
    intro l
    induction l with
    | nil => intro c; exact .inl rfl
    | cons p l ih =>
      intro c
      by_cases h0 : c.apE p = 0
      · rw [al_yes _ h0]; exact ih _
      · rw [al_no _ h0]
        unfold Con.apE
        split
        · split
          · exact .inr (.inr rfl)
          · split
            · exact .inl rfl
            · exact .inr (.inl rfl)
        · exact .inr (.inl rfl)
  have := ap l c
  unfold Con.allE
  split
  · split <;> omega
  · omega
/-- merged one way or the other -/
theorem symmetric_law {c : Con} {L R : List Pat} (hl : L.length + R.length ≤ 12) (hn : c.cl.length ≤ 20) :
    ((c.mrE L R).1 = 0 ↔ (c.mrE R L).1 = 0) ∧ ((c.mrE L R).1 = 16 ↔ (c.mrE R L).1 = 16) ∧ ((c.mrE L R).1 = 0 → (c.mrE L R).2 = (0, 0) ∧ (c.mrE R L).2 = (0, 0) ∧ c.allE (c.mrL L R) = 0 ∧ c.allE (c.mrL R L) = 0 ∧
      (c.al (c.mrL L R)).2.cl.length = c.cl.length + addsN L + addsN R ∧ (c.al (c.mrL R L)).2.cl.length = c.cl.length + addsN L + addsN R ∧ (c.al (c.mrL L R)).2.cl = exchL c.cl.length (addsN R) (addsN L) (c.al (c.mrL R L)).2.cl ∧ (c.al (c.mrL L R)).2 = (c.al (c.mrL R L)).2.wc (c.al (c.mrL L R)).2.cl) := by
  have aL : addsN L ≤ L.length := List.length_filter_le _ _
  have aR : addsN R ≤ R.length := List.length_filter_le _ _
  by_cases h1 : c.allE L = 0
  · by_cases h2 : c.allE R = 0
    · have lim1 : ¬ (60 < L.length + R.length ∨ 400 < c.cl.length + addsN L + addsN R) := by omega
      have lim2 : ¬ (60 < R.length + L.length ∨ 400 < c.cl.length + addsN R + addsN L) := by omega
      obtain ⟨o1, o2, o3, o4⟩ := allE_ok h1
      obtain ⟨p1, p2, p3, p4⟩ := allE_ok h2
      have hs := outer_symm o3 p3
      rw [mr_ok h1 h2 lim1, mr_ok h2 h1 lim2]
      cases ha : outer c.cl.length R c 0 0 L with
      | some x =>
        obtain ⟨x1, x2⟩ := x
        cases hb : outer c.cl.length L c 0 0 R with
        | some y =>
          obtain ⟨y1, y2⟩ := y
          simp
        | none => rw [ha, hb] at hs; simp at hs
      | none =>
        have hb := hs.1 ha
        rw [hb]
        refine ⟨Iff.rfl, Iff.rfl, fun _ => ?_⟩
        have hg := (outer_grid_iff o3).1 ha
        have k0 := all_ok o3 p3 hg L.length (Nat.le_refl _) R.length (Nat.le_refl _)
        obtain ⟨k1, k2⟩ := turned o3 p3 hg L.length (Nat.le_refl _) R.length (Nat.le_refl _)
        have hlen := st_len o3 k0
        simp only [List.take_length] at k0 k1 k2 hlen
        obtain ⟨m1, m2⟩ := merged_st o3 k0
        obtain ⟨m3, m4⟩ := merged_st p3 k1
        have e1 : c.st L R L.length R.length = (c.al (c.mrL L R)).2 := by rw [m2]; unfold Con.st; rw [List.take_length, List.take_length]
        have e2 : c.st R L R.length L.length = (c.al (c.mrL R L)).2 := by rw [m4]; unfold Con.st; rw [List.take_length, List.take_length]
        rw [e1] at hlen k2
        rw [e2] at k2
        have ll : ∀ A B : List Pat, (c.mrL A B).length = A.length + B.length := by intro A B; unfold Con.mrL; simp
        have q1 : c.allE (c.mrL L R) = 0 := by
          unfold Con.allE
          rw [if_pos o1, if_neg (by rw [ll]; omega)]; exact m1
        have q2 : c.allE (c.mrL R L) = 0 := by
          unfold Con.allE
          rw [if_pos o1, if_neg (by rw [ll]; omega)]; exact m3
        have hP : Prm (sg c.cl.length (addsN L) (addsN R)) (sg c.cl.length (addsN R) (addsN L)) (c.al (c.mrL L R)).2.cl.length := sg_prm _ _ _ _ (by omega)
        have k3 := k2.symm hP
        have hlen2 := k2.len
        have hx := exch_rel (by omega) (al_ok o1 _ m3) k3
        exact ⟨rfl, rfl, q1, q2, hlen, by omega, hx, k3.e⟩
    · have e1 : c.mrE L R = (c.allE R, 0, 0) := by unfold Con.mrE; rw [if_neg (by omega), if_pos h2]
      have e2 : c.mrE R L = (c.allE R, 0, 0) := by unfold Con.mrE; rw [if_pos h2]
      rw [e1, e2]
      exact ⟨Iff.rfl, Iff.rfl, fun h => absurd h h2⟩
  · have e1 : c.mrE L R = (c.allE L, 0, 0) := by unfold Con.mrE; rw [if_pos h1]
    rw [e1]
    have n1 := allE_cases c L
    have n2 := allE_cases c R
    by_cases h2 : c.allE R = 0
    · have e2 : c.mrE R L = (c.allE L, 0, 0) := by unfold Con.mrE; rw [if_neg (by omega), if_pos h1]
      rw [e2]
      exact ⟨Iff.rfl, Iff.rfl, fun h => absurd h h1⟩
    · have e2 : c.mrE R L = (c.allE R, 0, 0) := by unfold Con.mrE; rw [if_pos h2]
      rw [e2]
      exact ⟨⟨fun h => absurd h h1, fun h => absurd h h2⟩, ⟨fun h => absurd h n1, fun h => absurd h n2⟩, fun h => absurd h h1⟩
end Go.Proofs.Ytcplneglfbdooaa
/- The walk of merge.Merge. -/
namespace Go.Proofs.Ytcplneglfbdooaa
open Go.RowKit

theorem own_ty_ne2 {α β : Type} {w : World} {B B' : Nat} {T T' : TypeId} {size size' : Nat} {enc : α → List Value} {enc' : β → List Value} {v v' : Value} {xs : List α} {ys : List β} (h : Own w B T size enc v xs) (h' : Own w B' T' size' enc' v' ys) (hT : T ≠ T') : ∀ k, v.ownBlock = some k → v'.ownBlock ≠ some k := by
  intro k hk e
  rcases h'.2 with ⟨h5, _⟩ | ⟨g5, cap5, cur5, hv5, q1, q2, q3⟩
  · rw [h5] at e; cases e
  · rw [hv5] at e
    cases e
    have h'' : Own w B' T' size' enc' (.slice (some ⟨g5, 0, none⟩) ys.length cap5) ys := by rw [← hv5]; exact h'
    exact own_ty_ne h h'' hT g5 hk rfl
theorem PatO.grown {w w' : World} {p : Pat} {pm : Pm} {B : Nat} {v : Value} {xs : List Pk} (h : PatO w p pm) (hv : Own w B 49 19 eP v xs) (hg : w.grownBy w' v.ownBlock) : PatO w' p pm :=
  ⟨h.1.kept hg (by
    cases hq : (Value.slice pm.p p.cls.length pm.pc).ownBlock with
    | none => exact .inl rfl
    | some k => exact .inr fun e => own_ty_ne2 h.1 hv (by decide) k hq e.symm), h.2.kept hg (by
    cases hq : (Value.slice pm.A p.new.start.length pm.cap).ownBlock with
    | none => exact .inl rfl
    | some k => exact .inr fun e => own_ty_ne2 h.2 hv (by decide) k hq e.symm)⟩
theorem PatO.then_ {w w' : World} {p : Pat} {pm : Pm} (h : PatO w p pm) (hb : Below w.heap.size w w') : PatO w' p pm := ⟨h.1.below hb, h.2.below hb⟩
/-- what of a patch in memory does not look at memory -/
structure PatN (p : Pat) (pm : Pm) : Prop where
  n : p.cls.length ≤ 1000000
  c : p.cls.length ≤ pm.pc
  v : I64 p.new.v.1 ∧ I64 p.new.v.2
  m : p.new.start.length ≤ 1000000
  d : p.new.start.length ≤ pm.cap
theorem PatM.pn {w : World} {p : Pat} {pm : Pm} (h : PatM w p pm) : PatN p pm := ⟨h.n, h.c, h.k.v, h.k.n, h.k.c⟩
theorem PatO.m {w : World} {p : Pat} {pm : Pm} (h : PatO w p pm) (n : PatN p pm) : PatM w p pm := ⟨h.1.segA eI_len, n.n, n.c, ⟨h.2.segA eS_len, n.v, n.m, n.d⟩⟩
/-- patches that can be applied have small indices -/
theorem al_sm {c : Con} {l : List Pat} (h : c.allE l = 0) : ∀ p ∈ l, p.sm := by
  obtain ⟨h1, h2, h3, h4⟩ := allE_ok h
  intro p hp
  obtain ⟨i, hi⟩ := List.getElem?_of_mem hp
  obtain ⟨f1, _, f3, _⟩ := fr_at h3 hi
  have hd := f1.ind
  have hl : (c.fr l i).cl.length ≤ 400 := by
    have := f1.ok
    unfold Con.ok Con.lim at this
    simp only [Bool.and_eq_true, decide_eq_true_eq] at this
    exact this.1.1.2
  refine ⟨fun x hx => ?_, fun s hs => ?_⟩
  · have := incI_mem _ _ _ hd.1 x hx
    omega
  · have := (hd.2 s hs).2
    omega
/-- a new list of patches, in memory -/
structure Mrg (w : World) (B : Nat) (v : Value) (M : List Pk) : Prop where
  o : Own w B 49 19 eP v M
  t : ∀ x ∈ M, PatO w x.p x.m ∧ PatN x.p x.m
theorem Mrg.then_ {w w' : World} {B : Nat} {v : Value} {M : List Pk} (h : Mrg w B v M) (hb : Below w.heap.size w w') : Mrg w' B v M := ⟨h.o.below hb, fun x hx => ⟨(h.t x hx).1.then_ hb, (h.t x hx).2⟩⟩
theorem Mrg.app {w w' : World} {B : Nat} {v v' : Value} {M : List Pk} {y : Pk} (h : Mrg w B v M) (ho : Own w' B 49 19 eP v' (M ++ [y])) (hg : w.grownBy w' v.ownBlock) (hy : PatO w y.p y.m) (hn : PatN y.p y.m) : Mrg w' B v' (M ++ [y]) :=
  ⟨ho, fun x hx => by
    rcases List.mem_append.1 hx with hx | hx
    · exact ⟨(h.t x hx).1.grown h.o hg, (h.t x hx).2⟩
    · obtain rfl := List.mem_singleton.1 hx
      exact ⟨hy.grown h.o hg, hn⟩⟩
theorem zero_pat : (Try.prog.info? 49).map (fun i => (i.zero, i.size, i.bytes)) = some (some (.agg #[.int .i64 0, .slice none 0 0, .int .i64 0, .int .i64 0, .int .i64 0, .int .i64 0, .slice none 0 0, .int .i64 0, .int .i64 0, .bool false, .bool false, .int .i64 0, .int .i64 0, .int .i64 0, .int .i64 0, .int .i64 0, .int .i64 0, .bool false, .int .i64 0]), 19, 176) := by kernel_rfl
end Go.Proofs.Ytcplneglfbdooaa
