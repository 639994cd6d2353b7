/- Contracts of functions and plain laws, joined: Pl1, Ps1, To1, Ts1. -/
import Derived.Test.YtplommmegkdhdaaGreatDoorMb15
import Derived.Test.YtplommmegkdhdaaGreatDoorMb1
import Derived.Test.YtplommmegkdhdaaGreatDoorMb9
import Derived.Test.YtplommmegkdhdaaGreatDoorMb10
import Derived.Sort.OwnSortedInts
/- Plain: the laws on patches: again, valid, end as waives, undoes, local. -/
namespace Go.Proofs.YtplommmegkdhdaaGreatDoor

theorem again_law {c : Con} {p : Pat} (hk : p.kind ≠ 1) (h : c.apE p = 0) : (c.ap p).apE p = 0 ∧ (c.ap p).ap p = c.ap p := by
  rw [apE_iff] at h ⊢
  have he : p.do_ (p.do_ c.cl) = p.do_ c.cl := by
    apply List.ext_getElem?
    intro i
    rw [do_get (fun x hx => (h.cls x hx).1) hk, do_get (fun x hx => (h.cls x hx).1) hk]
    cases c.cl[i]? with
    | none => rfl
    | some k =>
      simp only [Option.map_some]
      by_cases hi : (i : Int) ∈ p.cls
      · simp only [if_pos hi, one_one]
      · simp only [if_neg hi]
  have hl : (p.do_ c.cl).length = c.cl.length := by rw [do_len, if_neg hk]
  have hap : (c.ap p).ap p = c.ap p := by
    show c.wc (p.do_ (p.do_ c.cl)) = c.wc (p.do_ c.cl)
    rw [he]
  refine ⟨⟨h.re, h.kn, ?_, fun x => hk x.1, by rw [hap]; exact h.re⟩, hap⟩
  show p.fits (p.do_ c.cl).length = true
  rw [hl]; exact h.fi

def Cla.nul : Cla := { kind := 0, role := 0, act := 0, need := 0, start := [], aft := 0, grace := 0, bus := false, fin := false, pause := 0, resume := 0, v := (0, 0), unit := 0, to_ := 0, waived := false }
def Pat.addq (k : Cla) : Pat := ⟨1, [], k, 0⟩
def Pat.rep (i : Int) (k : Cla) : Pat := ⟨2, [i], k, 0⟩
def Pat.wai (i : Int) : Pat := ⟨3, [i], Cla.nul, 0⟩
def Pat.ends (l : List Int) : Pat := ⟨4, l, Cla.nul, 0⟩
def Pat.spn (i d : Int) : Pat := ⟨5, [i], Cla.nul, d⟩
theorem rep_k (i : Int) (k : Cla) : (Pat.rep i k).kind ≠ 1 := by show (2 : Int) ≠ 1; decide
theorem wai_k (i : Int) : (Pat.wai i).kind ≠ 1 := by show (3 : Int) ≠ 1; decide
theorem ends_k (l : List Int) : (Pat.ends l).kind ≠ 1 := by show (4 : Int) ≠ 1; decide
theorem ends_k2 (l : List Int) : (Pat.ends l).kind ≠ 2 := by show (4 : Int) ≠ 2; decide
theorem ends_k5 (l : List Int) : (Pat.ends l).kind ≠ 5 := by show (4 : Int) ≠ 5; decide
theorem spn_k (i d : Int) : (Pat.spn i d).kind ≠ 1 := by show (5 : Int) ≠ 1; decide
theorem spn_k2 (i d : Int) : (Pat.spn i d).kind ≠ 2 := by show (5 : Int) ≠ 2; decide

theorem claOk_new {c : Con} {l : List Cla} {k k2 : Cla} {i : Nat} (h : (c.wc l).claOk i k = true) : (c.wc (l ++ [k2])).claOk l.length k = true := by
  have e : ∀ s, condOk l.length i s = true → condOk (l ++ [k2]).length l.length s = true := by
    intro s hs
    rw [List.length_append, List.length_singleton]
    unfold condOk isI at hs ⊢
    simp only [Bool.and_eq_true, decide_eq_true_eq, bne_iff_ne, ne_eq] at hs ⊢
    exact ⟨⟨⟨⟨hs.1.1.1.1, by omega⟩, by omega⟩, hs.1.2⟩, hs.2⟩
  unfold Con.claOk at h ⊢
  simp only [Bool.and_eq_true] at h ⊢
  obtain ⟨⟨⟨⟨⟨⟨⟨a1, a2⟩, a3⟩, a4⟩, a5⟩, a6⟩, a7⟩, a8⟩ := h
  refine ⟨⟨⟨⟨⟨⟨⟨a1, a2⟩, a3⟩, a4⟩, a5⟩, ?_⟩, a7⟩, a8⟩
  rw [List.all_eq_true] at a6 ⊢
  exact fun s hs => e s (a6 s hs)
theorem valid_law {c : Con} {k : Cla} (hc : c.ok = true) (h0 : c.cl[0]? = some k) (hn : c.cl.length ≤ 399) : c.apE (.addq k) = 0 ∧ c.ap (.addq k) = c.wc (c.cl ++ [k]) := by
  have hd : (Pat.addq k).do_ c.cl = c.cl ++ [k] := do_add rfl _
  have hap : c.ap (.addq k) = c.wc (c.cl ++ [k]) := by unfold Con.ap; rw [hd]
  refine ⟨apE_iff.2 ⟨hc, rfl, rfl, fun h => by omega, ?_⟩, hap⟩
  rw [hap]
  have hc' : (c.wc c.cl).ok = true := hc
  rw [ok_wc] at hc' ⊢
  refine ⟨⟨hc'.1.1, by rw [List.length_append, List.length_singleton]; omega⟩, hc'.2.1, fun i x hx => ?_⟩
  by_cases hi : i < c.cl.length
  · rw [List.getElem?_append_left hi] at hx
    exact claOk_mono (by simp) (hc'.2.2 i x hx)
  · have hl := (List.getElem?_eq_some_iff.1 hx).1
    rw [List.length_append, List.length_singleton] at hl
    obtain rfl : i = c.cl.length := by omega
    rw [List.getElem?_append_right (Nat.le_refl _), Nat.sub_self] at hx
    have hx' : k = x := by simpa using hx
    subst hx'
    exact claOk_new (hc'.2.2 0 k h0)

/-- the clauses at these places waived -/
def mkW (S : List Int) (l : List Cla) : List Cla := (Pat.ends S).do_ l
theorem mkW_fold (S : List Int) (l : List Cla) : mkW S l = S.foldl (fun l i => l.modify i.toNat (Pat.ends []).one) l := rfl
theorem mkW_len (S : List Int) (l : List Cla) : (mkW S l).length = l.length := by
  unfold mkW; rw [do_len, if_neg (ends_k _)]
theorem mkW_get {S : List Int} (hS : ∀ x ∈ S, 0 ≤ x) (l : List Cla) (i : Nat) : (mkW S l)[i]? = (l[i]?).map fun k => if (i : Int) ∈ S then (Pat.ends []).one k else k :=
  do_get (p := Pat.ends S) hS (ends_k _) l i
theorem mkW_nil (l : List Cla) : mkW [] l = l := rfl
theorem mkW_snoc (S : List Int) (i : Int) (l : List Cla) : (Pat.wai i).do_ (mkW S l) = mkW (S ++ [i]) l := by
  rw [mkW_fold, mkW_fold, List.foldl_append]; rfl
theorem mkW_rev {S : List Int} (hS : ∀ x ∈ S, 0 ≤ x) (l : List Cla) : mkW S.reverse l = mkW S l := by
  apply List.ext_getElem?
  intro i
  rw [mkW_get (fun x hx => hS x (List.mem_reverse.1 hx)), mkW_get hS]
  simp only [List.mem_reverse]
theorem mkW_ok {c : Con} {S : List Int} (hc : c.ok = true) (hS : ∀ x ∈ S, 0 ≤ x) : (c.wc (mkW S c.cl)).ok = true := by
  have hc' : (c.wc c.cl).ok = true := hc
  rw [ok_wc] at hc' ⊢
  refine ⟨⟨hc'.1.1, by rw [mkW_len]; exact hc'.1.2⟩, hc'.2.1, fun i x hx => ?_⟩
  rw [mkW_get hS] at hx
  cases hk : c.cl[i]? with
  | none => rw [hk] at hx; cases hx
  | some k =>
    rw [hk] at hx
    simp only [Option.map_some, Option.some.injEq] at hx
    have h1 := claOk_mono (m := mkW S c.cl) (by rw [mkW_len]; exact Nat.le_refl _) (hc'.2.2 i k hk)
    by_cases hi : (i : Int) ∈ S
    · rw [if_pos hi] at hx
      subst hx
      exact claOk_one (p := Pat.ends []) (ends_k2 _) (fun h => absurd h (ends_k5 _)) h1
    · rw [if_neg hi] at hx
      subst hx
      exact h1
theorem zero_nul : zeroC Cla.nul = true := rfl
theorem ends_law {c : Con} {l : List Int} (hl : incI c.cl.length (-1) l = true) (hn : l.length ≤ 400) :
    (c.apE (.ends l) = 0 → c.ok = true) ∧ (c.ok = true → l ≠ [] → c.apE (.ends l) = 0) ∧ c.ap (.ends l) = c.wc (mkW l c.cl) ∧ (c.apE (.ends l) ≠ 0 → c.apE (.ends l) = 1) := by
  have h0 : ∀ x ∈ l, 0 ≤ x := fun x hx => by have := incI_mem _ _ _ hl x hx; omega
  refine ⟨fun h => (apE_iff.1 h).ok, fun hc hne => apE_iff.2 ⟨hc, rfl, ?_, fun h => absurd h.1 (ends_k _), mkW_ok hc h0⟩, rfl, fun h => ?_⟩
  · have h1 : 1 ≤ l.length := by cases l with
      | nil => exact absurd rfl hne
      | cons a b => simp
    have e1 : fewest (Pat.ends l).kind = 1 := rfl
    have e2 : mostN (Pat.ends l).kind = 400 := rfl
    unfold Pat.fits
    rw [e1, e2]
    show (decide (1 ≤ l.length) && decide (l.length ≤ 400) && incI c.cl.length (-1) l && true && true) = true
    rw [hl]
    simp [h1, hn]
  · have e : c.apE (.ends l) = if c.ok && known 4 && (Pat.ends l).fits c.cl.length then (if (c.wc ((Pat.ends l).do_ c.cl)).ok then 0 else 1) else 1 := rfl
    rw [e] at h ⊢
    split
    · rename_i h1
      rw [if_pos h1] at h
      split
      · rename_i h2; rw [if_pos h2] at h; exact absurd rfl h
      · rfl
    · rfl
theorem wai_law {c : Con} {S : List Int} {i : Int} (hc : c.ok = true) (hS : ∀ x ∈ S, 0 ≤ x) (h0 : 0 ≤ i) (h1 : i < c.cl.length) :
    (c.wc (mkW S c.cl)).apE (.wai i) = 0 ∧ (c.wc (mkW S c.cl)).ap (.wai i) = c.wc (mkW (S ++ [i]) c.cl) := by
  have hap : (c.wc (mkW S c.cl)).ap (.wai i) = c.wc (mkW (S ++ [i]) c.cl) := by
    show c.wc ((Pat.wai i).do_ (mkW S c.cl)) = _
    rw [mkW_snoc]
  refine ⟨apE_iff.2 ⟨mkW_ok hc hS, rfl, ?_, fun h => absurd h.1 (wai_k _), ?_⟩, hap⟩
  · show (Pat.wai i).fits (mkW S c.cl).length = true
    rw [mkW_len]
    have e1 : fewest (Pat.wai i).kind = 1 := rfl
    have e2 : mostN (Pat.wai i).kind = 1 := rfl
    unfold Pat.fits
    rw [e1, e2]
    show (decide (1 ≤ 1) && decide (1 ≤ 1) && (decide (-1 < i) && decide (i < c.cl.length) && true) && true && true) = true
    rw [decide_eq_true (show (-1 : Int) < i by omega), decide_eq_true h1]
    rfl
  · rw [hap]
    exact mkW_ok hc fun x hx => by
      rcases List.mem_append.1 hx with hx | hx
      · exact hS x hx
      · rw [List.mem_singleton] at hx; omega

theorem fit_back {c : Con} {p q : Pat} (hp : Fit c p) (hq : q.kind ≠ 1) (kn : known q.kind = true) (hp1 : p.kind ≠ 1) (fi : q.fits c.cl.length = true) (e : q.do_ (p.do_ c.cl) = c.cl) : (c.ap p).apE q = 0 ∧ (c.ap p).ap q = c := by
  have hap : (c.ap p).ap q = c := by
    show c.wc (q.do_ (p.do_ c.cl)) = c
    rw [e]; rfl
  refine ⟨apE_iff.2 ⟨hp.re, kn, ?_, fun h => hq h.1, by rw [hap]; exact hp.ok⟩, hap⟩
  show q.fits (p.do_ c.cl).length = true
  rw [do_len, if_neg hp1]; exact fi
theorem fits_rep {n : Nat} {i : Int} (k : Cla) (h0 : 0 ≤ i) (h1 : i < n) : (Pat.rep i k).fits n = true := by
  show (decide (1 ≤ 1) && decide (1 ≤ 1) && (decide (-1 < i) && decide (i < n) && true) && true && true) = true
  rw [decide_eq_true (show (-1 : Int) < i by omega), decide_eq_true h1]
  rfl
theorem fits_spn {n : Nat} {i d : Int} (h0 : 0 ≤ i) (h1 : i < n) (h2 : 1 ≤ d) (h3 : d ≤ 400) : (Pat.spn i d).fits n = true := by
  show (decide (1 ≤ 1) && decide (1 ≤ 400) && (decide (-1 < i) && decide (i < n) && true) && true && (decide (1 ≤ d) && decide (d ≤ 400))) = true
  rw [decide_eq_true (show (-1 : Int) < i by omega), decide_eq_true h1, decide_eq_true h2, decide_eq_true h3]
  rfl
theorem one_back (q : Pat) (i : Nat) (j : Int) (hj : j = (i : Int)) (c : Con) (p : Pat) (k : Cla) (hk : c.cl[i]? = some k) (hp : p.cls = [j]) (hq : q.cls = [j]) (kp : p.kind ≠ 1) (kq : q.kind ≠ 1) (h : q.one (p.one k) = k) : q.do_ (p.do_ c.cl) = c.cl := by
  have h0 : (0 : Int) ≤ j := by omega
  apply List.ext_getElem?
  intro x
  rw [do_get (by rw [hq]; simpa using h0) kq, do_get (by rw [hp]; simpa using h0) kp, hp, hq]
  simp only [List.mem_singleton]
  by_cases hx : x = i
  · subst hx
    rw [hk]
    simp only [Option.map_some, hj, if_true, h]
  · have : ¬ (x : Int) = j := by omega
    cases c.cl[x]? with
    | none => rfl
    | some y => simp only [Option.map_some, if_neg this]
theorem undo_rep {c : Con} {i : Nat} {x k : Cla} (hk : c.cl[i]? = some k) (h : c.apE (.rep i x) = 0) : (c.ap (.rep i x)).apE (.rep i k) = 0 ∧ (c.ap (.rep i x)).ap (.rep i k) = c := by
  have hl := (List.getElem?_eq_some_iff.1 hk).1
  exact fit_back (apE_iff.1 h) (rep_k _ _) rfl (rep_k _ _) (fits_rep k (by omega) (by omega)) (one_back _ i i rfl c _ k hk rfl rfl (rep_k _ _) (rep_k _ _) rfl)
theorem undo_spn {c : Con} {i : Nat} {d : Int} {k : Cla} (hk : c.cl[i]? = some k) (h : c.apE (.spn i d) = 0) :
    (c.ap (.spn i d)).apE (.spn i k.aft) = 0 ∧ (c.ap (.spn i d)).ap (.spn i k.aft) = c ∧ (c.ap (.spn i d)).cl[i]? = some { k with aft := d } := by
  have hl := (List.getElem?_eq_some_iff.1 hk).1
  have hf := apE_iff.1 h
  have hko := ok_cl hf.ok hk
  unfold Con.claOk at hko
  simp only [Bool.and_eq_true, decide_eq_true_eq] at hko
  obtain ⟨⟨⟨⟨⟨⟨⟨a1, a2⟩, a3⟩, a4⟩, a5⟩, a6⟩, a7⟩, a8⟩ := hko
  have hb := fit_back (q := .spn i k.aft) hf (spn_k _ _) rfl (spn_k _ _) (fits_spn (by omega) (by omega) a2 a3) (one_back _ i i rfl c _ k hk rfl rfl (spn_k _ _) (spn_k _ _) rfl)
  refine ⟨hb.1, hb.2, ?_⟩
  show ((Pat.spn i d).do_ c.cl)[i]? = _
  rw [do_get (by unfold Pat.spn; simp) (spn_k _ _), hk]
  show some (if (i : Int) ∈ [(i : Int)] then _ else _) = _
  rw [if_pos (List.mem_singleton.2 rfl)]
  rfl
theorem spn_no {c : Con} {i : Nat} {d : Int} {x : Cla} (hi : i < c.cl.length) (h : c.apE (.spn i d) ≠ 0) : c.apE (.rep i x) ≠ 0 ∨ d < 1 ∨ 400 < d := by
  by_cases hd : 1 ≤ d ∧ d ≤ 400
  · left
    intro hr
    have hf := apE_iff.1 hr
    refine h (apE_iff.2 ⟨hf.ok, rfl, fits_spn (by omega) (by omega) hd.1 hd.2, fun e => absurd e.1 (spn_k _ _), ?_⟩)
    have hc' : (c.wc c.cl).ok = true := hf.ok
    have lp : ((Pat.spn i d).do_ c.cl).length = c.cl.length := by rw [do_len, if_neg (spn_k _ _)]
    show (c.wc ((Pat.spn i d).do_ c.cl)).ok = true
    rw [ok_wc] at hc' ⊢
    refine ⟨⟨hc'.1.1, by rw [lp]; exact hc'.1.2⟩, hc'.2.1, fun j y hy => ?_⟩
    rw [do_get (by unfold Pat.spn; simp) (spn_k _ _)] at hy
    cases hk : c.cl[j]? with
    | none => rw [hk] at hy; cases hy
    | some k =>
      rw [hk] at hy
      simp only [Option.map_some, Option.some.injEq] at hy
      have h1 := claOk_mono (m := (Pat.spn i d).do_ c.cl) (by rw [lp]; exact Nat.le_refl _) (hc'.2.2 j k hk)
      by_cases hm : (j : Int) ∈ (Pat.spn i d).cls
      · rw [if_pos hm] at hy
        subst hy
        exact claOk_one (spn_k2 _ _) (fun _ => hd) h1
      · rw [if_neg hm] at hy
        subst hy
        exact h1
  · omega

/-- where the touched clauses lie -/
theorem tch_mem {c : Con} {p : Pat} (h : c.apE p = 0) : ∀ x ∈ c.tch p, 0 ≤ x ∧ x < (c.cl.length : Int) + (if p.kind = 1 then 1 else 0) := by
  have hf := apE_iff.1 h
  intro x hx
  unfold Con.tch at hx
  have hz : (0 : Int) ≤ if p.kind = 1 then 1 else 0 := by split <;> decide
  rcases List.mem_append.1 hx with hx | hx
  · rcases List.mem_append.1 hx with hx | hx
    · have := hf.cls x hx
      omega
    · by_cases hk : p.kind = 1
      · rw [if_pos hk, List.mem_singleton] at hx
        rw [if_pos hk]
        omega
      · rw [if_neg hk] at hx
        cases hx
  · obtain ⟨s, hs, rfl⟩ := List.mem_map.1 hx
    have := hf.ind.2 s hs
    omega
theorem local_same {c : Con} {p : Pat} (h : c.apE p = 0) {i : Nat} (hi : i < c.cl.length) (hn : (i : Int) ∉ c.tch p) : (c.ap p).cl[i]? = c.cl[i]? := by
  have hf := apE_iff.1 h
  show (p.do_ c.cl)[i]? = _
  by_cases hk : p.kind = 1
  · rw [do_add hk, List.getElem?_append_left hi]
  · rw [do_get (fun x hx => (hf.cls x hx).1) hk]
    have : (i : Int) ∉ p.cls := fun hm => hn (by unfold Con.tch; simp [hm])
    simp only [if_neg this]
    cases c.cl[i]? <;> rfl
/-- how many of an increasing list come before a place -/
structure Bef (L : List Int) (i : Nat) (a : Nat) : Prop where
  le : a ≤ L.length
  lo : ∀ x ∈ L.take a, x < i
  hi : ∀ x ∈ L.drop a, (i : Int) ≤ x
theorem Bef.zero {L : List Int} (h : ∀ x ∈ L, 0 ≤ x) : Bef L 0 0 := ⟨Nat.zero_le _, fun x hx => by simp at hx, fun x hx => by have := h x (by simpa using hx); omega⟩
theorem Bef.hit {L : List Int} (hs : L.Pairwise (· < ·)) {i a : Nat} (h : Bef L i a) (ha : L[a]? = some (i : Int)) : Bef L (i + 1) (a + 1) := by
  have hl := (List.getElem?_eq_some_iff.1 ha).1
  refine ⟨hl, fun x hx => ?_, fun x hx => ?_⟩
  · rw [List.take_add_one, ha] at hx
    rcases List.mem_append.1 hx with hx | hx
    · have := h.lo x hx; omega
    · simp at hx; omega
  · obtain ⟨j, hj, rfl⟩ := List.mem_drop_iff_getElem.1 hx
    have := List.pairwise_iff_getElem.1 hs a (a + 1 + j) hl (by omega) (by omega)
    have e := (List.getElem?_eq_some_iff.1 ha).2
    omega
theorem Bef.miss {L : List Int} (hs : L.Pairwise (· < ·)) {i a : Nat} (h : Bef L i a) (ha : L[a]? ≠ some (i : Int)) : Bef L (i + 1) a ∧ (i : Int) ∉ L := by
  have hd : ∀ x ∈ L.drop a, (i : Int) < x := by
    intro x hx
    obtain ⟨j, hj, rfl⟩ := List.mem_drop_iff_getElem.1 hx
    have h0 : a < L.length := by omega
    have hx0 := h.hi L[a] (List.mem_drop_iff_getElem.2 ⟨0, by omega, by simp⟩)
    have hne : L[a] ≠ (i : Int) := fun e => ha (by rw [List.getElem?_eq_getElem h0, e])
    by_cases hj0 : j = 0
    · subst hj0
      have : L[a + 0] = L[a] := by simp
      omega
    · have := List.pairwise_iff_getElem.1 hs a (a + j) h0 (by omega) (by omega)
      omega
  refine ⟨⟨h.le, fun x hx => by have := h.lo x hx; omega, fun x hx => by have := hd x hx; omega⟩, fun hm => ?_⟩
  rw [← List.take_append_drop a L] at hm
  rcases List.mem_append.1 hm with hm | hm
  · have := h.lo _ hm; omega
  · have := hd _ hm; omega
theorem Bef.full {L : List Int} (hs : L.Pairwise (· < ·)) {n a m : Nat} (h : Bef L n a) (hm : m ≤ 1) (hu : ∀ x ∈ L, x < (n : Int) + m) (hn : m = 1 → (n : Int) ∈ L) : a + m = L.length := by
  have hal := h.le
  by_cases h0 : m = 0
  · subst h0
    by_cases he : a = L.length
    · omega
    · have hl : a < L.length := by omega
      have h1 := h.hi L[a] (List.mem_drop_iff_getElem.2 ⟨0, by omega, by simp⟩)
      have h2 := hu L[a] (List.getElem_mem hl)
      omega
  · obtain rfl : m = 1 := by omega
    have hin := hn rfl
    rw [← List.take_append_drop a L] at hin
    rcases List.mem_append.1 hin with hin | hin
    · have := h.lo _ hin; omega
    · obtain ⟨j, hj, ej⟩ := List.mem_drop_iff_getElem.1 hin
      by_cases he : a + 1 = L.length
      · exact he
      · have hl : a + 1 < L.length := by omega
        have h1 := h.hi L[a] (List.mem_drop_iff_getElem.2 ⟨0, by omega, by simp⟩)
        have h2 := List.pairwise_iff_getElem.1 hs a (a + 1) (by omega) hl (by omega)
        have h3 := hu L[a + 1] (List.getElem_mem hl)
        omega
end Go.Proofs.YtplommmegkdhdaaGreatDoor
/- The walk of the law's sample. -/
namespace Go.Proofs.YtplommmegkdhdaaGreatDoor
open Go.RowKit

def Cla.duty : Cla := { kind := 1, role := 0, act := 0, need := 1, start := [], aft := 2, grace := 0, bus := false, fin := false, pause := -1, resume := -1, v := (0, 1), unit := -1, to_ := -1, waived := false }
def Con.sam : Con := { par := 1, hold := [0], un := [], ac := [{ kind := 1, role := 0, give := 0, to_ := -1, unit := -1, lot := (0, 1) }], cl := [Cla.duty, Cla.duty, Cla.duty], days := 9, off := [] }
set_option maxRecDepth 100000 in
set_option maxHeartbeats 3200000 in
theorem sample_any (w : World) : Calls Tryz.prog 19 #[] w fun e w' => (∃ m, e = .returned (.agg (coA Con.sam m)) ∧ Cont w' Con.sam m ∧ Off (w.heap.size ≤ ·) Con.sam m) ∧ Below w.heap.size w w' := by
  go_enter Tryz.func19, Tryz.ntmps19
  go_upto_region 2 with (fail)
  refine name_wp ?_
  intro X hX
  have gR : Blk X w.heap.size 27 coZ := by rw [hX]; exact (blk_at (by simp)).alloc _
  have gN : Blk X (w.heap.size + 1) 30 #[.int .i64 0, .int .i64 1] := by rw [hX]; exact blk_at (by simp)
  have HB : Below w.heap.size w X := by rw [hX]; (repeat (first | with_reducible assumption | with_reducible exact Below.refl _ _ | with_reducible refine below_drewN ?_ _ | with_reducible refine Below.drew ?_ | with_reducible refine below_alloc ?_ _ | with_reducible refine Below.setCell ?_ (by first | omega | (simp; done) | (simp; omega)) _ | with_reducible refine below_then ?_ (by with_reducible assumption) | (refine below_then (a := World.drew _) ?_ (by with_reducible assumption))))
  have sX : X.heap.size = w.heap.size + 2 := by rw [hX]; simp
  clear hX
  obtain ⟨bR, eR⟩ : ∃ b, w.heap.size = b := ⟨_, rfl⟩
  obtain ⟨bN, eN⟩ : ∃ b, w.heap.size + 1 = b := ⟨_, rfl⟩
  have lR : w.heap.size ≤ bR := by omega
  have sX' : X.heap.size = bR + 2 := by omega
  have sN : bN = bR + 1 := by omega
  rw [eN] at gN ⊢
  rw [eR] at gR ⊢
  have HB := Lib.hid HB
  have SX := Lib.hid sX'
  have SN := Lib.hid sN
  clear eR eN sX sX' sN
  go_upto_region 3 with ((refine wpList_row_w (by rfl) 30 _ rfl bN rfl 30 _ gN ⟨_, Tryz.underlying30⟩ (by kernel_rfl) ?_; simp only [Act.put, List.setIfInBounds_toArray, List.set_cons_succ, List.set_cons_zero]))
  refine name_wp ?_
  intro X2 hX
  have gR2 : Blk X2 bR 27 coZ := by rw [hX]; exact gR.alloc _
  have gN2 : Blk X2 bN 30 #[.int .i64 0, .int .i64 1] := by rw [hX]; exact gN.alloc _
  obtain ⟨bA, eA⟩ : ∃ b, X.heap.size = b := ⟨_, rfl⟩
  have gA : Blk X2 bA 74 #[.int .i64 1, .int .i64 0, .int .i64 0, .int .i64 (-1), .int .i64 (-1), .int .i64 0, .int .i64 1] := by rw [hX, ← eA]; exact Blk.new _ _ _
  have HB2 : Hid (Below w.heap.size w X2) := by rw [hX]; exact below_then HB.out (wa1 _ _)
  have SX2 : Hid (X2.heap.size = bA + 1) := by unfold Hid; rw [hX, ← eA]; simp
  have SA : Hid (bA = bR + 2) := by unfold Hid; rw [← eA]; exact SX.out
  rw [eA]
  clear hX gR gN HB SX eA
  go_upto_region 4 with ((refine wpList_row_w (by rfl) 30 _ rfl bN rfl 30 _ gN2 ⟨_, Tryz.underlying30⟩ (by kernel_rfl) ?_; simp only [Act.put, List.setIfInBounds_toArray, List.set_cons_succ, List.set_cons_zero]))
  refine name_wp ?_
  intro X3 hX
  obtain ⟨bD, eD⟩ : ∃ b, X2.heap.size = b := ⟨_, rfl⟩
  have gR3 : Blk X3 bR 27 coZ := by rw [hX]; exact gR2.alloc _
  have gA3 : Blk X3 bA 74 #[.int .i64 1, .int .i64 0, .int .i64 0, .int .i64 (-1), .int .i64 (-1), .int .i64 0, .int .i64 1] := by rw [hX]; exact gA.alloc _
  have gD : Blk X3 bD 32 #[.int .i64 1, .int .i64 0, .int .i64 0, .int .i64 1, .slice none 0 0, .int .i64 2, .int .i64 0, .bool false, .bool false, .int .i64 (-1), .int .i64 (-1), .int .i64 0, .int .i64 1, .int .i64 (-1), .int .i64 (-1), .bool false] := by rw [hX, ← eD]; exact Blk.new _ _ _
  have HB3 : Hid (Below w.heap.size w X3) := by rw [hX]; exact below_then HB2.out (wa1 _ _)
  have lR3 := gR3.lt
  have lw3 := HB3.out.size
  rw [eD]
  clear hX gR2 gN2 gA HB2 SX2 SA eD SN
  go_wp2_with (first | (refine wpList_row_w (by rfl) 74 _ rfl bA rfl 74 _ (gA3.alloc _) ⟨_, Tryz.underlying74⟩ (by kernel_rfl) ?_; simp only [Act.put, List.setIfInBounds_toArray, List.set_cons_succ, List.set_cons_zero]) | (refine wpList_row_w (by rfl) 32 _ rfl bD rfl 32 _ ((gD.alloc _).alloc _) ⟨_, Tryz.underlying32⟩ (by kernel_rfl) ?_; simp only [Act.put, List.setIfInBounds_toArray, List.set_cons_succ, List.set_cons_zero]) | (refine wpList_store_all rfl 27 _ _ rfl bR 27 [] coZ.toList [] (coA Con.sam ⟨some ⟨X3.heap.size, 0, none⟩, 1, none, 0, some ⟨X3.heap.size + 1, 0, none⟩, 1, some ⟨_, 0, none⟩, 3, none, 0, [⟨Cla.duty, none, 0⟩, ⟨Cla.duty, none, 0⟩, ⟨Cla.duty, none, 0⟩]⟩).toList rfl rfl ?gz rfl (by kernel_rfl) (by simp [Value.oneCell']) ?_; (case gz => exact ((gR3.alloc _).alloc _).alloc _); intro w2 g2 U2))
  have gh := ((((Blk.new X3 _ _).alloc _).alloc _).upd U2 (by omega))
  have ga := (((blk_at (w := X3.alloc _) (by simp)).alloc _).upd U2 (show X3.heap.size + 1 ≠ bR by omega))
  have gk := ((blk_at (w := (X3.alloc _).alloc _) (by simp)).upd U2 (show X3.heap.size + 1 + 1 ≠ bR by omega))
  have hh : Seg w2 w2.heap.size 1 eI (some ⟨X3.heap.size, 0, none⟩) [0] := seg_blk (xs := [0]) eI_len gh
  have ha : Seg w2 w2.heap.size 7 eA (some ⟨X3.heap.size + 1, 0, none⟩) Con.sam.ac := seg_blk (xs := Con.sam.ac) eA_len ga
  have hk : Seg w2 w2.heap.size 16 eK (some ⟨X3.heap.size + 1 + 1, 0, none⟩) [⟨Cla.duty, none, 0⟩, ⟨Cla.duty, none, 0⟩, ⟨Cla.duty, none, 0⟩] := seg_blk (xs := [⟨Cla.duty, none, 0⟩, ⟨Cla.duty, none, 0⟩, ⟨Cla.duty, none, 0⟩]) eK_len gk
  refine bodyPost_ret (ret_row rfl rfl g2 ⟨_, Tryz.underlying27⟩ (by kernel_rfl)) rfl ?_
  have hall : ∀ x ∈ [(⟨Cla.duty, none, 0⟩ : Km), ⟨Cla.duty, none, 0⟩, ⟨Cla.duty, none, 0⟩], x = ⟨Cla.duty, none, 0⟩ := by intro x hx; simpa using hx
  refine ⟨⟨⟨some ⟨X3.heap.size, 0, none⟩, 1, none, 0, some ⟨X3.heap.size + 1, 0, none⟩, 1, some ⟨X3.heap.size + 1 + 1, 0, none⟩, 3, none, 0, [⟨Cla.duty, none, 0⟩, ⟨Cla.duty, none, 0⟩, ⟨Cla.duty, none, 0⟩]⟩, rfl, ⟨hh, Seg.nil _ _ _ _ _, ha, hk, Seg.nil _ _ _ _ _, rfl, ?_, ?_, ?_, by decide, by decide, by decide, by decide, by decide, Nat.le_refl _, Nat.le_refl _, Nat.le_refl _, Nat.le_refl _, Nat.le_refl _⟩, ⟨?_, ?_, ?_, ?_, ?_, ?_⟩⟩, ?_⟩
  · intro x hx
    rw [hall x hx]
    exact ⟨Seg.nil _ _ _ _ _, by decide, by decide, by decide⟩
  · intro x hx
    cases hx
  · decide
  · intro _ a e
    cases e
    exact lw3
  · intro h0
    exact absurd h0 (Nat.lt_irrefl 0)
  · intro _ a e
    cases e
    show w.heap.size ≤ X3.heap.size + 1
    omega
  · intro _ a e
    cases e
    show w.heap.size ≤ X3.heap.size + 1 + 1
    omega
  · intro h0
    exact absurd h0 (Nat.lt_irrefl 0)
  · intro x hx h0
    rw [hall x hx] at h0
    exact absurd h0 (Nat.lt_irrefl 0)
  · exact (((HB3.out.alloc lw3 _).alloc (by simp; omega) _).alloc (by simp; omega) _).trans (U2.b _ lR)
end Go.Proofs.YtplommmegkdhdaaGreatDoor
/- slices.Sort and slices.Compact on a list of numbers of the call's own: the list sorted in place; what is in a compacted list. -/
namespace Go.Proofs.YtplommmegkdhdaaGreatDoor
open Go.RowKit Go.Sort Go.Lib

theorem flat_eI (zs : List Int) : zs.flatMap eI = zs.map (Value.int .i64) := by
  induction zs with
  | nil => rfl
  | cons z zs ih => rw [List.flatMap_cons, ih]; rfl
theorem sort_own {B cap n : Nat} {A : Option Addr} {w : World} {zs : List Int} (hO : Own w B 3 1 eI (.slice A n cap) zs) (hl : zs.length = n) (hn : n ≤ 1000000) (hB : B ≤ w.heap.size) :
    Calls Tryz.prog 28 #[.slice A n cap] w fun e w' => e = .returned (.tuple #[]) ∧ Own w' B 3 1 eI (.slice A n cap) (zs.mergeSort fun x y => decide (x ≤ y)) ∧ Below B w w' := by
  subst hl
  rcases hO.2 with ⟨hv, h0⟩ | ⟨g, cap', cur, hv, hg, hh, h1, h2, h3, h4⟩
  · rw [hv]
    have hz : zs = [] := List.eq_nil_of_length_eq_zero h0
    refine (Tryz.slices_Sort_int_none none 0 w).mono ?_
    rintro e w' ⟨rfl, rfl⟩
    subst hz
    exact ⟨rfl, by simpa using Own.nil _ _ _ _ _, Below.refl _ _⟩
  · injection hv with hA _ hc
    subst hA
    subst hc
    have ht : cur.toList.take zs.length = zs.map (Value.int .i64) := by rw [← flat_eI, ← h4, Nat.mul_one]
    refine (Tryz.slices_Sort_int g 0 cap zs w (holds_of_blockI hh ht) (Array.getElem?_eq_some_iff.1 hh).1 (by omega)).mono ?_
    rintro e w' ⟨rfl, k, os, rfl⟩
    refine ⟨rfl, ?_, (Below.refl B w).grown (grownBy_sortedI _) hB fun q hq => by injection hq with hq; omega⟩
    have := ownsRow_sortedI (w := w) (n := k) (os := os) (ss := zs) (ts := zs.mergeSort fun x y => decide (x ≤ y)) (List.length_mergeSort _) hg hh h1 h2 h3
    unfold Own
    rw [flat_eI, List.length_mergeSort]
    exact this
theorem mem_compactUpTo (d : Array Int) : ∀ m, m ≤ d.size → ∀ x, x ∈ compactUpTo d m ↔ x ∈ d.toList.take m
  | 0, _, x => by simp [compactUpTo]
  | m + 1, hm, x => by
    rw [compactUpTo_succ, List.mem_append, mem_compactUpTo d m (by omega) x, List.take_add_one, List.mem_append]
    have hd : d[m]! = d[m] := getElem!_pos d m (by omega)
    have hl : d.toList[m]? = some d[m] := by simp [show m < d.size by omega]
    rw [hl, hd]
    by_cases hk : keeps d m = true
    · simp [hk]
    · have hk' : keeps d m = false := by simpa using hk
      simp only [hk']
      have hk2 : m ≠ 0 ∧ d[m]! = d[m - 1]! := by
        unfold keeps at hk'
        have := of_decide_eq_false hk'
        simpa [not_or] using this
      have hd2 : d[m - 1]! = d[m - 1] := getElem!_pos d (m - 1) (by omega)
      have hin : d[m] ∈ d.toList.take m := by
        rw [← hd, hk2.2, hd2]
        refine List.mem_take_iff_getElem.2 ⟨m - 1, by simp; omega, by simp⟩
      constructor
      · rintro (h | h)
        · exact .inl h
        · cases h
      · rintro (h | h)
        · exact .inl h
        · have : x = d[m] := by simpa using h
          rw [this]
          exact .inl hin
theorem mem_compact (zs : List Int) (x : Int) : x ∈ compact zs ↔ x ∈ zs := by
  unfold compact
  rw [mem_compactUpTo _ _ (by simp)]
  simp
theorem compact_own {B cap n : Nat} {A : Option Addr} {w : World} {zs : List Int} (hO : Own w B 3 1 eI (.slice A n cap) zs) (hl : zs.length = n) (hn : n ≤ 1000000) (hB : B ≤ w.heap.size) :
    Calls Tryz.prog 29 #[.slice A n cap] w fun e w' => (∃ (l : List Int), e = .returned (.slice A l.length cap) ∧ Seg w' w'.heap.size 1 eI A l ∧ (∀ x, x ∈ l ↔ x ∈ zs) ∧ l.length ≤ zs.length) ∧ Below B w w' := by
  subst hl
  by_cases hz : zs.length = 0
  · have hz' : zs = [] := List.eq_nil_of_length_eq_zero hz
    subst hz'
    refine (Tryz.slices_Compact_int_empty A cap w).mono ?_
    rintro e w' ⟨rfl, rfl⟩
    exact ⟨⟨[], rfl, Seg.nil _ _ _ _ _, by simp, by simp⟩, Below.refl _ _⟩
  rcases hO.2 with ⟨hv, h0⟩ | ⟨g, cap', cur, hv, hg, hh, h1, h2, h3, h4⟩
  · exact absurd h0 hz
  · injection hv with hA _ hc
    subst hA
    subst hc
    have ht : cur.toList.take zs.length = zs.map (Value.int .i64) := by rw [← flat_eI, ← h4, Nat.mul_one]
    refine (Tryz.slices_Compact_int g 0 cap zs w (holds_of_blockI hh ht) (by omega) h1).mono ?_
    rintro e w' ⟨rfl, q, rfl⟩
    have hlen : (compact zs).length ≤ zs.length := by
      unfold compact compactUpTo
      rw [List.length_map]
      exact Nat.le_trans (List.length_filter_le _ _) (by simp)
    have hG : w.grownBy (grow (putRow (Value.int .i64) (Sort.ahead w q) g 0 (compact zs ++ List.replicate (zs.length - (compact zs).length) 0).toArray) #[]) (some g) := grownBy_sortedI _
    have hO2 := ownsRow_sortedI (w := w) (n := q) (os := #[]) (ss := zs) (ts := compact zs ++ List.replicate (zs.length - (compact zs).length) 0) (by simp; omega) hg hh h1 h2 h3
    have e0 : ∀ W : World, grow W #[] = W := fun W => by simp [grow]
    rw [e0] at hG hO2
    have hO3 : Own (putRow (Value.int .i64) (Sort.ahead w q) g 0 (compact zs ++ List.replicate (zs.length - (compact zs).length) 0).toArray) B 3 1 eI (.slice (some ⟨g, 0, none⟩) zs.length cap) (compact zs ++ List.replicate (zs.length - (compact zs).length) 0) := by
      unfold Own
      rw [flat_eI]
      have : (compact zs ++ List.replicate (zs.length - (compact zs).length) 0).length = zs.length := by simp; omega
      rw [this]
      exact hO2
    refine ⟨⟨compact zs, rfl, fun k x hk => ?_, mem_compact zs, hlen⟩, (Below.refl B w).grown hG hB fun q' hq => by injection hq with hq; omega⟩
    have hk2 := (List.getElem?_eq_some_iff.1 hk).1
    exact (hO3.segA eI_len) k x (by rw [List.getElem?_append_left hk2]; exact hk)
end Go.Proofs.YtplommmegkdhdaaGreatDoor
/- slices.Compact of a sorted list of numbers: strictly increasing. -/
namespace Go.Proofs.YtplommmegkdhdaaGreatDoor
open Go.RowKit Go.Sort Go.Lib

theorem upto_sorted (d : Array Int) (hs : d.toList.Pairwise (· ≤ ·)) : ∀ m, m ≤ d.size → (compactUpTo d m).Pairwise (· < ·)
  | 0, _ => by simp [compactUpTo]
  | m + 1, hm => by
    rw [compactUpTo_succ]
    have ih := upto_sorted d hs m (by omega)
    by_cases hk : keeps d m = true
    · rw [if_pos hk, List.pairwise_append]
      refine ⟨ih, by simp, fun x hx y hy => ?_⟩
      rw [List.mem_singleton] at hy
      subst hy
      rw [mem_compactUpTo d m (by omega) x] at hx
      obtain ⟨j, hj, rfl⟩ := List.mem_take_iff_getElem.1 hx
      have hj' : j < m := by omega
      have hd : d[m]! = d[m] := getElem!_pos d m (by omega)
      rw [hd]
      unfold keeps at hk
      have hk2 := of_decide_eq_true hk
      have hne : d[m] ≠ d[m - 1] := by
        rcases hk2 with h | h
        · omega
        · rw [hd, getElem!_pos d (m - 1) (by omega)] at h; exact h
      have hp := List.pairwise_iff_getElem.1 hs
      have h2 : d[m - 1] ≤ d[m] := by
        have := hp (m - 1) m (by simp; omega) (by simp; omega) (by omega)
        simpa using this
      have h1 : d.toList[j]'(by simp; omega) ≤ d[m - 1] := by
        by_cases e : j = m - 1
        · subst e; simp
        · have := hp j (m - 1) (by simp; omega) (by simp; omega) (by omega)
          simpa using this
      omega
    · rw [if_neg hk, List.append_nil]; exact ih
theorem compact_sorted {zs : List Int} (hs : zs.Pairwise (· ≤ ·)) : (compact zs).Pairwise (· < ·) := by
  unfold compact
  exact upto_sorted _ (by simpa using hs) _ (by simp)
theorem sort_sorted (zs : List Int) : (zs.mergeSort fun x y => decide (x ≤ y)).Pairwise (· ≤ ·) := by
  have h := List.pairwise_mergeSort (le := fun x y : Int => decide (x ≤ y)) (fun a b c h1 h2 => by simp only [decide_eq_true_eq] at *; omega) (fun a b => by simp only [Bool.or_eq_true, decide_eq_true_eq]; omega) zs
  exact h.imp (fun h => by simpa using h)
theorem compact_own2 {B cap n : Nat} {A : Option Addr} {w : World} {zs : List Int} (hO : Own w B 3 1 eI (.slice A n cap) zs) (hl : zs.length = n) (hn : n ≤ 1000000) (hB : B ≤ w.heap.size) :
    Calls Tryz.prog 29 #[.slice A n cap] w fun e w' => (∃ (l : List Int), e = .returned (.slice A l.length cap) ∧ Seg w' w'.heap.size 1 eI A l ∧ Hid (l = compact zs) ∧ l.length ≤ zs.length) ∧ Below B w w' := by
  subst hl
  by_cases hz : zs.length = 0
  · have hz' : zs = [] := List.eq_nil_of_length_eq_zero hz
    subst hz'
    refine (Tryz.slices_Compact_int_empty A cap w).mono ?_
    rintro e w' ⟨rfl, rfl⟩
    exact ⟨⟨[], rfl, Seg.nil _ _ _ _ _, rfl, by simp⟩, Below.refl _ _⟩
  rcases hO.2 with ⟨hv, h0⟩ | ⟨g, cap', cur, hv, hg, hh, h1, h2, h3, h4⟩
  · exact absurd h0 hz
  · injection hv with hA _ hc
    subst hA
    subst hc
    have ht : cur.toList.take zs.length = zs.map (Value.int .i64) := by rw [← flat_eI, ← h4, Nat.mul_one]
    refine (Tryz.slices_Compact_int g 0 cap zs w (holds_of_blockI hh ht) (by omega) h1).mono ?_
    rintro e w' ⟨rfl, q, rfl⟩
    have hlen : (compact zs).length ≤ zs.length := by
      unfold compact compactUpTo
      rw [List.length_map]
      exact Nat.le_trans (List.length_filter_le _ _) (by simp)
    have hG : w.grownBy (grow (putRow (Value.int .i64) (Sort.ahead w q) g 0 (compact zs ++ List.replicate (zs.length - (compact zs).length) 0).toArray) #[]) (some g) := grownBy_sortedI _
    have hO2 := ownsRow_sortedI (w := w) (n := q) (os := #[]) (ss := zs) (ts := compact zs ++ List.replicate (zs.length - (compact zs).length) 0) (by simp; omega) hg hh h1 h2 h3
    have e0 : ∀ W : World, grow W #[] = W := fun W => by simp [grow]
    rw [e0] at hG hO2
    have hO3 : Own (putRow (Value.int .i64) (Sort.ahead w q) g 0 (compact zs ++ List.replicate (zs.length - (compact zs).length) 0).toArray) B 3 1 eI (.slice (some ⟨g, 0, none⟩) zs.length cap) (compact zs ++ List.replicate (zs.length - (compact zs).length) 0) := by
      unfold Own
      rw [flat_eI]
      have : (compact zs ++ List.replicate (zs.length - (compact zs).length) 0).length = zs.length := by simp; omega
      rw [this]
      exact hO2
    refine ⟨⟨compact zs, rfl, fun k x hk => ?_, rfl, hlen⟩, (Below.refl B w).grown hG hB fun q' hq => by injection hq with hq; omega⟩
    have hk2 := (List.getElem?_eq_some_iff.1 hk).1
    exact (hO3.segA eI_len) k x (by rw [List.getElem?_append_left hk2]; exact hk)
end Go.Proofs.YtplommmegkdhdaaGreatDoor
