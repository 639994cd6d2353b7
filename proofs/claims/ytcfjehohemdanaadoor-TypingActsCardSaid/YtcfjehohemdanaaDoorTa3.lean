/- Symbols with other positions, names, days or one other clause: which faults they have. -/
import Derived.Test.YtcfjehohemdanaaDoorTa2
namespace Go.Proofs.YtcfjehohemdanaaDoor

theorem all_mapIdx {α β : Type} (f : Nat → α → β) (p : β → Bool) (q : α → Bool) (l : List α) (h : ∀ i a, p (f i a) = q a) : (l.mapIdx f).all p = l.all q := by
  induction l generalizing f with
  | nil => rfl
  | cons a l ih => rw [List.mapIdx_cons, List.all_cons, List.all_cons, h, ih _ fun i a => h (i + 1) a]
/-- the first k act types at 1000, 1001, .. -/
def plA (k : Nat) (l : List As) : List As := l.mapIdx fun i a => if i < k then { a with pos := 1000 + i } else a
def plC (k : Nat) (l : List Cs) : List Cs := l.mapIdx fun i c => if i < k then { c with pos := 2000 + i } else c
def Sy.plc (s : Sy) : Sy := { s with ac := plA s.ac.length s.ac, cl := plC s.cl.length s.cl }
theorem plA_len (k : Nat) (l : List As) : (plA k l).length = l.length := by simp [plA]
theorem plC_len (k : Nat) (l : List Cs) : (plC k l).length = l.length := by simp [plC]
theorem plA_get {l : List As} {i : Nat} {a : As} (h : l[i]? = some a) (k : Nat) : (plA k l)[i]? = some (if i < k then { a with pos := 1000 + i } else a) := by simp [plA, h]
theorem plC_get {l : List Cs} {i : Nat} {c : Cs} (h : l[i]? = some c) (k : Nat) : (plC k l)[i]? = some (if i < k then { c with pos := 2000 + i } else c) := by simp [plC, h]
theorem pl_sz (s : Sy) : s.plc.sz = s.sz := by simp [Sy.sz, Sy.plc, plA, plC]
theorem pl_byN (s : Sy) (i : Int) : byN s.plc i = byN s i := by
  simp only [byN, Sy.plc]
  cases h : s.ac[i.toNat]? with
  | none => rw [show (plA s.ac.length s.ac)[i.toNat]? = none by simp [plA]; simpa using h]
  | some a => rw [plA_get h]; simp only; split <;> rfl
theorem pl_wf (s : Sy) : wfS s.plc = wfS s := by
  simp only [wfS, pl_sz, smallT]
  simp only [Sy.plc, plA_len, plC_len]
  rw [plA, all_mapIdx _ _ (fun a => fmA s.sz a.a) _ (fun i a => by split <;> rfl), plC, all_mapIdx _ _ (fun c => fmC s.sz c.c && fmS c) _ (fun i c => by split <;> rfl)]
  rfl
theorem pl_beg (s : Sy) : eBeg s.plc = eBeg s := rfl
theorem pl_eUn (s : Sy) (i : Nat) (u : Un) : eUn s.plc i u = eUn s i u := rfl
theorem pl_eCl (s : Sy) (i : Nat) (c : Cs) (n : Int) : eCl s.plc i { c with pos := n } = eCl s i c := by
  simp only [eCl, badKi, pl_byN]; rfl
/-- where a fault lies in symbols with positions -/
theorem plA_pos {l : List As} {i : Nat} {a : As} (h : (plA l.length l)[i]? = some a) : a.pos = 1000 + i ∧ i < l.length := by
  have hi : i < l.length := by have := (List.getElem?_eq_some_iff.1 h).1; rwa [plA_len] at this
  rw [plA_get (List.getElem?_eq_getElem hi), if_pos hi] at h
  exact ⟨by cases h; rfl, hi⟩
theorem plC_pos {l : List Cs} {i : Nat} {a : Cs} (h : (plC l.length l)[i]? = some a) : a.pos = 2000 + i ∧ i < l.length := by
  have hi : i < l.length := by have := (List.getElem?_eq_some_iff.1 h).1; rwa [plC_len] at this
  rw [plC_get (List.getElem?_eq_getElem hi), if_pos hi] at h
  exact ⟨by cases h; rfl, hi⟩
/-- faults go away with the positions -/
theorem pl_nil {s : Sy} (h : chk s = []) : chk s.plc = [] := by
  obtain ⟨h1, h2, h3, h4, h5⟩ := chk_nil.1 h
  refine chk_nil.2 ⟨(pl_wf s).trans h1, h2, h3, fun i a ha => ?_, fun i c hc => ?_⟩
  · have hi : i < s.ac.length := by have := (List.getElem?_eq_some_iff.1 ha).1; simpa [Sy.plc, plA] using this
    rw [show s.plc.ac = plA s.ac.length s.ac from rfl, plA_get (List.getElem?_eq_getElem hi), if_pos hi] at ha
    cases ha
    exact h4 i s.ac[i] (List.getElem?_eq_getElem hi)
  · have hi : i < s.cl.length := by have := (List.getElem?_eq_some_iff.1 hc).1; simpa [Sy.plc, plC] using this
    rw [show s.plc.cl = plC s.cl.length s.cl from rfl, plC_get (List.getElem?_eq_getElem hi), if_pos hi] at hc
    cases hc
    rw [pl_eCl]
    exact h5 i s.cl[i] (List.getElem?_eq_getElem hi)
/- TypingOrder -/
/-- how many faults lie at -1 at the beginning, and the position of the last one -/
def frl (l : List (Int × Int)) : Int × Int := l.foldl (fun x y => if y.2 = -1 ∧ x.2 = -1 then (x.1 + 1, x.2) else (x.1, y.2)) (0, -1)
theorem frl_app (l : List (Int × Int)) (y : Int × Int) : frl (l ++ [y]) = if y.2 = -1 ∧ (frl l).2 = -1 then ((frl l).1 + 1, (frl l).2) else ((frl l).1, y.2) := by
  simp only [frl, List.foldl_append, List.foldl_cons, List.foldl_nil]
  rfl
theorem frl_free (l : List (Int × Int)) (h : ∀ x ∈ l, x.2 = -1) : frl l = ((l.length : Int), -1) := by
  suffices H : ∀ (l : List (Int × Int)) (n : Int), (∀ x ∈ l, x.2 = -1) → l.foldl (fun x y => if y.2 = -1 ∧ x.2 = -1 then (x.1 + 1, x.2) else (x.1, y.2)) (n, -1) = (n + l.length, -1) by
    have := H l 0 h; simpa [frl] using this
  intro l
  induction l with
  | nil => simp
  | cons a l ih =>
    intro n h
    have ha := h a (by simp)
    rw [List.foldl_cons, if_pos ⟨ha, rfl⟩, ih _ fun x hx => h x (by simp [hx])]
    simp; omega
theorem frl_up (F : List (Int × Int)) (hF : ∀ x ∈ F, x.2 = -1) (G : List (Int × Int)) (hG : ∀ x ∈ G, 0 ≤ x.2) :
    frl (F ++ G) = ((F.length : Int), match G.getLast? with | some x => x.2 | none => -1) := by
  generalize hn : G.length = n
  induction n generalizing G with
  | zero => obtain rfl := List.eq_nil_of_length_eq_zero hn; simp [frl_free F hF]
  | succ n ih =>
    obtain ⟨G', y, rfl⟩ : ∃ G' y, G = G' ++ [y] := ⟨G.dropLast, G.getLast (by intro h; simp [h] at hn), (List.dropLast_concat_getLast _).symm⟩
    have hy := hG y (by simp)
    rw [← List.append_assoc, frl_app, if_neg (by omega), ih G' (fun x hx => hG x (by simp [hx])) (by simpa using hn)]
    simp
/-- what the loop of TypingOrder asks at each fault -/
def OrdOk (L : List (Int × Int)) (n m : Nat) : Prop := ∀ (k : Nat) x, L[k]? = some x → x.1 ≠ 0 ∧ (x.1 = 1 → L.length ≤ 1 ∧ x.2 = -1) ∧
  (x.2 = -1 ∧ (frl (L.take k)).2 = -1 ∨ ¬ (x.2 = -1 ∧ (frl (L.take k)).2 = -1) ∧ (frl (L.take k)).2 < x.2 ∧ (1000 ≤ x.2 ∧ x.2 < 1000 + n ∨ ¬ (1000 ≤ x.2 ∧ x.2 < 1000 + n) ∧ 2000 ≤ x.2 ∧ x.2 < 2000 + m))
theorem order_law (s : Sy) : OrdOk (chk s.plc) s.ac.length s.cl.length ∧ (frl (chk s.plc)).1 ≤ 1 + s.un.length := by
  cases hw : wfS s.plc with
  | false =>
    rw [chk_no hw]
    refine ⟨fun k x hx => ?_, by simp [frl]; omega⟩
    cases k with
    | zero => simp at hx; subst hx; simp [frl]
    | succ k => simp at hx
  | true =>
    have hne := chk_ne hw
    obtain ⟨F, hF⟩ : ∃ F, F = flt (eBeg s.plc) (-1) ++ gx (eUn s.plc) (fun _ => -1) 0 s.plc.un := ⟨_, rfl⟩
    obtain ⟨G, hG⟩ : ∃ G, G = gx (fun _ (a : As) => eAc a.a) (·.pos) 0 s.plc.ac ++ gx (eCl s.plc) (·.pos) 0 s.plc.cl := ⟨_, rfl⟩
    have hL : chk s.plc = F ++ G := by rw [chk_wf hw, hF, hG]; simp [List.append_assoc]
    have hsm : s.ac.length ≤ 60 := by
      have := hw
      simp only [wfS, smallT, Bool.and_eq_true, decide_eq_true_eq, Sy.plc, plA_len] at this
      omega
    have f1 : ∀ x ∈ F, x.2 = -1 := by
      intro x hx
      rw [hF, List.mem_append] at hx
      rcases hx with hx | hx
      · obtain ⟨rfl, _⟩ := flt_mem hx; rfl
      · obtain ⟨_, _, _, rfl, _⟩ := gx_mem hx; rfl
    have f2 : F.length ≤ 1 + s.un.length := by
      rw [hF, List.length_append]
      have := flt_len (eBeg s.plc) (-1)
      have := gx_len (e := eUn s.plc) (p := fun _ => -1) s.plc.un 0
      have : s.plc.un.length = s.un.length := rfl
      omega
    have hP : ∀ {i : Nat} {a : As}, s.plc.ac[i]? = some a → a.pos = 1000 + i ∧ i < s.ac.length := fun h => plA_pos h
    have hQ : ∀ {i : Nat} {a : Cs}, s.plc.cl[i]? = some a → a.pos = 2000 + i ∧ i < s.cl.length := fun h => plC_pos h
    have g1 : ∀ x ∈ G, 1000 ≤ x.2 ∧ x.2 < 1000 + s.ac.length ∨ ¬ (1000 ≤ x.2 ∧ x.2 < 1000 + s.ac.length) ∧ 2000 ≤ x.2 ∧ x.2 < 2000 + s.cl.length := by
      intro x hx
      rw [hG, List.mem_append] at hx
      rcases hx with hx | hx
      · obtain ⟨i, a, h1, rfl, _⟩ := gx_mem hx
        obtain ⟨h2, h3⟩ := hP h1
        simp only; omega
      · obtain ⟨i, a, h1, rfl, _⟩ := gx_mem hx
        obtain ⟨h2, h3⟩ := hQ h1
        simp only; omega
    have g2 : G.Pairwise fun x y => x.2 < y.2 := by
      rw [hG, List.pairwise_append]
      refine ⟨gx_up (c := 1000) fun i a h => (hP h).1, gx_up (c := 2000) fun i a h => (hQ h).1, fun x hx y hy => ?_⟩
      obtain ⟨i, a, h1, rfl, _⟩ := gx_mem hx
      obtain ⟨j, b, h2, rfl, _⟩ := gx_mem hy
      have := hP h1
      have := hQ h2
      simp only; omega
    have g0 : ∀ x ∈ G, 0 ≤ x.2 := fun x hx => by have := g1 x hx; omega
    rw [hL]
    refine ⟨fun k x hx => ?_, by rw [frl_up F f1 G g0]; simp only; omega⟩
    have hm : x ∈ chk s.plc := by rw [hL]; exact List.mem_of_getElem? hx
    refine ⟨(hne x hm).2, fun h => absurd h (hne x hm).1, ?_⟩
    rcases Nat.lt_or_ge k F.length with hk | hk
    · rw [List.getElem?_append_left hk] at hx
      rw [List.take_append_of_le_length (by omega), frl_free _ fun y hy => f1 y (List.mem_of_mem_take hy)]
      exact .inl ⟨f1 x (List.mem_of_getElem? hx), rfl⟩
    · rw [List.getElem?_append_right hk] at hx
      have hxG : x ∈ G := List.mem_of_getElem? hx
      rw [List.take_append, List.take_of_length_le hk, frl_up F f1 _ fun y hy => g0 y (List.mem_of_mem_take hy)]
      have := g0 x hxG
      refine .inr ⟨by omega, ?_, g1 x hxG⟩
      simp only
      cases hl : (G.take (k - F.length)).getLast? with
      | none => simp only; omega
      | some y =>
        simp only
        rw [List.getLast?_eq_getElem?] at hl
        have hkl : k - F.length < G.length := (List.getElem?_eq_some_iff.1 hx).1
        rw [List.length_take, Nat.min_eq_left (by omega)] at hl
        have hj : k - F.length - 1 < k - F.length := by
          rcases Nat.eq_zero_or_pos (k - F.length) with h0 | h0
          · rw [h0] at hl; simp at hl
          · omega
        rw [List.getElem?_take_of_lt hj] at hl
        obtain ⟨q1, rfl⟩ := List.getElem?_eq_some_iff.1 hl
        obtain ⟨q2, rfl⟩ := List.getElem?_eq_some_iff.1 hx
        exact List.pairwise_iff_getElem.1 g2 _ _ q1 q2 hj
end Go.Proofs.YtcfjehohemdanaaDoor
