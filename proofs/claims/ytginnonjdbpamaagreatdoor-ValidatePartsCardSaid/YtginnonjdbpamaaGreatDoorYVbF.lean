/- A part of a contract runs as its clauses do within the whole. No program in sight. -/
import Derived.Test.YtginnonjdbpamaaGreatDoorMc32
import Derived.Test.YtginnonjdbpamaaGreatDoorMc1
namespace Go.Proofs.YtginnonjdbpamaaGreatDoor
def pick {α : Type} (ks : List Int) (l : List α) : List α := ks.filterMap fun i => l[i.toNat]?
def ren (ks : List Int) (k : Cla) : Cla := { k with start := k.start.map fun s => (((ks.idxOf s.1 : Nat) : Int), s.2) }
def Con.partC (c : Con) (ks : List Int) : Con := c.wc ((pick ks c.cl).map (ren ks))
def Con.partOk (c : Con) (ks : List Int) : Bool := c.ok && incI c.cl.length (-1) ks && (pick ks c.cl).all fun k => k.start.all fun s => ks.contains s.1
def Sta.part (ks : List Int) (s : Sta) : Sta := { s with marks := pick ks s.marks }
section
variable {α β : Type} {ks : List Int}
theorem xBs {l : List α} : ∀ {ks : List Int}, (∀ i ∈ ks, i.toNat < l.length) → ∀ j : Nat, (pick ks l)[j]? = (ks[j]?).bind fun i => l[i.toNat]?
 | [], _, j => by simp [pick]
 | i :: ks, h, j => by
  have h0 := h i (by simp)
  have e : pick (i :: ks) l = l[i.toNat] :: pick ks l := by unfold pick; rw [List.filterMap_cons, qzJ h0]
  rw [e]
  cases j with
  | zero => simp [qzJ h0]
  | succ j => simpa using xBs (fun x hx => h x (List.mem_cons_of_mem _ hx)) j
theorem xCq {l : List α} : ∀ {ks : List Int}, (∀ i ∈ ks, i.toNat < l.length) → (pick ks l).length = ks.length
 | [], _ => rfl
 | i :: ks, h => by
  unfold pick
  rw [List.filterMap_cons, qzJ (h i (by simp))]
  simpa [pick] using xCq (fun x hx => h x (List.mem_cons_of_mem _ hx))
theorem xFp (n : Nat) : ∀ {ks : List Int} {last : Int}, incI n last ks = true → -1 ≤ last → (∀ i ∈ ks, last < i ∧ 0 ≤ i ∧ i < (n : Int)) ∧ ks.Nodup
 | [], _, _, _ => ⟨by simp, List.nodup_nil⟩
 | d :: ks, last, h, hl => by
  simp only [incI, Bool.and_eq_true, decide_eq_true_eq] at h
  obtain ⟨h1, h2⟩ := xFp n h.2 (by omega)
  refine ⟨fun i hi => ?_, List.nodup_cons.2 ⟨fun hm => by have := (h1 d hm).1; omega, h2⟩⟩
  rcases List.mem_cons.1 hi with rfl | hi
  ·omega
  ·have := h1 i hi
   omega
theorem inc_len (n : Nat) : ∀ {ks : List Int} {last : Int}, incI n last ks = true → last < (n : Int) → (ks.length : Int) ≤ n - 1 - last
 | [], last, _, h => by simp; omega
 | d :: ks, last, h, hl => by
  simp only [incI, Bool.and_eq_true, decide_eq_true_eq] at h
  have := inc_len n h.2 h.1.2
  simp only [List.length_cons]
  omega
end
structure PartF (c : Con) (ks : List Int) : Prop where
 ok : c.ok = true
 lt : ∀ i ∈ ks, 0 ≤ i ∧ i.toNat < c.cl.length
 nd : ks.Nodup
 inc : incI c.cl.length (-1) ks = true
 st : ∀ (j : Nat) i k, ks[j]? = some i → c.cl[i.toNat]? = some k → ∀ s ∈ k.start, s.1 ∈ ks
theorem xF6 {c : Con} {ks : List Int} (h : c.partOk ks = true) : PartF c ks := by
 simp only [Con.partOk, Bool.and_eq_true] at h
 obtain ⟨h1, h2⟩ := xFp _ h.1.2 (by omega)
 have hlt : ∀ i ∈ ks, 0 ≤ i ∧ i.toNat < c.cl.length := fun i hi => by have := h1 i hi; omega
 refine ⟨h.1.1, hlt, h2, h.1.2, fun j i k hi hk s hs => ?_⟩
 have hm : k ∈ pick ks c.cl := by
  refine qzK (i := j) ?_
  rw [xBs (fun i hi => (hlt i hi).2), hi]
  exact hk
 have := List.all_eq_true.1 (List.all_eq_true.1 h.2 k hm) s hs
 simpa using this
section
variable {c : Con} {ks : List Int}
theorem cl_at (h : PartF c ks) (j : Nat) : (c.partC ks).cl[j]? = (ks[j]?).bind fun i => (c.cl[i.toNat]?).map (ren ks) := by
 show ((pick ks c.cl).map (ren ks))[j]? = _
 rw [List.getElem?_map, xBs (fun i hi => (h.lt i hi).2)]
 cases ks[j]? <;> rfl
theorem cl_len (h : PartF c ks) : (c.partC ks).cl.length = ks.length := by
 show ((pick ks c.cl).map (ren ks)).length = _
 rw [List.length_map, xCq (fun i hi => (h.lt i hi).2)]
theorem kfind (_h : PartF c ks) {i : Int} (hi : i ∈ ks) : ks[ks.idxOf i]? = some i := by
 rw [qzJ (List.idxOf_lt_length_iff.2 hi), List.getElem_idxOf]
theorem kidx (h : PartF c ks) {j j' : Nat} {i : Int} (h1 : ks[j]? = some i) (h2 : ks[j']? = some i) : j = j' := by
 obtain ⟨l1, e1⟩ := qzM h1
 obtain ⟨l2, e2⟩ := qzM h2
 have hp := List.pairwise_iff_getElem.1 h.nd
 rcases Nat.lt_trichotomy j j' with h | h | h
 ·exact absurd (e1.trans e2.symm) (hp j j' l1 l2 h)
 ·exact h
 ·exact absurd (e2.trans e1.symm) (hp j' j l2 l1 h)
theorem part_ok (h : PartF c ks) : (c.partC ks).ok = true := by
 have hok := h.ok
 unfold Con.ok at hok ⊢
 simp only [Bool.and_eq_true] at hok ⊢
 have hl := cl_len h
 have hn := inc_len c.cl.length h.inc (by omega)
 refine ⟨⟨?_, ?_⟩, ?_⟩
 ·have := hok.1.1
  unfold Con.lim at this ⊢
  simp only [Bool.and_eq_true, decide_eq_true_eq] at this ⊢
  refine ⟨this.1, ?_⟩
  rw [hl]
  omega
 ·rw [← Con.framed_same (c := c) (d := c.partC ks) rfl rfl rfl rfl rfl rfl]
  exact hok.1.2
 ·rw [Con.clsOk_iff]
  intro j k hk
  rw [cl_at h] at hk
  obtain ⟨i, hi, hk⟩ := Option.bind_eq_some_iff.1 hk
  obtain ⟨k0, hk0, rfl⟩ := Option.map_eq_some_iff.1 hk
  have h1 := (Con.clsOk_iff c c.cl 0).1 hok.2 i.toNat k0 hk0
  rw [Nat.zero_add] at h1 ⊢
  unfold Con.claOk at h1 ⊢
  simp only [Bool.and_eq_true] at h1 ⊢
  obtain ⟨⟨⟨⟨⟨⟨⟨a1, a2⟩, a3⟩, a4⟩, a5⟩, a6⟩, a7⟩, a8⟩ := h1
  refine ⟨⟨⟨⟨⟨⟨⟨a1, a2⟩, a3⟩, a4⟩, ?_⟩, ?_⟩, a7⟩, a8⟩
  ·simpa [ren] using a5
  ·rw [List.all_eq_true] at a6 ⊢
   intro s hs
   obtain ⟨s0, hs0, rfl⟩ := List.mem_map.1 hs
   have hm := h.st j i k0 hi hk0 s0 hs0
   have := a6 s0 hs0
   unfold xB7 at this ⊢
   simp only [Bool.and_eq_true, decide_eq_true_eq, bne_iff_ne, xCb] at this ⊢
   have hlt := List.idxOf_lt_length_iff.2 hm
   refine ⟨⟨⟨⟨by omega, by rw [hl]; omega⟩, ?_⟩, this.1.2⟩, this.2⟩
   intro e
   have e2 : ks.idxOf s0.1 = j := by omega
   have := kfind h hm
   rw [e2, hi] at this
   cases this
   have h0 := (h.lt s0.1 hm).1
   have := this.1.1.2
   omega
theorem ren_eq (f : Cla → Mk → Mk) (hf : ∀ k m st, f { k with start := st } m = f k m) (k : Cla) (m : Mk) : f (ren ks k) m = f k m := hf k m _
theorem xEv (h : PartF c ks) {f : Cla → Mk → Mk} (hf : ∀ k m st, f { k with start := st } m = f k m) {ms : List Mk} (hl : ms.length = c.cl.length) : pick ks (List.zipWith f c.cl ms) = List.zipWith f (c.partC ks).cl (pick ks ms) := by
 have hr : ∀ i ∈ ks, i.toNat < ms.length := fun i hi => by rw [hl]; exact (h.lt i hi).2
 refine List.ext_getElem? fun j => ?_
 rw [xBs (fun i hi => by rw [List.length_zipWith, hl, Nat.min_self]; exact (h.lt i hi).2), List.getElem?_zipWith, cl_at h, xBs hr]
 cases hk : ks[j]? with
 | none => rfl
 | some i =>
  have hi := h.lt i (qzK hk)
  simp only [Option.bind_some, List.getElem?_zipWith, qzJ hi.2, qzJ (hr i (qzK hk)), Option.map_some]
  rw [ren_eq f hf]
theorem stOf_pick (h : PartF c ks) {ms : List Mk} (hl : ms.length = c.cl.length) {i : Int} (hi : i ∈ ks) : stOf (pick ks ms) ((ks.idxOf i : Nat) : Int) = stOf ms i := by
 rw [xEu, xEu, Int.toNat_natCast, xBs (fun i hi => by rw [hl]; exact (h.lt i hi).2), kfind h hi]
 rfl
theorem rdy_pick (h : PartF c ks) {ms : List Mk} (hl : ms.length = c.cl.length) {j : Nat} {i : Int} (hj : ks[j]? = some i) : rdy (c.partC ks) (pick ks ms) j = rdy c ms i.toNat := by
 have hi := h.lt i (qzK hj)
 obtain ⟨k, hk⟩ : ∃ k, c.cl[i.toNat]? = some k := ⟨_, qzJ hi.2⟩
 obtain ⟨m, hm⟩ : ∃ m, ms[i.toNat]? = some m := ⟨_, qzJ (by omega)⟩
 unfold rdy
 rw [cl_at h, xBs (fun i hi => by rw [hl]; exact (h.lt i hi).2), hj]
 simp only [Option.bind_some, hk, hm, Option.map_some]
 have e : ((ren ks k).start.all fun s => xA1 s.2 (stOf (pick ks ms) s.1)) = k.start.all fun s => xA1 s.2 (stOf ms s.1) := by
  show ((k.start.map fun s => (((ks.idxOf s.1 : Nat) : Int), s.2)).all fun s => xA1 s.2 (stOf (pick ks ms) s.1)) = _
  rw [List.all_map, Bool.eq_iff_iff, List.all_eq_true, List.all_eq_true]
  exact forall_congr' fun s => imp_congr_right fun hs => by simp only [Function.comp, stOf_pick h hl (h.st j i k hj hk s hs)]
 rw [e]
 rfl
theorem live_ren (k : Cla) (hol : List Int) : live (ren ks k) hol = live k hol := rfl
theorem pick_set (h : PartF c ks) {ms : List Mk} (hl : ms.length = c.cl.length) {j : Nat} {i : Int} (hj : ks[j]? = some i) (v : Mk) : pick ks (ms.set i.toNat v) = (pick ks ms).set j v := by
 have hr : ∀ i ∈ ks, i.toNat < ms.length := fun i hi => by rw [hl]; exact (h.lt i hi).2
 have hi := hr i (qzK hj)
 refine List.ext_getElem? fun j' => ?_
 rw [xBs (fun i hi => by rw [List.length_set]; exact hr i hi)]
 by_cases e : j = j'
 ·subst e
  rw [hj, List.getElem?_set_self (by rw [xCq hr]; exact (qzM hj).1)]
  exact List.getElem?_set_self hi
 ·rw [List.getElem?_set_ne e, xBs hr]
  cases hj' : ks[j']? with
  | none => rfl
  | some i' =>
   simp only [Option.bind_some]
   rw [List.getElem?_set_ne]
   intro e2
   have a := h.lt i (qzK hj)
   have b := h.lt i' (qzK hj')
   obtain rfl : i = i' := by omega
   exact e (kidx h hj hj')
theorem pick_out (h : PartF c ks) {ms : List Mk} (hl : ms.length = c.cl.length) {n : Nat} (hn : (n : Int) ∉ ks) (v : Mk) : pick ks (ms.set n v) = pick ks ms := by
 have hr : ∀ i ∈ ks, i.toNat < ms.length := fun i hi => by rw [hl]; exact (h.lt i hi).2
 refine List.ext_getElem? fun j' => ?_
 rw [xBs (fun i hi => by rw [List.length_set]; exact hr i hi), xBs hr]
 cases hj' : ks[j']? with
 | none => rfl
 | some i' =>
  simp only [Option.bind_some]
  rw [List.getElem?_set_ne]
  intro e2
  have hm := qzK hj'
  have b := h.lt i' hm
  exact hn (by rw [e2]; rwa [Int.toNat_of_nonneg b.1])
theorem start_ind {hol : List Int} {P : List Mk → Prop} (hs : ∀ ms i k, c.cl[i]? = some k → rdy c ms i = true → P ms → P (ms.set i (live k hol))) : ∀ (n : Nat) (ms : List Mk), P ms → P (xC9 c hol n ms) := by
 have hf : ∀ (l : List Nat) (ms : List Mk) (b : Bool), P ms → P (l.foldl (xB6 c hol) (ms, b)).1 := by
  intro l
  induction l with
  | nil => intro ms b h; exact h
  | cons i l ih =>
   intro ms b h
   rw [List.foldl_cons]
   rcases xHe c hol ms b i with ⟨e, _⟩ | ⟨k, hk, hr, e⟩
   ·rw [e]; exact ih ms b h
   ·rw [e]; exact ih _ true (hs ms i k hk hr h)
 intro n
 induction n with
 | zero => intro ms h; exact h
 | succ n ih =>
  intro ms h
  unfold xC9
  split
  ·exact ih _ (hf _ _ _ h)
  ·exact hf _ _ _ h
theorem xCw (h : PartF c ks) {hol : List Int} {ms : List Mk} (hl : ms.length = c.cl.length) : pick ks (xAs c hol ms) = xAs (c.partC ks) hol (pick ks ms) := by
 have hr : ∀ i ∈ ks, i.toNat < ms.length := fun i hi => by rw [hl]; exact (h.lt i hi).2
 obtain ⟨hS, hE⟩ := xB2 (hol := hol) hl
 have hl0 : (xAs c hol ms).length = c.cl.length := hE.1.trans hl
 have hr0 : ∀ i ∈ ks, i.toNat < (xAs c hol ms).length := fun i hi => by rw [hl0]; exact (h.lt i hi).2
 refine xFc ?_ ⟨?_, fun j => ?_⟩ (fun j => ?_) fun L' hL hSL => ?_
 ·rw [xCq hr, cl_len h]
 ·rw [xCq hr, xCq hr0]
 ·rw [xBs hr0, xBs hr]
  cases hj : ks[j]? with
  | none => exact .inl rfl
  | some i =>
   simp only [Option.bind_some]
   rcases hE.2 i.toNat with e | ⟨k, m, h1, h2, h3, h4⟩
   ·exact .inl e
   ·refine .inr ⟨ren ks k, m, ?_, h2, h3, h4⟩
    rw [cl_at h, hj]
    simp [h1]
 ·cases hj : ks[j]? with
  | none =>
   refine xIv ?_
   rw [cl_len h]
   exact List.getElem?_eq_none_iff.1 hj
  | some i =>
   rw [rdy_pick h hl0 hj]
   exact hS _
 ·refine (start_ind (c := c) (hol := hol) (P := fun x => x.length = c.cl.length ∧ Ext (c.partC ks) hol (pick ks x) L') ?_ (c.cl.length + 1) ms ⟨hl, hL⟩).2
  intro x i k hk hrx hx
  refine ⟨by rw [List.length_set]; exact hx.1, ?_⟩
  by_cases hm : (i : Int) ∈ ks
  ·obtain ⟨j, hj⟩ := List.getElem?_of_mem hm
   have e := pick_set h hx.1 hj (live k hol)
   rw [Int.toNat_natCast] at e
   rw [e]
   have hk' : (c.partC ks).cl[j]? = some (ren ks k) := by rw [cl_at h, hj]; simp [hk]
   rw [← live_ren (ks := ks)]
   exact xI6 hx.2 hSL hk' (by rw [rdy_pick h hx.1 hj]; simpa using hrx)
  ·rw [pick_out h hx.1 hm]
   exact hx.2
theorem xDa {hol : List Int} {ms : List Mk} (hl : ms.length = c.cl.length) : (xAs c hol ms).length = c.cl.length := (xB2 hl).2.1.trans hl
theorem xE4 {f : Cla → Mk → Mk} {ms : List Mk} (hl : ms.length = c.cl.length) : (List.zipWith f c.cl ms).length = c.cl.length := by rw [List.length_zipWith, hl, Nat.min_self]
theorem tick_part (h : PartF c ks) {s : Sta} (hl : s.marks.length = c.cl.length) : (s.tick c).part ks = (s.part ks).tick (c.partC ks) ∧ (s.tick c).marks.length = c.cl.length := by
 refine ⟨?_, xDa (xE4 hl)⟩
 unfold Sta.tick Sta.part
 simp only [Sta.mk.injEq, true_and]
 rw [xCw h (xE4 hl), xEv h (fun _ _ _ => rfl) hl]
 rfl
theorem act_part (h : PartF c ks) {s : Sta} (hl : s.marks.length = c.cl.length) (n : Nat) : (s.act c n).part ks = (s.part ks).act (c.partC ks) n ∧ (s.act c n).marks.length = c.cl.length := by
 unfold Sta.act
 show (Sta.part ks (match c.ac[n]? with | none => s | some a => _)) = (match c.ac[n]? with | none => s.part ks | some a => _) ∧ _
 cases c.ac[n]? with
 | none => exact ⟨rfl, hl⟩
 | some a =>
  simp only
  by_cases h1 : a.kind ≠ 1 ∧ s.used.getD n false = true
  ·rw [if_pos h1, if_pos (show a.kind ≠ 1 ∧ (s.part ks).used.getD n false = true from h1)]
   exact ⟨rfl, hl⟩
  ·rw [if_neg h1, if_neg (show ¬ (a.kind ≠ 1 ∧ (s.part ks).used.getD n false = true) from h1)]
   have z1 := xE4 (f := xA4 n) hl
   have z2 := xE4 (f := xA0 n (xA7 a s.hol)) z1
   have p1 := xEv h (f := xA4 n) (fun _ _ _ => rfl) hl
   have p2 := xEv h (f := xA0 n (xA7 a s.hol)) (fun _ _ _ => rfl) z1
   by_cases h2 : a.kind = 1
   ·rw [if_pos h2, if_pos h2]
    refine ⟨?_, xDa z2⟩
    unfold Sta.part
    simp only [Sta.mk.injEq, true_and]
    rw [xCw h z2, p2, p1]
   ·rw [if_neg h2, if_neg h2]
    by_cases h3 : a.kind = 3
    ·simp only [if_pos h3]
     have z3 := xE4 (f := xBc a) z2
     refine ⟨?_, xDa z3⟩
     unfold Sta.part
     simp only [Sta.mk.injEq, true_and]
     rw [xCw h z3, xEv h (f := xBc a) (fun _ _ _ => rfl) z2, p2, p1]
    ·simp only [if_neg h3]
     refine ⟨?_, xDa z2⟩
     unfold Sta.part
     simp only [Sta.mk.injEq, true_and]
     rw [xCw h z2, p2, p1]
theorem step_part (h : PartF c ks) {s : Sta} (hl : s.marks.length = c.cl.length) (x : Int) : (s.step c x).part ks = (s.part ks).step (c.partC ks) x ∧ (s.step c x).marks.length = c.cl.length := by
 unfold Sta.step
 split
 ·exact tick_part h hl
 ·exact act_part h hl _
theorem first_part (h : PartF c ks) : c.first.part ks = (c.partC ks).first ∧ c.first.marks.length = c.cl.length := by
 have hl : (c.cl.map fun k => if k.waived then { Mk.idle with st := 5 } else Mk.idle).length = c.cl.length := List.length_map _
 refine ⟨?_, xDa hl⟩
 unfold Con.first Sta.part
 simp only [Sta.mk.injEq]
 refine ⟨trivial, rfl, rfl, ?_⟩
 rw [xCw h hl]
 show _ = xAs (c.partC ks) c.hold _
 congr 1
 refine List.ext_getElem? fun j => ?_
 rw [xBs (fun i hi => by rw [hl]; exact (h.lt i hi).2), List.getElem?_map, cl_at h]
 cases ks[j]? with
 | none => rfl
 | some i =>
  simp only [Option.bind_some, List.getElem?_map]
  cases c.cl[i.toNat]? <;> rfl
theorem xFa (h : PartF c ks) : ∀ (l : List Int) (s : Sta), s.marks.length = c.cl.length → xB0 (c.partC ks) (s.part ks) l = (xB0 c s l).map (Sta.part ks) ∧ ∀ x ∈ xB0 c s l, x.marks.length = c.cl.length
 | [], s, hl => ⟨rfl, fun x hx => by rw [List.mem_singleton.1 hx]; exact hl⟩
 | x :: l, s, hl => by
  obtain ⟨e, hl2⟩ := step_part h hl x
  obtain ⟨h1, h2⟩ := xFa h l (s.step c x) hl2
  rw [xB0, xB0, List.map_cons, ← e, h1]
  refine ⟨rfl, fun y hy => ?_⟩
  rcases List.mem_cons.1 hy with rfl | hy
  ·exact hl
  ·exact h2 y hy
theorem xIg : ∀ (l : List Int) (d : Int), chkL (c.partC ks) d l = chkL c d l
 | [], _ => rfl
 | x :: l, d => by
  rw [chkL, chkL, xIg l]
  rfl
theorem part_run (h : c.partOk ks = true) (l : List Int) : (c.partC ks).runE l = c.runE l ∧ (c.partC ks).runS l = (c.runS l).map (Sta.part ks) ∧ ∀ x ∈ c.runS l, x.marks.length = c.cl.length := by
 have F := xF6 h
 have hE : (c.partC ks).runE l = c.runE l := by
  rw [run_chk, run_chk]
  unfold Con.chk
  rw [part_ok F, F.ok, xIg]
 obtain ⟨e, hl⟩ := first_part F
 obtain ⟨h1, h2⟩ := xFa F l c.first hl
 refine ⟨hE, ?_, ?_⟩
 ·unfold Con.runS
  rw [hE]
  split
  ·rw [← e]; exact h1
  ·rfl
 ·unfold Con.runS
  split
  ·exact h2
  ·intro x hx; cases hx
end
end Go.Proofs.YtginnonjdbpamaaGreatDoor
