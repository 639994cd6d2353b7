/- Contracts of functions and plain laws, joined: Fb4, Pk, Kb2, Kb3. -/
import Derived.Test.YtemkghgcdpmlbaaDoorMb5
import Derived.Test.YtemkghgcdpmlbaaDoorMb3
import Derived.Deep.MidRow
/- The walks of file.place, file.ofRef at increasing facts, place at increasing orders, file.validFact. -/
namespace Go.Proofs.YtemkghgcdpmlbaaDoor
open Go.RowKit Go.Sort

theorem pw_at {α : Type} {R : α → α → Prop} {l : List α} (h : l.Pairwise R) {q d : Nat} {x x' : α} (hq : q < d) (hx : l[q]? = some x) (hx' : l[d]? = some x') : R x x' := by
  obtain ⟨h1, e1⟩ := List.getElem?_eq_some_iff.1 hx
  obtain ⟨h2, e2⟩ := List.getElem?_eq_some_iff.1 hx'
  have := List.pairwise_iff_getElem.1 h q d h1 h2 hq
  rw [e1, e2] at this
  exact this
theorem any_ref (l : List Fac) (r : Int) : (l.any fun x => cmpI x.ref r == 0) = hasRef l r := by
  unfold hasRef
  congr 1
  funext x
  rw [Bool.eq_iff_iff]
  simp [cmpI_eq]
theorem any_ord (l : List (Int × Int)) (b : Int × Int) : (l.any fun x => cmpO x b == 0) = hasOrd l b := by
  unfold hasOrd
  congr 1
  funext x
  rw [Bool.eq_iff_iff]
  simp [cmpO_eq]
theorem tw_ref (l : List Fac) (r : Int) : (l.takeWhile fun x => decide (cmpI x.ref r < 0)).length = lbF l r := by
  unfold lbF
  congr 2
  funext x
  exact cmpI_lt
theorem tw_ord (l : List (Int × Int)) (b : Int × Int) : (l.takeWhile fun x => decide (cmpO x b < 0)).length = lbO l b := by
  unfold lbO
  congr 2
  funext x
  rw [Bool.eq_iff_iff]
  simp [cmpO_lt]
theorem mono_ref {l : List Fac} (h : l.Pairwise (fun x y => ltF x y = true)) (r : Int) (q d : Nat) (x x' : Fac) (hq : q ≤ d) (hx : l[q]? = some x) (hx' : l[d]? = some x') : (cmpI x'.ref r < 0 → cmpI x.ref r < 0) ∧ (0 < cmpI x.ref r → 0 < cmpI x'.ref r) := by
  have hle : x.ref ≤ x'.ref := by
    rcases Nat.lt_or_eq_of_le hq with h1 | h1
    · have := pw_at h h1 hx hx'
      unfold ltF at this; simp at this; omega
    · subst h1; rw [hx] at hx'; cases hx'; omega
  unfold cmpI
  constructor
  · split <;> (try split) <;> (try split) <;> (try split) <;> omega
  · split <;> (try split) <;> (try split) <;> (try split) <;> omega
theorem mono_ord {l : List (Int × Int)} (h : l.Pairwise (fun x y => ltO x y = true)) (b : Int × Int) (q d : Nat) (x x' : Int × Int) (hq : q ≤ d) (hx : l[q]? = some x) (hx' : l[d]? = some x') : (cmpO x' b < 0 → cmpO x b < 0) ∧ (0 < cmpO x b → 0 < cmpO x' b) := by
  have hle : x = x' ∨ ltO x x' = true := by
    rcases Nat.lt_or_eq_of_le hq with h1 | h1
    · exact .inr (pw_at h h1 hx hx')
    · subst h1; rw [hx] at hx'; cases hx'; exact .inl rfl
  rcases hle with rfl | hle
  · exact ⟨id, id⟩
  · constructor
    · intro h1
      exact cmpO_lt.2 (ltO_trans _ _ _ hle (cmpO_lt.1 h1))
    · intro h1
      rcases Int.lt_or_le 0 (cmpO x' b) with h2 | h2
      · exact h2
      · exfalso
        rcases Int.lt_or_eq_of_le h2 with h3 | h3
        · have := cmpO_lt.2 (ltO_trans _ _ _ hle (cmpO_lt.1 h3)); omega
        · have e := cmpO_eq.1 h3
          subst e
          have := cmpO_lt.2 hle; omega
set_option maxHeartbeats 1600000 in
theorem placeF_any (A : Option Addr) (c : Nat) (l : List Fac) (r : Int) (h : Nat) (w : World) (hl : l.length ≤ 1000000) (hs : Seg w w.heap.size 6 eF A l) (hp : l.Pairwise (fun x y => ltF x y = true)) (hh : Blk w h 3 #[.int .i64 r]) :
    Calls Tryd.prog 39 #[.slice A l.length c, .func (.func 40) #[] #[.pointer (some ⟨h, 0, none⟩)]] w fun e w' => e = .returned (.tuple #[.int .i64 (lbF l r : Nat), .bool (hasRef l r)]) ∧ Below w.heap.size w w' := by
  have HB := Lib.hid (fun (g : Nat) W (hb : Below w.heap.size w W) (hg : Blk W g 90 #[.func (.func 40) #[] #[.pointer (some ⟨h, 0, none⟩)]]) => bsfF_any A c l (fun x => cmpI x.ref r) h g r W hl ((hs.below hb).more hb.size) hg (hh.then_ hb) (fun _ => rfl) (fun q d x x' h1 h2 h3 => (mono_ref hp r q d x x' h1 h2 h3).1) (fun q d x x' h1 h2 h3 => (mono_ref hp r q d x x' h1 h2 h3).2))
  simp only [any_ref, tw_ref] at HB
  obtain ⟨N, eN⟩ : ∃ N : Nat, lbF l r = N := ⟨_, rfl⟩
  obtain ⟨R, eR⟩ : ∃ R, hasRef l r = R := ⟨_, rfl⟩
  rw [eN, eR] at HB ⊢
  clear hs hp hh eN eR
  go_enter Tryd.func39, Tryd.ntmps39
  go_wp2_with (go_at_call 54; (with_reducible refine (HB.out _ _ (wa1 _ _) (Blk.new _ _ _)).mono ?_); rintro e w1 ⟨rfl, hb1⟩)
  go_ret2
  exact ⟨rfl, below_then (wa1 _ _) hb1⟩
set_option maxHeartbeats 1600000 in
theorem placeO_any (A : Option Addr) (c : Nat) (l : List (Int × Int)) (b : Int × Int) (h : Nat) (w : World) (hl : l.length ≤ 1000000) (hs : Seg w w.heap.size 2 eS A l) (hp : l.Pairwise (fun x y => ltO x y = true)) (hh : Blk w h 35 (bA b)) :
    Calls Tryd.prog 27 #[.slice A l.length c, .func (.func 28) #[] #[.pointer (some ⟨h, 0, none⟩)]] w fun e w' => e = .returned (.tuple #[.int .i64 (lbO l b : Nat), .bool (hasOrd l b)]) ∧ Below w.heap.size w w' := by
  have HB := Lib.hid (fun (g : Nat) W (hb : Below w.heap.size w W) (hg : Blk W g 70 #[.func (.func 28) #[] #[.pointer (some ⟨h, 0, none⟩)]]) => bsfO_any A c l (fun x => cmpO x b) h g b W hl ((hs.below hb).more hb.size) hg (hh.then_ hb) (fun _ => rfl) (fun q d x x' h1 h2 h3 => (mono_ord hp b q d x x' h1 h2 h3).1) (fun q d x x' h1 h2 h3 => (mono_ord hp b q d x x' h1 h2 h3).2))
  simp only [any_ord, tw_ord] at HB
  obtain ⟨N, eN⟩ : ∃ N : Nat, lbO l b = N := ⟨_, rfl⟩
  obtain ⟨R, eR⟩ : ∃ R, hasOrd l b = R := ⟨_, rfl⟩
  rw [eN, eR] at HB ⊢
  clear hs hp hh eN eR
  go_enter Tryd.func27, Tryd.ntmps27
  go_wp2_with (go_at_call 43; (with_reducible refine (HB.out _ _ (wa1 _ _) (Blk.new _ _ _)).mono ?_); rintro e w1 ⟨rfl, hb1⟩)
  go_ret2
  exact ⟨rfl, below_then (wa1 _ _) hb1⟩
set_option maxHeartbeats 1600000 in
theorem ref_any (A : Option Addr) (c : Nat) (l : List Fac) (r : Int) (w : World) (hl : l.length ≤ 1000000) (hs : Seg w w.heap.size 6 eF A l) (hp : l.Pairwise (fun x y => ltF x y = true)) :
    Calls Tryd.prog 24 #[.slice A l.length c, .int .i64 r] w fun e w' => e = .returned (.tuple #[.int .i64 (lbF l r : Nat), .bool (hasRef l r)]) ∧ Below w.heap.size w w' := by
  have HP := Lib.hid (fun (h : Nat) W (hb : Below w.heap.size w W) (hh : Blk W h 3 #[.int .i64 r]) => placeF_any A c l r h W hl ((hs.below hb).more hb.size) hp hh)
  obtain ⟨N, eN⟩ : ∃ N : Nat, lbF l r = N := ⟨_, rfl⟩
  obtain ⟨R, eR⟩ : ∃ R, hasRef l r = R := ⟨_, rfl⟩
  rw [eN, eR] at HP ⊢
  clear hs hp eN eR
  go_enter Tryd.func24, Tryd.ntmps24
  go_wp2_with (go_at_call 39; (with_reducible refine (HP.out _ _ (wa1 _ _) (Blk.new _ _ _)).mono ?_); rintro e w1 ⟨rfl, hb1⟩)
  go_ret2
  exact ⟨rfl, below_then (wa1 _ _) hb1⟩
set_option maxRecDepth 100000 in
set_option maxHeartbeats 3200000 in
theorem vfact_any (c : Con) (m : Cm) (x : Fac) (w : World) (_hn : c.ac.length ≤ 1000000) :
    Calls Tryd.prog 23 #[.agg (coA c m), .agg (fA x)] w fun e w' => e = .returned (.bool (c.facOk x)) ∧ Below w.heap.size w w' := by
  obtain ⟨R, hR⟩ : ∃ R, c.facOk x = R := ⟨_, rfl⟩
  rw [hR]
  obtain ⟨e0, E0⟩ : ∃ b, decide (1 ≤ x.ref) = b := ⟨_, rfl⟩
  obtain ⟨e1, E1⟩ : ∃ b, decide (x.ref ≤ 1000000) = b := ⟨_, rfl⟩
  obtain ⟨e2, E2⟩ : ∃ b, decide (0 ≤ x.act) = b := ⟨_, rfl⟩
  obtain ⟨e3, E3⟩ : ∃ b, decide (x.act < (c.ac.length : Int)) = b := ⟨_, rfl⟩
  obtain ⟨e4, E4⟩ : ∃ b, decide (0 ≤ x.low) = b := ⟨_, rfl⟩
  obtain ⟨e5, E5⟩ : ∃ b, decide (x.low ≤ x.high) = b := ⟨_, rfl⟩
  obtain ⟨e6, E6⟩ : ∃ b, decide (x.high < c.days) = b := ⟨_, rfl⟩
  obtain ⟨e7, E7⟩ : ∃ b, decide (0 ≤ x.filed) = b := ⟨_, rfl⟩
  obtain ⟨e8, E8⟩ : ∃ b, decide (x.filed ≤ c.days) = b := ⟨_, rfl⟩
  have HR : Hid (R = (e0 && e1 && e2 && e3 && e4 && e5 && e6 && e7 && e8)) := by
    unfold Hid
    rw [← hR, ← E0, ← E1, ← E2, ← E3, ← E4, ← E5, ← E6, ← E7, ← E8]
    rfl
  clear hR
  go_enter Tryd.func23, Tryd.ntmps23
  go_upto_region 1 with (fail)
  refine name_wp ?_
  intro X hX
  have ga : Blk X w.heap.size 27 (coA c m) := by rw [hX]; exact (blk_at (by simp)).alloc _
  have gx : Blk X (w.heap.size + 1) 33 (fA x) := by rw [hX]; exact blk_at (by simp)
  have HB : Hid (Below w.heap.size w X) := by unfold Hid; rw [hX]; (repeat (first | with_reducible assumption | with_reducible exact Below.refl _ _ | with_reducible refine below_drewN ?_ _ | with_reducible refine Below.drew ?_ | with_reducible refine below_alloc ?_ _ | with_reducible refine Below.setCell ?_ (by first | omega | (simp; done) | (simp; omega)) _ | with_reducible refine below_then ?_ (by with_reducible assumption) | (refine below_then (a := World.drew _) ?_ (by with_reducible assumption))))
  obtain ⟨bx, ebx⟩ : ∃ b, w.heap.size + 1 = b := ⟨_, rfl⟩
  obtain ⟨ba, eba⟩ : ∃ b, w.heap.size = b := ⟨_, rfl⟩
  rw [ebx] at gx ⊢
  rw [eba] at ga ⊢
  clear hX eba ebx
  have k3 : X.cell? ⟨ba, 3, none⟩ = some (.slice m.a c.ac.length m.ac) := ga.cell 3
  have k5 : X.cell? ⟨ba, 5, none⟩ = some (.int .i64 c.days) := ga.cell 5
  have f0 : X.cell? ⟨bx, 0, none⟩ = some (.int .i64 x.ref) := gx.cell 0
  have f1 : X.cell? ⟨bx, 1, none⟩ = some (.int .i64 x.act) := gx.cell 1
  have f2 : X.cell? ⟨bx, 2, none⟩ = some (.int .i64 x.low) := gx.cell 2
  have f3 : X.cell? ⟨bx, 3, none⟩ = some (.int .i64 x.high) := gx.cell 3
  have f4 : X.cell? ⟨bx, 4, none⟩ = some (.int .i64 x.filed) := gx.cell 4
  go_wp2
  all_goals (go_ret; exact ⟨ret_bool (by rw [HR.out]; simp_all), HB.out⟩)
end Go.Proofs.YtemkghgcdpmlbaaDoor
/- One walked step for 'x := l[i]' at a struct: the load, the new variable, the store. No cell is opened. -/
namespace Go.Proofs.YtemkghgcdpmlbaaDoor
open Go.RowKit

/-- a struct type of n cells, for a load and a new variable -/
structure ElT (P : Program) (ty : TypeId) (n : Nat) : Prop where
  u : ∃ fs, P.underlying ty = some (.struct fs)
  i : (P.info? ty).map (·.size) = some n
  z : ∃ v : Value, v.cells.size = n ∧ ∀ w : World, (zeroValue ty).run P w = .ok v w
theorem setCells_new (w : World) (t : TypeId) : ∀ (vs pre rest : List Value), rest.length = vs.length → (w.alloc (.cells (pre ++ rest).toArray t)).setCells w.heap.size pre.length vs = w.alloc (.cells (pre ++ vs).toArray t)
  | [], pre, rest, h => by
    obtain rfl : rest = [] := List.eq_nil_of_length_eq_zero h
    rfl
  | v :: vs, pre, rest, h => by
    cases rest with
    | nil => simp at h
    | cons r rest =>
      have h2 := setCells_new w t vs (pre ++ [v]) rest (by simpa using h)
      simp only [World.setCells]
      rw [World.setCell_alloc_at _ _ _ _ _ rfl]
      simp only [List.length_append, List.length_cons, List.length_nil, Nat.zero_add, List.append_assoc, List.cons_append, List.nil_append] at h2
      rw [show ((pre ++ r :: rest).toArray.setIfInBounds pre.length v) = (pre ++ v :: rest).toArray by simp]
      exact h2
theorem setCells_new0 (w : World) (t : TypeId) (c : Array Value) (vs : List Value) (h : c.size = vs.length) : (w.alloc (.cells c t)).setCells w.heap.size 0 vs = w.alloc (.cells vs.toArray t) := by
  have := setCells_new w t vs [] c.toList (by simpa using h)
  simpa using this
/-- x := l[i] at a struct: load, alloc, store -/
theorem wpList_elem {P : Program} {ops : Array Oper} {rest : List Oper} {o1 o2 o3 : Oper} {a : Act} {w : World} {Q : Exit → Act → World → Prop} {n : Nat} (ty : TypeId) (E : ElT P ty n) (x : Operand) (d1 d2 : Tmp)
    (g1 : o1.guard = none) (g2 : o2.guard = none) (g3 : o3.guard = none)
    (ho1 : o1.op = .load ty x) (hd1 : o1.dst = some d1) (ho2 : o2.op = .alloc ty) (hd2 : o2.dst = some d2) (ho3 : o3.op = .store ty (.tmp d2) (.tmp d1)) (hd3 : o3.dst = none)
    (b o : Nat) (hx : a.eval x = .pointer (some ⟨b, o, none⟩)) (cs : List Value) (hn : cs.length = n) (hc : w.rangeAt b o cs) (h1 : ∀ v ∈ cs, v.oneCell' = true) (hne : d1 ≠ d2) (s1 : d1 < a.tmps.size) (s2 : d2 < a.tmps.size)
    (h : wpList P ops Q rest ((a.put (some d1) (.agg cs.toArray)).put (some d2) (.pointer (some ⟨w.heap.size, 0, none⟩))) (w.alloc (.cells cs.toArray ty))) : wpList P ops Q (o1 :: o2 :: o3 :: rest) a w := by
  subst hn
  obtain ⟨⟨fs, hu⟩, hi, v, hz, hzr⟩ := E
  refine wpList_load_mid g1 ty x ho1 b o hx cs _ hc hu rfl hi ?_
  rw [hd1]
  refine wpList_plain g2 fun K hK => ?_
  have hrun : (execOp (Act.eval (a.put (some d1) (.agg cs.toArray))) o2).run P w = .ok (.value (.pointer (some ⟨w.heap.size, 0, none⟩))) (w.alloc (.cells v.cells ty)) := by
    unfold execOp
    simp only [ho2, Instr.alloc, Sem.run_bind, hzr, Result.andThen_ok, newVar, newRow]
    rfl
  unfold Oper.wp
  rw [hrun, Oper.upon_value]
  refine hK _ _ ?_
  rw [hd2]
  refine wpList_store_mid g3 ty _ _ ho3 w.heap.size 0 cs.toArray ?_ ?_ ?_ (by simpa using hi) (all_oneCell_toArray h1) ?_
  · simp [Act.eval, Act.put, s2]
  · simp [Act.eval, Act.put, Array.getD_eq_getD_getElem?, hne.symm, s1]
  · intro j hj
    simp only [Nat.zero_add, List.size_toArray] at hj ⊢
    rw [World.cell?_alloc_at _ _ _ _ rfl, World.frozen?_alloc_at _ _ _ _ rfl]
    simp [hz, hj]
  · rw [hd3]
    simp only
    rw [setCells_new0 w ty _ cs hz]
    exact h
section
variable {P : Program} {ops : Array Oper} {Q : Exit → Act → World → Prop} {a : Act} {w : World} {rest : List Oper} {o : Oper}
/-- an operation whose guard lets it run -/
theorem wpList_wanted (hw : Region.wanted o (yielded ops a.tmps) = true)
    (h : ∀ K : Act → World → Prop, (∀ a w, wpList P ops Q rest a w → K a w) → o.wp P a w K Q) : wpList P ops Q (o :: rest) a w :=
  wpList_step fun K hK => by simp only [hw, if_true]; exact h K hK
/-- a guarded load of a whole block -/
theorem wpList_row_w (hw : Region.wanted o (yielded ops a.tmps) = true) (ty : TypeId) (x : Operand) (ho : o.op = .load ty x) (g : Nat) (hx : a.eval x = .pointer (some ⟨g, 0, none⟩)) (t : TypeId) (cs : Array Value) (hg : Blk w g t cs)
    (hu : ∃ fs, P.underlying ty = some (.struct fs)) (hi : (P.info? ty).map (·.size) = some cs.size)
    (h : wpList P ops Q rest (a.put o.dst (.agg cs)) w) : wpList P ops Q (o :: rest) a w := by
  obtain ⟨fs, hu⟩ := hu
  exact wpList_wanted hw fun K hK => wp_load_row ty x ho g hx t cs (0, 0) _ hg hu rfl hi (hK _ _ h)
end
end Go.Proofs.YtemkghgcdpmlbaaDoor
/- The walks of contract.movable, none, positive, natural and of isIndex on a table of units. -/
namespace Go.Proofs.YtemkghgcdpmlbaaDoor
open Go.RowKit

theorem mov_any (c : Con) (m : Cm) (r : Int) (w : World) : Calls Tryd.prog 64 #[.agg (coA c m), .int .i64 r] w fun e w' => e = .returned (.bool (c.mov r)) ∧ Below w.heap.size w w' := by
  go_enter Tryd.func64, Tryd.ntmps64
  go_wp2
  all_goals go_ret
  all_goals exact ⟨ret_bool (by first | (simp_all [Con.mov, isI]; done) | (simp_all [Con.mov, isI]; omega)), wa1 _ _⟩
theorem isIx_any (t : List Uni) (A : Option Addr) (cap : Nat) (i : Int) (w : World) : Calls Tryd.prog 82 #[.slice A t.length cap, .int .i64 i] w fun e w' => e = .returned (.bool (isI i t.length)) ∧ w' = w := by
  go_enter Tryd.func82, Tryd.ntmps82
  go_wp2
  all_goals go_ret
  all_goals exact ⟨ret_bool (by first | (simp_all [isI]; done) | (simp_all [isI]; omega)), rfl⟩
theorem none_any (w : World) : Calls Tryd.prog 62 #[] w fun e w' => e = .returned (.agg #[.int .i64 0, .int .i64 1]) ∧ Below w.heap.size w w' := by
  go_enter Tryd.func62, Tryd.ntmps62
  go_wp2
  refine bodyPost_ret (by simp [results, Tryd.results62, go_sem, *]; rfl) rfl ⟨?_, ?_⟩
  · rfl
  · (repeat (first | exact Below.refl _ _ | refine below_drewN ?_ _ | refine Below.drew ?_ | refine below_alloc ?_ _ | refine Below.setCell ?_ (by first | omega | (simp; done) | (simp; omega)) _ | refine below_then ?_ (by assumption)))
theorem pos_any (a b : Int) (w : World) (ha : I64 a) (hb : I64 b) : Calls Tryd.prog 63 #[.agg #[.int .i64 a, .int .i64 b]] w fun e w' => e = .returned (.bool (psv (a, b))) ∧ Below w.heap.size w w' := by
  have HV := Lib.hid (fun W => valid_any a b W ha.1 ha.2 hb.1 hb.2)
  clear ha hb
  by_cases h : 0 < a
  · have t1 := decide_eq_true h
    have hp : Hid (psv (a, b) = vld a b) := by unfold Hid psv; rw [t1]; rfl
    clear h
    go_enter Tryd.func63, Tryd.ntmps63
    go_wp2_with (go_at_call 73; refine (HV.out _).mono ?_; rintro e w1 ⟨rfl, hb⟩; obtain ⟨hc, hf⟩ := bcell hb; have hz := hb.size; (try simp at hz); (have zl0 : w.heap.size < w1.heap.size := by omega); (have ze0 : w.heap.size ≤ w1.heap.size := by omega))
    go_ret
    exact ⟨ret_bool hp.out.symm, by (repeat (first | exact Below.refl _ _ | refine below_drewN ?_ _ | refine Below.drew ?_ | refine below_alloc ?_ _ | refine Below.setCell ?_ (by first | omega | (simp; done) | (simp; omega)) _ | refine below_then ?_ (by assumption)))⟩
  · have t1 := decide_eq_false h
    have hp : Hid (psv (a, b) = false) := by unfold Hid psv; rw [t1]; rfl
    clear h
    go_enter Tryd.func63, Tryd.ntmps63
    go_wp2
    go_ret
    exact ⟨ret_bool hp.out.symm, by (repeat (first | exact Below.refl _ _ | refine below_drewN ?_ _ | refine Below.drew ?_ | refine below_alloc ?_ _ | refine Below.setCell ?_ (by first | omega | (simp; done) | (simp; omega)) _ | refine below_then ?_ (by assumption)))⟩
set_option maxRecDepth 100000 in
theorem nat_any (c : Con) (m : Cm) (a : Int) (w : World) (hs : Seg w w.heap.size 7 eA m.a c.ac) : Calls Tryd.prog 61 #[.agg (coA c m), .int .i64 a] w fun e w' => e = .returned (.bool (c.nat a)) ∧ Below w.heap.size w w' := by
  by_cases hi : isI a c.ac.length = true
  · obtain ⟨h1, h2⟩ := isI_iff.1 hi
    obtain ⟨k, rfl⟩ := Int.eq_ofNat_of_zero_le h1
    have hk : k < c.ac.length := by omega
    have hx := List.getElem?_eq_getElem hk
    obtain ⟨x, ex⟩ : ∃ x, c.ac[k] = x := ⟨_, rfl⟩
    rw [ex] at hx
    obtain ⟨b, off, eA', hb, hc⟩ := segAt hs hx
    have d1 : (w.alloc (.cells (coA c m) 27)).cell? ⟨b, off + k * 7, none⟩ = some (.int .i64 x.kind) := ((wa1 w _).cell (p := ⟨b, off + k * 7, none⟩) hb).trans (hc 0 _ rfl)
    have d2 : (w.alloc (.cells (coA c m) 27)).cell? ⟨b, off + k * 7 + 1, none⟩ = some (.int .i64 x.role) := ((wa1 w _).cell (p := ⟨b, off + k * 7 + 1, none⟩) hb).trans (hc 1 _ rfl)
    have HR : Hid (c.nat k = (x.kind == 1 && x.role == -1)) := by
      unfold Hid Con.nat
      rw [hi]
      simp only [Int.toNat_natCast, hx, Bool.true_and]
    have t1 : decide ((0 : Int) ≤ (k : Int)) = true := decide_eq_true (by omega)
    have t2 : decide ((k : Int) < (c.ac.length : Int)) = true := decide_eq_true (by omega)
    clear hc ex hx hs hi h1 h2
    go_enter Tryd.func61, Tryd.ntmps61
    go_wp2
    all_goals go_ret
    all_goals exact ⟨ret_bool (by rw [HR.out]; simp_all), wa1 _ _⟩
  · have HR : Hid (c.nat a = false) := by
      unfold Hid Con.nat
      rw [Bool.eq_false_iff.2 hi]; rfl
    have hno : a < 0 ∨ (0 ≤ a ∧ ¬ a < c.ac.length) := by
      rcases Int.lt_or_le a 0 with h | h
      · exact .inl h
      · exact .inr ⟨h, fun h2 => hi (isI_iff.2 ⟨h, h2⟩)⟩
    clear hi hs
    rcases hno with h | ⟨h, h2⟩
    · have t1 : decide (0 ≤ a) = false := decide_eq_false (by omega)
      clear h
      go_enter Tryd.func61, Tryd.ntmps61
      go_wp2
      go_ret
      exact ⟨ret_bool HR.out.symm, wa1 _ _⟩
    · have t1 := decide_eq_true h
      have t2 := decide_eq_false h2
      clear h h2
      go_enter Tryd.func61, Tryd.ntmps61
      go_wp2
      go_ret
      exact ⟨ret_bool HR.out.symm, wa1 _ _⟩
end Go.Proofs.YtemkghgcdpmlbaaDoor
/- The walk of contract.validKind. -/
namespace Go.Proofs.YtemkghgcdpmlbaaDoor
open Go.RowKit

abbrev kA (x : Km) : Array Value := #[.int .i64 x.k.kind, .int .i64 x.k.role, .int .i64 x.k.act, .int .i64 x.k.need, .slice x.A x.k.start.length x.cap, .int .i64 x.k.aft, .int .i64 x.k.grace, .bool x.k.bus, .bool x.k.fin, .int .i64 x.k.pause, .int .i64 x.k.resume, .int .i64 x.k.v.1, .int .i64 x.k.v.2, .int .i64 x.k.unit, .int .i64 x.k.to_, .bool x.k.waived]
set_option maxRecDepth 100000 in
set_option maxHeartbeats 3200000 in
theorem kind_key (c : Con) (m : Cm) (x : Km) (mv nt : Bool) (w : World) (HM : Hid (∀ W, Calls Tryd.prog 64 #[.agg (coA c m), .int .i64 x.k.role] W fun e w' => e = .returned (.bool mv) ∧ Below W.heap.size W w')) (HN : Hid (∀ W, Below w.heap.size w W → Calls Tryd.prog 61 #[.agg (coA c m), .int .i64 x.k.act] W fun e w' => e = .returned (.bool nt) ∧ Below W.heap.size W w'))
    (R : Bool) (hR : Hid (R = if x.k.kind == 4 then x.k.role == -1 && x.k.need == 1 && x.k.grace == 0 && !x.k.fin else mv && !nt && (
      if x.k.kind == 1 then decide (1 ≤ x.k.need) && decide (x.k.need ≤ 9) && decide (0 ≤ x.k.grace) && decide (x.k.grace ≤ 400)
      else if x.k.kind == 2 then x.k.need == 1 && x.k.grace == 0
      else x.k.kind == 3 && x.k.need == 1 && x.k.grace == 0 && !x.k.fin))) :
    Calls Tryd.prog 60 #[.agg (coA c m), .agg (kA x)] w fun e w' => e = .returned (.bool R) ∧ Below w.heap.size w w' := by
  cases mv <;> cases nt
  all_goals
    go_enter Tryd.func60, Tryd.ntmps60
    go_wp2_with (first | (go_at_call 64; refine (HM.out _).mono ?_; rintro e w1 ⟨rfl, hb⟩; obtain ⟨hc, hf⟩ := bcell hb; have hz := hb.size; (try simp at hz); (have zl0 : w.heap.size < w1.heap.size := by omega); (have ze0 : w.heap.size ≤ w1.heap.size := by omega); (have zl1 : w.heap.size + 1 < w1.heap.size := by omega); (have ze1 : w.heap.size + 1 ≤ w1.heap.size := by omega)) | (go_at_call 61; refine (HN.out _ (by (repeat (first | exact Below.refl _ _ | refine below_drewN ?_ _ | refine Below.drew ?_ | refine below_alloc ?_ _ | refine Below.setCell ?_ (by first | omega | (simp; done) | (simp; omega)) _ | refine below_then ?_ (by assumption))))).mono ?_; rintro e w1 ⟨rfl, hb⟩; obtain ⟨hc, hf⟩ := bcell hb; have hz := hb.size; (try simp at hz); (have zl0 : w.heap.size < w1.heap.size := by omega); (have ze0 : w.heap.size ≤ w1.heap.size := by omega); (have zl1 : w.heap.size + 1 < w1.heap.size := by omega); (have ze1 : w.heap.size + 1 ≤ w1.heap.size := by omega)))
    all_goals go_ret
    all_goals exact ⟨ret_bool (by rw [hR.out]; first | (simp_all; done) | (simp_all; omega)), by (repeat (first | exact Below.refl _ _ | refine below_drewN ?_ _ | refine Below.drew ?_ | refine below_alloc ?_ _ | refine Below.setCell ?_ (by first | omega | (simp; done) | (simp; omega)) _ | refine below_then ?_ (by assumption)))⟩
end Go.Proofs.YtemkghgcdpmlbaaDoor
