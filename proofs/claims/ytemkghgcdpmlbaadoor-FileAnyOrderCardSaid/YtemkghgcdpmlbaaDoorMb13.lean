/- Contracts of functions and plain laws, joined: Cpy, Fb6, Apn, Fb7, Pk3. -/
import Derived.Test.YtemkghgcdpmlbaaDoorMb12
import Derived.Laws.AppendOwnNone
import Derived.Lib.AppendZerosOnto
import Derived.Test.YtemkghgcdpmlbaaDoorMb4
import Derived.Test.YtemkghgcdpmlbaaDoorMb6
/- One walked step for 'append([]T{}, l...)': the list copied whole into a block of its own. Elements of a slice of the call's own read and stored. -/
namespace Go.Proofs.YtemkghgcdpmlbaaDoor
open Go.RowKit

theorem flat_len {α : Type} {enc : α → List Value} {size : Nat} (he : ∀ x, (enc x).length = size) (l : List α) : (l.flatMap enc).length = l.length * size := by
  induction l with
  | nil => simp
  | cons a l ih => rw [List.flatMap_cons, List.length_append, ih, he, List.length_cons, Nat.succ_mul]; omega
theorem src_cells {α : Type} {enc : α → List Value} {size : Nat} (he : ∀ x, (enc x).length = size) (h0 : 0 < size) {w : World} {B : Nat} {A : Addr} {l : List α} (h : Seg w B size enc (some A) l) : ∀ j u, (l.flatMap enc)[j]? = some u → w.cell? (A.add j) = some u := by
  intro j u hu
  have hj := (List.getElem?_eq_some_iff.1 hu).1
  rw [flat_len he] at hj
  have hk : j / size < l.length := Nat.div_lt_of_lt_mul (by rw [Nat.mul_comm]; exact hj)
  obtain ⟨x, hx⟩ : ∃ x, l[j / size]? = some x := ⟨_, List.getElem?_eq_getElem hk⟩
  obtain ⟨b, off, e, hl, hc⟩ := h _ x hx
  cases e
  have hr : j % size < size := Nat.mod_lt _ h0
  have e1 : j / size * size + j % size = j := by rw [Nat.mul_comm]; exact Nat.div_add_mod j size
  have e2 := getElem?_flatMap (enc := enc) he l (j / size) (j % size) x hx hr
  rw [e1, hu] at e2
  have h4 := hc (j % size) u e2.symm
  rw [Nat.add_assoc, e1] at h4
  unfold Addr.add
  split
  · rename_i hz; subst hz; simpa using h4
  · exact h4
theorem wpList_copy {P : Program} {α : Type} {w : World} {ops : Array Oper} {rest : List Oper} {o : Oper} {a : Act} {Q : Exit → Act → World → Prop} (hgd : o.guard = none) (s x : Operand) (t : TypeId)
    (ho : o.op = .call { callee := .builtin .append, args := #[s, x], argTypes := #[t, t] })
    (B : Nat) (e : TypeId) (i : TypeInfo) (z : Value) (size bytes : Nat) (ht : P.underlying t = some (.slice e)) (hi : P.info? e = some i) (hz : i.zero = some z)
    (hsize : i.size = size) (hby : i.bytes = bytes) (hzs : z.cells.size = size) (hsz : 0 < size) (hb1 : bytes ≤ 100000)
    (enc : α → List Value) (he : ∀ y, (enc y).length = size) (h1 : ∀ y, ∀ u ∈ enc y, u.oneCell' = true)
    (g : Nat) (hs : a.eval s = .slice (some ⟨g, 0, none⟩) 0 0) (hg : Blk w g e #[]) (hB : B ≤ g)
    (A : Option Addr) (l : List α) (c n : Nat) (hx : a.eval x = .slice A n c) (hn : n = l.length) (hl : l.length ≤ 1000000) (C : Nat) (hsrc : Seg w C size enc A l) (hnil : A = none → l = [] ∧ c = 0)
    (h : ∀ g' c' w', Own w' B e size enc (.slice (some ⟨g', 0, none⟩) l.length c') l → Below B w w' → B ≤ g' ∧ g' < w'.heap.size → wpList P ops Q rest (a.put o.dst (.slice (some ⟨g', 0, none⟩) l.length c')) w') : wpList P ops Q (o :: rest) a w := by
  subst hn
  have hO : w.ownsRow B e size (.slice (some ⟨g, 0, none⟩) 0 0) 0 [] := ⟨by simp, .inr ⟨g, 0, #[], rfl, hB, hg, Nat.le_refl _, by simp, by simp, by simp⟩⟩
  have hBw : B ≤ w.heap.size := Nat.le_trans hB (Nat.le_of_lt hg.lt)
  cases A with
  | none =>
    obtain ⟨rfl, rfl⟩ := hnil rfl
    refine wpList_append_own_none hgd s x t ho B e i size ht hi _ 0 [] hs hO hx ?_
    exact h g 0 w (by simpa [Own] using hO) (Below.refl _ _) ⟨hB, hg.lt⟩
  | some A =>
    refine wpList_append_own w hgd s x t ho B e i z size bytes ht hi hz hsize hby hzs hsz _ 0 [] hs hO A l.length c (l.flatMap enc) hx (flat_len he l) (src_cells he hsz hsrc) ?_ (by unfold maxLen; omega) ?_ hBw ?_
    · intro u hu
      obtain ⟨y, _, hy⟩ := List.mem_flatMap.1 hu
      exact h1 y u hy
    · have : (0 + l.length) * bytes ≤ 1000000 * 100000 := Nat.mul_le_mul (by omega) hb1
      omega
    · intro v' w' h2 h3 h4
      have hO' : Own w' B e size enc v' l := by simpa [Own] using h2
      rcases hO'.2 with ⟨e1, _⟩ | ⟨g', c', cur, e1, hg', hh, _⟩
      · have := (h4.1 e1).1
        cases this
      · subst e1
        exact h g' c' w' hO' ((Below.refl B w).grown h3 hBw fun k hk => by cases hk; exact hB) ⟨hg', (Array.getElem?_eq_some_iff.1 hh).1⟩
theorem set_flat {α : Type} {enc : α → List Value} {size : Nat} (he : ∀ x, (enc x).length = size) {y : α} {j : Nat} {u : Value} : ∀ (xs : List α) (k : Nat) (x : α), xs[k]? = some x → enc y = (enc x).set j u → j < size → (xs.flatMap enc).set (k * size + j) u = (xs.set k y).flatMap enc
  | [], k, x, h, _, _ => by simp at h
  | z :: xs, 0, x, h, hy, hj => by
    simp at h; subst h
    have hz := he z
    simp only [List.flatMap_cons, List.set_cons_zero, Nat.zero_mul, Nat.zero_add, hy]
    rw [List.set_append_left _ _ (by omega)]
  | z :: xs, k + 1, x, h, hy, hj => by
    have ih := set_flat he xs k x (by simpa using h) hy hj
    simp only [List.flatMap_cons, List.set_cons_succ]
    rw [List.set_append_right _ _ (by rw [he, Nat.add_mul]; omega), he, show (k + 1) * size + j - size = k * size + j by rw [Nat.add_mul]; omega, ih]
section
variable {α : Type} {w : World} {B : Nat} {T : TypeId} {size : Nat} {enc : α → List Value} {xs : List α} {g n cap : Nat}
/-- one cell of an element stored -/
theorem Own.setAt (h : Own w B T size enc (.slice (some ⟨g, 0, none⟩) n cap) xs) (he : ∀ x, (enc x).length = size) (hn : xs.length = n) {k j : Nat} {x y : α} {u : Value} (hx : xs[k]? = some x) (hj : j < size) (hy : enc y = (enc x).set j u) :
    Own (w.setCell ⟨g, k * size + j, none⟩ u) B T size enc (.slice (some ⟨g, 0, none⟩) n cap) (xs.set k y) := by
  unfold Own at h ⊢
  rw [hn] at h
  have h1 := (World.ownsRow.stored h (k * size + j) u).1
  rw [List.length_set, hn, ← set_flat he xs k x hx hy hj]
  exact h1
theorem Own.getAt (h : Own w B T size enc (.slice (some ⟨g, 0, none⟩) n cap) xs) (he : ∀ x, (enc x).length = size) (hn : xs.length = n) {k j : Nat} {x : α} (hx : xs[k]? = some x) (hj : j < size) :
    w.cell? ⟨g, k * size + j, none⟩ = (enc x)[j]? ∧ w.frozen? ⟨g, k * size + j, none⟩ = false := by
  have hk : k < xs.length := (List.getElem?_eq_some_iff.1 hx).1
  unfold Own at h
  rw [hn] at h
  have h1 : k * size + j < n * size := by
    have : (k + 1) * size ≤ n * size := Nat.mul_le_mul_right _ (by omega)
    rw [Nat.add_mul] at this; omega
  have e1 := World.ownsRow.cellAt h (k * size + j) h1
  exact ⟨e1.trans (getElem?_flatMap he xs k j x hx hj), World.ownsRow.frozenAt h _⟩
/-- the block of a slice of the call's own that is not nil -/
theorem Own.blk {v : Value} (h : Own w B T size enc v xs) (hv : v ≠ .slice none 0 0) : ∃ g cap, v = .slice (some ⟨g, 0, none⟩) xs.length cap ∧ B ≤ g ∧ g < w.heap.size := by
  rcases h.2 with ⟨h1, hl⟩ | ⟨g, cap, cur, hv', hg, hh, _⟩
  · exact absurd h1 hv
  · exact ⟨g, cap, hv', hg, (Array.getElem?_eq_some_iff.1 hh).1⟩
end
end Go.Proofs.YtemkghgcdpmlbaaDoor
/- The walks of slices.Clone, slices.Grow and slices.Concat at facts and at orders. -/
namespace Go.Proofs.YtemkghgcdpmlbaaDoor
open Go.RowKit Go.Sort


set_option maxRecDepth 100000 in
set_option maxHeartbeats 1600000 in
theorem cloneFac (A : Option Addr) (c : Nat) (l : List Fac) (w : World) (hl : l.length ≤ 1000000) (hs : Seg w w.heap.size 6 eF A l) (hc : l.length ≤ c) :
    Calls Tryd.prog 30 #[.slice A l.length c] w fun e w' => (∃ v, e = .returned v ∧ Own w' w.heap.size 33 6 eF v l) ∧ Below w.heap.size w w' := by
  cases A with
  | none =>
    have h0 : l = [] := by
      rcases Nat.eq_zero_or_pos l.length with h | h
      · exact List.eq_nil_of_length_eq_zero h
      · obtain ⟨b, off, e, _⟩ := hs.some_ h
        cases e
    subst h0
    have heq : ∀ W : World, (binOp .eql 28 (.slice none 0 c) (.slice none 0 0)).run Tryd.prog W = .ok (.bool true) W := fun W => by kernel_rfl
    clear hs
    go_enter Tryd.func30, Tryd.ntmps30
    go_wp2
    go_ret
    exact ⟨⟨_, rfl, Own.nil _ _ _ _ _⟩, Below.refl _ _⟩
  | some A =>
    have HS := Lib.hid hs
    clear hs
    obtain ⟨ri, hi, hz0, hz1, hz2⟩ := info_parts (show (Tryd.prog.info? 33).map (fun i => (i.zero, i.size, i.bytes)) = some (some (.agg #[.int .i64 0, .int .i64 0, .int .i64 0, .int .i64 0, .int .i64 0, .bool false]), 6, 48) by kernel_rfl)
    have heq : ∀ W : World, (binOp .eql 28 (.slice (some A) l.length c) (.slice none 0 0)).run Tryd.prog W = .ok (.bool false) W := fun W => by kernel_rfl
    go_enter Tryd.func30, Tryd.ntmps30
    go_upto_region 3 with (fail)
    go_wp2_with (at_builtin; go_loud (refine wpList_copy rfl (.tmp 5) (.tmp 6) _ rfl w.heap.size 33 ri _ 6 48 Tryd.underlying28 hi hz0 hz1 hz2 rfl (by omega) (by omega) eF eF_len one_fac w.heap.size rfl (Blk.new _ _ _) (Nat.le_refl _) (some A) l c l.length rfl rfl hl w.heap.size (HS.out.below (wa1 _ _)) (fun h => by cases h) ?_); intro g' c' w1 hown hgrow hg)
    go_ret
    exact ⟨⟨_, rfl, hown⟩, (wa1 w (.cells #[] 33)).trans hgrow⟩
set_option maxRecDepth 100000 in
set_option maxHeartbeats 1600000 in
theorem growFac (n : Nat) (w : World) (h0 : 0 < n) (hn : n ≤ 1000000) :
    Calls Tryd.prog 42 #[.slice none 0 0, .int .i64 n] w fun e w' => (∃ v, e = .returned v ∧ Own w' w.heap.size 33 6 eF v []) ∧ Below w.heap.size w w' := by
  obtain ⟨ri, hi, hz0, hz1, hz2⟩ := info_parts (show (Tryd.prog.info? 33).map (fun i => (i.zero, i.size, i.bytes)) = some (some (.agg #[.int .i64 0, .int .i64 0, .int .i64 0, .int .i64 0, .int .i64 0, .bool false]), 6, 48) by kernel_rfl)
  have hrz : ∀ ty, (Builtin.append_ #[28, 3] ty #[.slice none 0 0, .int .i64 (n : Int)]).run Tryd.prog w =
      .ok (.slice (some ⟨w.heap.size, 0, none⟩) n (grownCap w n 0 33)) (w.drew.alloc (.cells (#[] ++ Builtin.zeroCells (Value.cells (.agg #[.int .i64 0, .int .i64 0, .int .i64 0, .int .i64 0, .int .i64 0, .bool false])) n ++ Builtin.zeroCells (Value.cells (.agg #[.int .i64 0, .int .i64 0, .int .i64 0, .int .i64 0, .int .i64 0, .bool false])) (grownCap w n 0 33 - n)) 33)) := fun ty => by
    have h := Lib.run_append_grow_zeros w 28 3 ty 33 ri (.agg #[.int .i64 0, .int .i64 0, .int .i64 0, .int .i64 0, .int .i64 0, .bool false]) .i64 .i64 Tryd.underlying28 Tryd.underlying3 hi hz0 none 0 0 [] (run_firstCells_none w.drew ri.size 0 0 0) n (by omega) (by rw [hz1]; omega) (by omega) (by omega)
      (by rw [hz2]; omega) (by rw [hz2]; exact growslice_fits (by omega) (by omega))
    rw [Nat.zero_add] at h
    exact h
  have hGn : n ≤ grownCap w n 0 33 := grownCap_ge w _ _ _
  have hG63 : grownCap w n 0 33 ≤ maxLen := grownCap_le_maxLen w n 0 33 (by unfold maxLen; omega)
  obtain ⟨G, hG⟩ : ∃ G, G = grownCap w n 0 33 := ⟨_, rfl⟩
  rw [← hG] at hrz hGn hG63
  clear hG
  have hM := hG63
  unfold maxLen at hG63
  obtain ⟨Z, hZ⟩ : ∃ Z, Z = (#[] ++ Builtin.zeroCells (Value.cells (.agg #[.int .i64 0, .int .i64 0, .int .i64 0, .int .i64 0, .int .i64 0, .bool false])) n ++ Builtin.zeroCells (Value.cells (.agg #[.int .i64 0, .int .i64 0, .int .i64 0, .int .i64 0, .int .i64 0, .bool false])) (G - n)) := ⟨_, rfl⟩
  have hZs : Z.size = G * 6 := by
    rw [hZ, Array.size_append, Array.size_append, size_zeroCells, size_zeroCells, show (Value.cells (.agg #[.int .i64 0, .int .i64 0, .int .i64 0, .int .i64 0, .int .i64 0, .bool false])).size = 6 from rfl]
    simp
    omega
  rw [← hZ] at hrz
  have HO : Hid (Own (w.alloc (.cells Z 33)).drew w.heap.size 33 6 eF (.slice (some ⟨w.heap.size, 0, none⟩) 0 G) [] ∧ Below w.heap.size w (w.alloc (.cells Z 33)).drew) :=
    ⟨⟨by simp, .inr ⟨w.heap.size, G, Z, rfl, Nat.le_refl _, Blk.new w _ _, Nat.zero_le _, hM, hZs, by simp⟩⟩, Below.drew (wa1 _ _)⟩
  clear hZ hZs
  clear hM
  have tn : decide ((n : Int) < 0) = false := decide_eq_false (by omega)
  go_enter Tryd.func42, Tryd.ntmps42
  go_wp2_with (at_builtin; refine Lib.wpList_append_run _ rfl _ _ _ _ rfl _ _ rfl rfl _ _ (hrz _) ?_)
  all_goals (go_ret; exact ⟨⟨_, rfl, HO.out.1⟩, HO.out.2⟩)

set_option maxRecDepth 100000 in
set_option maxHeartbeats 1600000 in
theorem cloneBef (A : Option Addr) (c : Nat) (l : List (Int × Int)) (w : World) (hl : l.length ≤ 1000000) (hs : Seg w w.heap.size 2 eS A l) (hc : l.length ≤ c) :
    Calls Tryd.prog 25 #[.slice A l.length c] w fun e w' => (∃ v, e = .returned v ∧ Own w' w.heap.size 35 2 eS v l) ∧ Below w.heap.size w w' := by
  cases A with
  | none =>
    have h0 : l = [] := by
      rcases Nat.eq_zero_or_pos l.length with h | h
      · exact List.eq_nil_of_length_eq_zero h
      · obtain ⟨b, off, e, _⟩ := hs.some_ h
        cases e
    subst h0
    have heq : ∀ W : World, (binOp .eql 29 (.slice none 0 c) (.slice none 0 0)).run Tryd.prog W = .ok (.bool true) W := fun W => by kernel_rfl
    clear hs
    go_enter Tryd.func25, Tryd.ntmps25
    go_wp2
    go_ret
    exact ⟨⟨_, rfl, Own.nil _ _ _ _ _⟩, Below.refl _ _⟩
  | some A =>
    have HS := Lib.hid hs
    clear hs
    obtain ⟨ri, hi, hz0, hz1, hz2⟩ := info_parts (show (Tryd.prog.info? 35).map (fun i => (i.zero, i.size, i.bytes)) = some (some (.agg #[.int .i64 0, .int .i64 0]), 2, 16) by kernel_rfl)
    have heq : ∀ W : World, (binOp .eql 29 (.slice (some A) l.length c) (.slice none 0 0)).run Tryd.prog W = .ok (.bool false) W := fun W => by kernel_rfl
    go_enter Tryd.func25, Tryd.ntmps25
    go_upto_region 3 with (fail)
    go_wp2_with (at_builtin; go_loud (refine wpList_copy rfl (.tmp 5) (.tmp 6) _ rfl w.heap.size 35 ri _ 2 16 Tryd.underlying29 hi hz0 hz1 hz2 rfl (by omega) (by omega) eS eS_len one_bef w.heap.size rfl (Blk.new _ _ _) (Nat.le_refl _) (some A) l c l.length rfl rfl hl w.heap.size (HS.out.below (wa1 _ _)) (fun h => by cases h) ?_); intro g' c' w1 hown hgrow hg)
    go_ret
    exact ⟨⟨_, rfl, hown⟩, (wa1 w (.cells #[] 35)).trans hgrow⟩
set_option maxRecDepth 100000 in
set_option maxHeartbeats 1600000 in
theorem growBef (n : Nat) (w : World) (h0 : 0 < n) (hn : n ≤ 1000000) :
    Calls Tryd.prog 46 #[.slice none 0 0, .int .i64 n] w fun e w' => (∃ v, e = .returned v ∧ Own w' w.heap.size 35 2 eS v []) ∧ Below w.heap.size w w' := by
  obtain ⟨ri, hi, hz0, hz1, hz2⟩ := info_parts (show (Tryd.prog.info? 35).map (fun i => (i.zero, i.size, i.bytes)) = some (some (.agg #[.int .i64 0, .int .i64 0]), 2, 16) by kernel_rfl)
  have hrz : ∀ ty, (Builtin.append_ #[29, 3] ty #[.slice none 0 0, .int .i64 (n : Int)]).run Tryd.prog w =
      .ok (.slice (some ⟨w.heap.size, 0, none⟩) n (grownCap w n 0 35)) (w.drew.alloc (.cells (#[] ++ Builtin.zeroCells (Value.cells (.agg #[.int .i64 0, .int .i64 0])) n ++ Builtin.zeroCells (Value.cells (.agg #[.int .i64 0, .int .i64 0])) (grownCap w n 0 35 - n)) 35)) := fun ty => by
    have h := Lib.run_append_grow_zeros w 29 3 ty 35 ri (.agg #[.int .i64 0, .int .i64 0]) .i64 .i64 Tryd.underlying29 Tryd.underlying3 hi hz0 none 0 0 [] (run_firstCells_none w.drew ri.size 0 0 0) n (by omega) (by rw [hz1]; omega) (by omega) (by omega)
      (by rw [hz2]; omega) (by rw [hz2]; exact growslice_fits (by omega) (by omega))
    rw [Nat.zero_add] at h
    exact h
  have hGn : n ≤ grownCap w n 0 35 := grownCap_ge w _ _ _
  have hG63 : grownCap w n 0 35 ≤ maxLen := grownCap_le_maxLen w n 0 35 (by unfold maxLen; omega)
  obtain ⟨G, hG⟩ : ∃ G, G = grownCap w n 0 35 := ⟨_, rfl⟩
  rw [← hG] at hrz hGn hG63
  clear hG
  have hM := hG63
  unfold maxLen at hG63
  obtain ⟨Z, hZ⟩ : ∃ Z, Z = (#[] ++ Builtin.zeroCells (Value.cells (.agg #[.int .i64 0, .int .i64 0])) n ++ Builtin.zeroCells (Value.cells (.agg #[.int .i64 0, .int .i64 0])) (G - n)) := ⟨_, rfl⟩
  have hZs : Z.size = G * 2 := by
    rw [hZ, Array.size_append, Array.size_append, size_zeroCells, size_zeroCells, show (Value.cells (.agg #[.int .i64 0, .int .i64 0])).size = 2 from rfl]
    simp
    omega
  rw [← hZ] at hrz
  have HO : Hid (Own (w.alloc (.cells Z 35)).drew w.heap.size 35 2 eS (.slice (some ⟨w.heap.size, 0, none⟩) 0 G) [] ∧ Below w.heap.size w (w.alloc (.cells Z 35)).drew) :=
    ⟨⟨by simp, .inr ⟨w.heap.size, G, Z, rfl, Nat.le_refl _, Blk.new w _ _, Nat.zero_le _, hM, hZs, by simp⟩⟩, Below.drew (wa1 _ _)⟩
  clear hZ hZs
  clear hM
  have tn : decide ((n : Int) < 0) = false := decide_eq_false (by omega)
  go_enter Tryd.func46, Tryd.ntmps46
  go_wp2_with (at_builtin; refine Lib.wpList_append_run _ rfl _ _ _ _ rfl _ _ rfl rfl _ _ (hrz _) ?_)
  all_goals (go_ret; exact ⟨⟨_, rfl, HO.out.1⟩, HO.out.2⟩)
end Go.Proofs.YtemkghgcdpmlbaaDoor
/- Append of a whole list to a slice of the call's own, whatever the source's address; a part of a list as a slice. -/
namespace Go.Proofs.YtemkghgcdpmlbaaDoor
open Go.RowKit

theorem run_append_none_cap {P : Program} {w : World} (base : Nat) (t ty e : TypeId) (i : TypeInfo) (size c : Nat) (ht : P.underlying t = some (.slice e)) (hi : P.info? e = some i)
    (v : Value) (n : Nat) (xs : List Value) (hown : w.ownsRow base e size v n xs) :
    (Builtin.append_ #[t, t] ty #[v, .slice none 0 c]).run P w = .ok v w := by
  rcases hown.2 with ⟨rfl, rfl⟩ | ⟨g, cap, cur, rfl, _, _, hnc, _⟩
  · simp [Builtin.append_, run_underlying ht, sizeOf, typeInfo, hi, Builtin.lenOf, Builtin.firstCells]
  · simp [Builtin.append_, run_underlying ht, sizeOf, typeInfo, hi, Builtin.lenOf, Builtin.firstCells, hnc, storeCells]
theorem wp_app_seg {P : Program} {α : Type} (w : World) {o : Oper} {a : Act} {K : Act → World → Prop} {Q : Exit → Act → World → Prop} (s x : Operand) (t : TypeId)
    (ho : o.op = .call { callee := .builtin .append, args := #[s, x], argTypes := #[t, t] })
    (B : Nat) (e : TypeId) (i : TypeInfo) (z : Value) (size bytes : Nat) (ht : P.underlying t = some (.slice e)) (hi : P.info? e = some i) (hz : i.zero = some z)
    (hsize : i.size = size) (hby : i.bytes = bytes) (hzs : z.cells.size = size) (hsz : 0 < size) (hb1 : bytes ≤ 100000)
    (enc : α → List Value) (he : ∀ y, (enc y).length = size) (h1 : ∀ y, ∀ u ∈ enc y, u.oneCell' = true)
    (v : Value) (xs : List α) (hs : a.eval s = v) (hown : Own w B e size enc v xs)
    (A : Option Addr) (l : List α) (c n : Nat) (hx : a.eval x = .slice A n c) (hn : n = l.length) (hl : xs.length + l.length ≤ 1000000) (C : Nat) (hsrc : Seg w C size enc A l) (hbase : B ≤ w.heap.size)
    (h : ∀ v' w', Own w' B e size enc v' (xs ++ l) → Below B w w' → w.grownBy w' v.ownBlock → K (a.put o.dst v') w') : o.wp P a w K Q := by
  subst hn
  cases A with
  | none =>
    have hl0 : l = [] := by
      cases l with
      | nil => rfl
      | cons y l => obtain ⟨b, off, e0, _⟩ := hsrc 0 y rfl; cases e0
    subst hl0
    have hrun := run_append_none_cap (P := P) (w := w) B t o.type e i size c ht hi v xs.length (xs.flatMap enc) hown
    have h2 := h v w (by simpa using hown) (Below.refl _ _) (grown_of_below (Below.refl _ _) _)
    unfold Oper.wp
    simp [execOp, ho, resolve, invoke, builtin, hs, hx, hrun, Result.andThen]
    exact h2
  | some A =>
    refine wp_append_own w s x t ho B e i z size bytes ht hi hz hsize hby hzs hsz v xs.length (xs.flatMap enc) hs hown A l.length c (l.flatMap enc) hx (flat_len he l) (src_cells he hsz hsrc) ?_ (by unfold maxLen; omega) ?_ hbase ?_
    · intro u hu
      obtain ⟨y, _, hy⟩ := List.mem_flatMap.1 hu
      exact h1 y u hy
    · have : (xs.length + l.length) * bytes ≤ 1000000 * 100000 := Nat.mul_le_mul hl hb1
      omega
    · intro v' w' h2 h3 h4
      refine h v' w' ?_ ((Below.refl B w).grown h3 hbase fun k hk => (World.ownsRow.lt hown k hk).1) h3
      unfold Own
      rw [List.length_append, List.flatMap_append]
      exact h2
theorem wpList_app_seg {P : Program} {α : Type} (w : World) {ops : Array Oper} {rest : List Oper} {o : Oper} {a : Act} {Q : Exit → Act → World → Prop} (hgd : o.guard = none) (s x : Operand) (t : TypeId)
    (ho : o.op = .call { callee := .builtin .append, args := #[s, x], argTypes := #[t, t] })
    (B : Nat) (e : TypeId) (i : TypeInfo) (z : Value) (size bytes : Nat) (ht : P.underlying t = some (.slice e)) (hi : P.info? e = some i) (hz : i.zero = some z)
    (hsize : i.size = size) (hby : i.bytes = bytes) (hzs : z.cells.size = size) (hsz : 0 < size) (hb1 : bytes ≤ 100000)
    (enc : α → List Value) (he : ∀ y, (enc y).length = size) (h1 : ∀ y, ∀ u ∈ enc y, u.oneCell' = true)
    (v : Value) (xs : List α) (hs : a.eval s = v) (hown : Own w B e size enc v xs)
    (A : Option Addr) (l : List α) (c n : Nat) (hx : a.eval x = .slice A n c) (hn : n = l.length) (hl : xs.length + l.length ≤ 1000000) (C : Nat) (hsrc : Seg w C size enc A l) (hbase : B ≤ w.heap.size)
    (h : ∀ v' w', Own w' B e size enc v' (xs ++ l) → Below B w w' → w.grownBy w' v.ownBlock → wpList P ops Q rest (a.put o.dst v') w') : wpList P ops Q (o :: rest) a w :=
  wpList_plain hgd fun _ hK => wp_app_seg w s x t ho B e i z size bytes ht hi hz hsize hby hzs hsz hb1 enc he h1 v xs hs hown A l c n hx hn hl C hsrc hbase fun v' w' h2 h3 h4 => hK _ _ (h v' w' h2 h3 h4)
theorem Blk.grownO {α : Type} {w w' : World} {b : Nat} {t : TypeId} {cs : Array Value} {B : Nat} {T : TypeId} {size : Nat} {enc : α → List Value} {v : Value} {xs : List α} (h : Blk w b t cs) (hO : Own w B T size enc v xs) (hT : T ≠ t) (hg : w.grownBy w' v.ownBlock) : Blk w' b t cs := by
  have hne : some b ≠ v.ownBlock := fun e => by
    rcases hO.2 with ⟨e1, _⟩ | ⟨k, cap, cur, hv, _, hh, _⟩
    · rw [e1] at e; cases e
    · rw [hv] at e
      obtain rfl : b = k := Option.some.inj e
      have h2 := h.symm.trans hh
      injection h2 with h2
      injection h2 with _ h3 _
      exact hT h3.symm
  exact (hg.block b h.lt hne).trans h
theorem own_new0 {α : Type} {B size : Nat} {enc : α → List Value} {W V : World} {T : TypeId} (h : V = W.alloc (.cells #[] T)) (hB : B ≤ W.heap.size) : Own V B T size enc (.slice (some ⟨W.heap.size, 0, none⟩) 0 0) [] := by
  subst h
  exact ⟨by simp, .inr ⟨W.heap.size, 0, #[], rfl, hB, Blk.new _ _ _, Nat.le_refl _, by simp, by simp, by simp⟩⟩
/-- the address of a part of a list -/
def subA (A : Option Addr) (cap l size : Nat) : Option Addr := if cap = l then A else A.map (·.add (l * size))
theorem sub_seg {α : Type} {w : World} {C size : Nat} {enc : α → List Value} {A : Option Addr} {xs : List α} {cap l h : Nat} (hs : Seg w C size enc A xs) (hx : xs.length ≤ cap) : Seg w C size enc (subA A cap l size) ((xs.drop l).take h) := by
  intro k x hk
  have hk2 : xs[l + k]? = some x := by
    rw [List.getElem?_take] at hk
    split at hk
    · rwa [List.getElem?_drop] at hk
    · cases hk
  have hlt := (List.getElem?_eq_some_iff.1 hk2).1
  obtain ⟨b, off, e, hb, hc⟩ := hs (l + k) x hk2
  refine ⟨b, off + l * size, ?_, hb, fun j v hv => ?_⟩
  · unfold subA
    rw [if_neg (by omega), e]
    simp [Addr.add]
  · have h2 := hc j v hv
    rw [Nat.add_mul] at h2
    rw [show off + l * size + k * size + j = off + (l * size + k * size) + j by omega]
    exact h2
theorem sub_at {t : TypeId} {size : Nat} {A : Option Addr} {len cap l h : Nat} (h1 : l ≤ h) (h2 : h ≤ cap) (ht : Tryd.prog.underlying t = some (.slice (Tryd.prog.elem t))) (hs : ∀ W : World, (sizeOf (Tryd.prog.elem t)).run Tryd.prog W = .ok size W) (W : World) :
    (Instr.slice t (.slice A len cap) (some (.int .i64 (l : Nat))) (some (.int .i64 (h : Nat))) none).run Tryd.prog W = .ok (.slice (subA A cap l size) (h - l) (cap - l)) W := by
  rw [run_slice_lh W t A len cap ht .i64 .i64 l h (by omega) (by omega) (by omega), hs]
  rfl
theorem tail_at {t : TypeId} {size : Nat} {A : Option Addr} {len cap l : Nat} (h1 : l ≤ len) (ht : Tryd.prog.underlying t = some (.slice (Tryd.prog.elem t))) (hs : ∀ W : World, (sizeOf (Tryd.prog.elem t)).run Tryd.prog W = .ok size W) (W : World) :
    (Instr.slice t (.slice A len cap) (some (.int .i64 (l : Nat))) none none).run Tryd.prog W = .ok (.slice (subA A cap l size) (len - l) (cap - l)) W := by
  rw [run_slice_l W t A len cap ht .i64 l (by omega) (by omega), hs]
  rfl
end Go.Proofs.YtemkghgcdpmlbaaDoor
/- The walk of slices.Concat at three lists of facts, and of orders. -/
namespace Go.Proofs.YtemkghgcdpmlbaaDoor
open Go.RowKit Go.Sort


set_option maxRecDepth 100000 in
set_option maxHeartbeats 3200000 in
/-- three lists joined -/
theorem concatFac (A1 A2 A3 : Option Addr) (c1 c2 c3 : Nat) (l1 l2 l3 : List Fac) (g : Nat) (w : World) (hg : Blk w g 28 #[.slice A1 l1.length c1, .slice A2 l2.length c2, .slice A3 l3.length c3]) (n1 : l1.length ≤ 100000) (n2 : l2.length ≤ 100000) (n3 : l3.length ≤ 100000) (h2 : 0 < l2.length)
    (s1 : Seg w w.heap.size 6 eF A1 l1) (s2 : Seg w w.heap.size 6 eF A2 l2) (s3 : Seg w w.heap.size 6 eF A3 l3) :
    Calls Tryd.prog 26 #[.slice (some ⟨g, 0, none⟩) 3 3] w fun e w' => (∃ v, e = .returned v ∧ Own w' w.heap.size 33 6 eF v (l1 ++ l2 ++ l3)) ∧ Below w.heap.size w w' := by
  obtain ⟨ri, hi, hz0, hz1, hz2⟩ := info_parts (show (Tryd.prog.info? 33).map (fun i => (i.zero, i.size, i.bytes)) = some (some (.agg #[.int .i64 0, .int .i64 0, .int .i64 0, .int .i64 0, .int .i64 0, .bool false]), 6, 48) by kernel_rfl)
  have lg := hg.lt
  have HG0 : ∀ (N : Int) (W : World), 0 < N → N ≤ 1000000 → Calls Tryd.prog 42 #[.slice none 0 0, .int .i64 N] W fun e w' => (∃ v, e = .returned v ∧ Own w' W.heap.size 33 6 eF v []) ∧ Below W.heap.size W w' := fun N W h0 hn => by
    obtain ⟨k, rfl⟩ := Int.eq_ofNat_of_zero_le (show 0 ≤ N by omega)
    exact growFac k W (by omega) (by omega)
  have S1 := Lib.hid s1
  have S2 := Lib.hid s2
  have S3 := Lib.hid s3
  obtain ⟨m1, e1⟩ : ∃ m, l1.length = m := ⟨_, rfl⟩
  obtain ⟨m2, e2⟩ : ∃ m, l2.length = m := ⟨_, rfl⟩
  obtain ⟨m3, e3⟩ : ∃ m, l3.length = m := ⟨_, rfl⟩
  rw [e1, e2, e3] at hg
  rw [e1] at n1
  rw [e2] at n2 h2
  rw [e3] at n3
  have E1 := Lib.hid e1
  have E2 := Lib.hid e2
  have E3 := Lib.hid e3
  clear s1 s2 s3 e1 e2 e3
  have q0 : w.cell? ⟨g, 0, none⟩ = some (.slice A1 m1 c1) := hg.cell 0
  have q1 : w.cell? ⟨g, 1, none⟩ = some (.slice A2 m2 c2) := hg.cell 1
  have q2 : w.cell? ⟨g, 2, none⟩ = some (.slice A3 m3 c3) := hg.cell 2
  have p2 : decide ((m1 : Int) < 0) = false := decide_eq_false (by omega)
  have p3 : decide ((m1 : Int) + m2 < 0) = false := decide_eq_false (by omega)
  have p4 : decide ((m1 : Int) + m2 + m3 < 0) = false := decide_eq_false (by omega)
  have HG := Lib.hid (fun W => HG0 ((m1 : Int) + m2 + m3) W (by omega) (by omega))
  clear HG0
  go_enter Tryd.func26, Tryd.ntmps26
  go_upto_region 3 with (fail)
  go_loop [3, 11] (fun s y => (y = .int .i64 0 ∧ s = .int .i64 0) ∨ (y = .int .i64 1 ∧ s = .int .i64 m1) ∨ (y = .int .i64 2 ∧ s = .int .i64 ((m1 : Int) + m2)) ∨ (y = .int .i64 3 ∧ s = .int .i64 ((m1 : Int) + m2 + m3))) (fun _ y => 3 - (intOf y).toNat)
  case atStart => exact .inl ⟨rfl, rfl⟩
  case round =>
    rcases hrel with ⟨rfl, rfl⟩ | ⟨rfl, rfl⟩ | ⟨rfl, rfl⟩ | ⟨rfl, rfl⟩
    · go_wp2
      go_round
      case rel => exact .inr (.inl ⟨rfl, rfl⟩)
      case measure => simp [intOf]
    · go_wp2
      go_round
      case rel => exact .inr (.inr (.inl ⟨rfl, rfl⟩))
      case measure => simp [intOf]
    · go_wp2
      go_round
      case rel => exact .inr (.inr (.inr ⟨rfl, rfl⟩))
      case measure => simp [intOf]
    · clear p2 p3 p4
      go_upto_region 11 with ((go_at_call 42; (with_reducible refine (HG.out _).mono ?_); rintro e w1 ⟨⟨v, rfl, hO⟩, hb1⟩))
      have HO := Lib.hid hO
      have HB1 := Lib.hid hb1
      clear hO q0 q1 q2 HG
      go_loopw [6, 27] (fun v y WR => (y = .int .i64 0 ∧ Hid (Own WR w.heap.size 33 6 eF v [])  ∧ Hid (Below w.heap.size w WR)) ∨ (y = .int .i64 1 ∧ Hid (Own WR w.heap.size 33 6 eF v l1) ∧ Hid (Below w.heap.size w WR)) ∨ (y = .int .i64 2 ∧ Hid (Own WR w.heap.size 33 6 eF v (l1 ++ l2)) ∧ Hid (Below w.heap.size w WR)) ∨ (y = .int .i64 3 ∧ Hid (Own WR w.heap.size 33 6 eF v (l1 ++ l2 ++ l3)) ∧ Hid (Below w.heap.size w WR))) (fun _ y _ => 3 - (intOf y).toNat)
      case atStart => exact .inl ⟨rfl, HO.out, HB1.out⟩
      case round =>
        rcases hrel with ⟨rfl, hO, hB⟩ | ⟨rfl, hO, hB⟩ | ⟨rfl, hO, hB⟩ | ⟨rfl, hO, hB⟩
        · have gg2 := hg.below hB.out lg
          have q0 : wr.cell? ⟨g, 0, none⟩ = some (.slice A1 m1 c1) := gg2.cell 0
          go_wp2_with (at_builtin; refine wpList_app_seg _ rfl (.tmp 31) (.tmp 32) _ rfl w.heap.size 33 ri _ 6 48 Tryd.underlying28 hi hz0 hz1 hz2 rfl (by omega) (by omega) eF eF_len one_fac _ [] rfl hO.out A1 l1 c1 m1 rfl E1.out.symm (by (try simp only [List.length_nil]); have := E1.out; have := E2.out; have := E3.out; omega) w.heap.size (S1.out.below hB.out) hB.out.size ?_; intro v2 w2 hO2 hb2 _)
          have HO2 : Hid (Own w2 w.heap.size 33 6 eF v2 (l1)) := by unfold Hid; simpa using hO2
          have HB2 := Lib.hid (hB.out.trans hb2)
          clear hO2 hb2
          go_roundw
          case rel => exact .inr (.inl ⟨rfl, HO2, HB2⟩)
          case measure => simp [intOf]
        · have gg2 := hg.below hB.out lg
          have q1 : wr.cell? ⟨g, 1, none⟩ = some (.slice A2 m2 c2) := gg2.cell 1
          go_wp2_with (at_builtin; refine wpList_app_seg _ rfl (.tmp 31) (.tmp 32) _ rfl w.heap.size 33 ri _ 6 48 Tryd.underlying28 hi hz0 hz1 hz2 rfl (by omega) (by omega) eF eF_len one_fac _ l1 rfl hO.out A2 l2 c2 m2 rfl E2.out.symm (by (try simp only [List.length_append, List.length_nil]); have := E1.out; have := E2.out; have := E3.out; omega) w.heap.size (S2.out.below hB.out) hB.out.size ?_; intro v2 w2 hO2 hb2 _)
          have HO2 : Hid (Own w2 w.heap.size 33 6 eF v2 (l1 ++ l2)) := hO2
          have HB2 := Lib.hid (hB.out.trans hb2)
          clear hO2 hb2
          go_roundw
          case rel => exact .inr (.inr (.inl ⟨rfl, HO2, HB2⟩))
          case measure => simp [intOf]
        · have gg2 := hg.below hB.out lg
          have q2 : wr.cell? ⟨g, 2, none⟩ = some (.slice A3 m3 c3) := gg2.cell 2
          go_wp2_with (at_builtin; refine wpList_app_seg _ rfl (.tmp 31) (.tmp 32) _ rfl w.heap.size 33 ri _ 6 48 Tryd.underlying28 hi hz0 hz1 hz2 rfl (by omega) (by omega) eF eF_len one_fac _ (l1 ++ l2) rfl hO.out A3 l3 c3 m3 rfl E3.out.symm (by (try simp only [List.length_append]); have := E1.out; have := E2.out; have := E3.out; omega) w.heap.size (S3.out.below hB.out) hB.out.size ?_; intro v2 w2 hO2 hb2 _)
          have HO2 : Hid (Own w2 w.heap.size 33 6 eF v2 (l1 ++ l2 ++ l3)) := hO2
          have HB2 := Lib.hid (hB.out.trans hb2)
          clear hO2 hb2
          go_roundw
          case rel => exact .inr (.inr (.inr ⟨rfl, HO2, HB2⟩))
          case measure => simp [intOf]
        · go_wp2
          go_ret
          exact ⟨⟨_, rfl, hO.out⟩, hB.out⟩

set_option maxRecDepth 100000 in
set_option maxHeartbeats 3200000 in
/-- three lists joined -/
theorem concatBef (A1 A2 A3 : Option Addr) (c1 c2 c3 : Nat) (l1 l2 l3 : List (Int × Int)) (g : Nat) (w : World) (hg : Blk w g 29 #[.slice A1 l1.length c1, .slice A2 l2.length c2, .slice A3 l3.length c3]) (n1 : l1.length ≤ 100000) (n2 : l2.length ≤ 100000) (n3 : l3.length ≤ 100000) (h2 : 0 < l2.length)
    (s1 : Seg w w.heap.size 2 eS A1 l1) (s2 : Seg w w.heap.size 2 eS A2 l2) (s3 : Seg w w.heap.size 2 eS A3 l3) :
    Calls Tryd.prog 31 #[.slice (some ⟨g, 0, none⟩) 3 3] w fun e w' => (∃ v, e = .returned v ∧ Own w' w.heap.size 35 2 eS v (l1 ++ l2 ++ l3)) ∧ Below w.heap.size w w' := by
  obtain ⟨ri, hi, hz0, hz1, hz2⟩ := info_parts (show (Tryd.prog.info? 35).map (fun i => (i.zero, i.size, i.bytes)) = some (some (.agg #[.int .i64 0, .int .i64 0]), 2, 16) by kernel_rfl)
  have lg := hg.lt
  have HG0 : ∀ (N : Int) (W : World), 0 < N → N ≤ 1000000 → Calls Tryd.prog 46 #[.slice none 0 0, .int .i64 N] W fun e w' => (∃ v, e = .returned v ∧ Own w' W.heap.size 35 2 eS v []) ∧ Below W.heap.size W w' := fun N W h0 hn => by
    obtain ⟨k, rfl⟩ := Int.eq_ofNat_of_zero_le (show 0 ≤ N by omega)
    exact growBef k W (by omega) (by omega)
  have S1 := Lib.hid s1
  have S2 := Lib.hid s2
  have S3 := Lib.hid s3
  obtain ⟨m1, e1⟩ : ∃ m, l1.length = m := ⟨_, rfl⟩
  obtain ⟨m2, e2⟩ : ∃ m, l2.length = m := ⟨_, rfl⟩
  obtain ⟨m3, e3⟩ : ∃ m, l3.length = m := ⟨_, rfl⟩
  rw [e1, e2, e3] at hg
  rw [e1] at n1
  rw [e2] at n2 h2
  rw [e3] at n3
  have E1 := Lib.hid e1
  have E2 := Lib.hid e2
  have E3 := Lib.hid e3
  clear s1 s2 s3 e1 e2 e3
  have q0 : w.cell? ⟨g, 0, none⟩ = some (.slice A1 m1 c1) := hg.cell 0
  have q1 : w.cell? ⟨g, 1, none⟩ = some (.slice A2 m2 c2) := hg.cell 1
  have q2 : w.cell? ⟨g, 2, none⟩ = some (.slice A3 m3 c3) := hg.cell 2
  have p2 : decide ((m1 : Int) < 0) = false := decide_eq_false (by omega)
  have p3 : decide ((m1 : Int) + m2 < 0) = false := decide_eq_false (by omega)
  have p4 : decide ((m1 : Int) + m2 + m3 < 0) = false := decide_eq_false (by omega)
  have HG := Lib.hid (fun W => HG0 ((m1 : Int) + m2 + m3) W (by omega) (by omega))
  clear HG0
  go_enter Tryd.func31, Tryd.ntmps31
  go_upto_region 3 with (fail)
  go_loop [3, 11] (fun s y => (y = .int .i64 0 ∧ s = .int .i64 0) ∨ (y = .int .i64 1 ∧ s = .int .i64 m1) ∨ (y = .int .i64 2 ∧ s = .int .i64 ((m1 : Int) + m2)) ∨ (y = .int .i64 3 ∧ s = .int .i64 ((m1 : Int) + m2 + m3))) (fun _ y => 3 - (intOf y).toNat)
  case atStart => exact .inl ⟨rfl, rfl⟩
  case round =>
    rcases hrel with ⟨rfl, rfl⟩ | ⟨rfl, rfl⟩ | ⟨rfl, rfl⟩ | ⟨rfl, rfl⟩
    · go_wp2
      go_round
      case rel => exact .inr (.inl ⟨rfl, rfl⟩)
      case measure => simp [intOf]
    · go_wp2
      go_round
      case rel => exact .inr (.inr (.inl ⟨rfl, rfl⟩))
      case measure => simp [intOf]
    · go_wp2
      go_round
      case rel => exact .inr (.inr (.inr ⟨rfl, rfl⟩))
      case measure => simp [intOf]
    · clear p2 p3 p4
      go_upto_region 11 with ((go_at_call 46; (with_reducible refine (HG.out _).mono ?_); rintro e w1 ⟨⟨v, rfl, hO⟩, hb1⟩))
      have HO := Lib.hid hO
      have HB1 := Lib.hid hb1
      clear hO q0 q1 q2 HG
      go_loopw [6, 27] (fun v y WR => (y = .int .i64 0 ∧ Hid (Own WR w.heap.size 35 2 eS v [])  ∧ Hid (Below w.heap.size w WR)) ∨ (y = .int .i64 1 ∧ Hid (Own WR w.heap.size 35 2 eS v l1) ∧ Hid (Below w.heap.size w WR)) ∨ (y = .int .i64 2 ∧ Hid (Own WR w.heap.size 35 2 eS v (l1 ++ l2)) ∧ Hid (Below w.heap.size w WR)) ∨ (y = .int .i64 3 ∧ Hid (Own WR w.heap.size 35 2 eS v (l1 ++ l2 ++ l3)) ∧ Hid (Below w.heap.size w WR))) (fun _ y _ => 3 - (intOf y).toNat)
      case atStart => exact .inl ⟨rfl, HO.out, HB1.out⟩
      case round =>
        rcases hrel with ⟨rfl, hO, hB⟩ | ⟨rfl, hO, hB⟩ | ⟨rfl, hO, hB⟩ | ⟨rfl, hO, hB⟩
        · have gg2 := hg.below hB.out lg
          have q0 : wr.cell? ⟨g, 0, none⟩ = some (.slice A1 m1 c1) := gg2.cell 0
          go_wp2_with (at_builtin; refine wpList_app_seg _ rfl (.tmp 31) (.tmp 32) _ rfl w.heap.size 35 ri _ 2 16 Tryd.underlying29 hi hz0 hz1 hz2 rfl (by omega) (by omega) eS eS_len one_bef _ [] rfl hO.out A1 l1 c1 m1 rfl E1.out.symm (by (try simp only [List.length_nil]); have := E1.out; have := E2.out; have := E3.out; omega) w.heap.size (S1.out.below hB.out) hB.out.size ?_; intro v2 w2 hO2 hb2 _)
          have HO2 : Hid (Own w2 w.heap.size 35 2 eS v2 (l1)) := by unfold Hid; simpa using hO2
          have HB2 := Lib.hid (hB.out.trans hb2)
          clear hO2 hb2
          go_roundw
          case rel => exact .inr (.inl ⟨rfl, HO2, HB2⟩)
          case measure => simp [intOf]
        · have gg2 := hg.below hB.out lg
          have q1 : wr.cell? ⟨g, 1, none⟩ = some (.slice A2 m2 c2) := gg2.cell 1
          go_wp2_with (at_builtin; refine wpList_app_seg _ rfl (.tmp 31) (.tmp 32) _ rfl w.heap.size 35 ri _ 2 16 Tryd.underlying29 hi hz0 hz1 hz2 rfl (by omega) (by omega) eS eS_len one_bef _ l1 rfl hO.out A2 l2 c2 m2 rfl E2.out.symm (by (try simp only [List.length_append, List.length_nil]); have := E1.out; have := E2.out; have := E3.out; omega) w.heap.size (S2.out.below hB.out) hB.out.size ?_; intro v2 w2 hO2 hb2 _)
          have HO2 : Hid (Own w2 w.heap.size 35 2 eS v2 (l1 ++ l2)) := hO2
          have HB2 := Lib.hid (hB.out.trans hb2)
          clear hO2 hb2
          go_roundw
          case rel => exact .inr (.inr (.inl ⟨rfl, HO2, HB2⟩))
          case measure => simp [intOf]
        · have gg2 := hg.below hB.out lg
          have q2 : wr.cell? ⟨g, 2, none⟩ = some (.slice A3 m3 c3) := gg2.cell 2
          go_wp2_with (at_builtin; refine wpList_app_seg _ rfl (.tmp 31) (.tmp 32) _ rfl w.heap.size 35 ri _ 2 16 Tryd.underlying29 hi hz0 hz1 hz2 rfl (by omega) (by omega) eS eS_len one_bef _ (l1 ++ l2) rfl hO.out A3 l3 c3 m3 rfl E3.out.symm (by (try simp only [List.length_append]); have := E1.out; have := E2.out; have := E3.out; omega) w.heap.size (S3.out.below hB.out) hB.out.size ?_; intro v2 w2 hO2 hb2 _)
          have HO2 : Hid (Own w2 w.heap.size 35 2 eS v2 (l1 ++ l2 ++ l3)) := hO2
          have HB2 := Lib.hid (hB.out.trans hb2)
          clear hO2 hb2
          go_roundw
          case rel => exact .inr (.inr (.inr ⟨rfl, HO2, HB2⟩))
          case measure => simp [intOf]
        · go_wp2
          go_ret
          exact ⟨⟨_, rfl, hO.out⟩, hB.out⟩
end Go.Proofs.YtemkghgcdpmlbaaDoor
/- Walked steps for whole structs: a new variable that is set at once, a store into a block known whole, a result that lies in a cell. -/
namespace Go.Proofs.YtemkghgcdpmlbaaDoor
open Go.RowKit

section
variable {P : Program} {ops : Array Oper} {Q : Exit → Act → World → Prop} {a : Act} {w : World} {rest : List Oper}
/-- v := s at a struct: alloc, store -/
theorem wpList_new {o2 o3 : Oper} {n : Nat} (ty : TypeId) (E : ElT P ty n) (y : Operand) (d2 : Tmp) (g2 : o2.guard = none) (g3 : o3.guard = none)
    (ho2 : o2.op = .alloc ty) (hd2 : o2.dst = some d2) (ho3 : o3.op = .store ty (.tmp d2) y) (hd3 : o3.dst = none)
    (cs : List Value) (hn : cs.length = n) (h1 : ∀ v ∈ cs, v.oneCell' = true) (s2 : d2 < a.tmps.size) (hy : (a.put (some d2) (.pointer (some ⟨w.heap.size, 0, none⟩))).eval y = .agg cs.toArray)
    (h : wpList P ops Q rest (a.put (some d2) (.pointer (some ⟨w.heap.size, 0, none⟩))) (w.alloc (.cells cs.toArray ty))) : wpList P ops Q (o2 :: o3 :: rest) a w := by
  subst hn
  obtain ⟨⟨fs, hu⟩, hi, v, hz, hzr⟩ := E
  refine wpList_plain g2 fun K hK => ?_
  have hrun : (execOp (Act.eval a) o2).run P w = .ok (.value (.pointer (some ⟨w.heap.size, 0, none⟩))) (w.alloc (.cells v.cells ty)) := by
    unfold execOp
    simp only [ho2, Instr.alloc, Sem.run_bind, hzr, Result.andThen_ok, newVar, newRow]
    rfl
  unfold Oper.wp
  rw [hrun, Oper.upon_value]
  refine hK _ _ ?_
  rw [hd2]
  refine wpList_store_mid g3 ty _ _ ho3 w.heap.size 0 cs.toArray ?_ hy ?_ (by simpa using hi) (all_oneCell_toArray h1) ?_
  · simp [Act.eval, Act.put, s2]
  · intro j hj
    simp only [Nat.zero_add, List.size_toArray] at hj ⊢
    rw [World.cell?_alloc_at _ _ _ _ rfl, World.frozen?_alloc_at _ _ _ _ rfl]
    simp [hz, hj]
  · rw [hd3]
    simp only
    rw [setCells_new0 w ty _ cs hz]
    exact h
theorem setCells_blk {g : Nat} {t : TypeId} : ∀ (vs pre old rest : List Value) (w : World), old.length = vs.length → Blk w g t (pre ++ old ++ rest).toArray → Blk (w.setCells g pre.length vs) g t (pre ++ vs ++ rest).toArray
  | [], pre, old, rest, w, h, hb => by
    obtain rfl : old = [] := List.eq_nil_of_length_eq_zero h
    exact hb
  | v :: vs, pre, old, rest, w, h, hb => by
    cases old with
    | nil => simp at h
    | cons r old =>
      simp only [World.setCells]
      have h1 := hb.set_ pre.length v
      have e1 : ((pre ++ r :: old ++ rest).toArray.setIfInBounds pre.length v) = ((pre ++ [v]) ++ old ++ rest).toArray := by simp
      rw [e1] at h1
      have h2 := setCells_blk vs (pre ++ [v]) old rest _ (by simpa using h) h1
      simpa using h2
theorem setCells_below {B : Nat} {w0 : World} {g : Nat} (hg : B ≤ g) : ∀ (vs : List Value) (o : Nat) (w : World), Below B w0 w → Below B w0 (w.setCells g o vs)
  | [], _, _, h => h
  | v :: vs, o, w, h => by
    simp only [World.setCells]
    exact setCells_below hg vs (o + 1) _ (h.setCell (p := ⟨g, o, none⟩) hg v)
theorem setCells_far {g b : Nat} {t : TypeId} {cs : Array Value} (hg : b ≠ g) : ∀ (vs : List Value) (o : Nat) (w : World), Blk w b t cs → Blk (w.setCells g o vs) b t cs
  | [], _, _, h => h
  | v :: vs, o, w, h => by
    simp only [World.setCells]
    exact setCells_far hg vs (o + 1) _ (h.far (p := ⟨g, o, none⟩) hg v)
theorem setCells_size {g : Nat} : ∀ (vs : List Value) (o : Nat) (w : World), (w.setCells g o vs).heap.size = w.heap.size
  | [], _, _ => rfl
  | v :: vs, o, w => by
    simp only [World.setCells]
    rw [setCells_size vs (o + 1)]
    simp
/-- a struct stored into cells i, i + 1, .. of a block known whole -/
theorem wpList_store_blk {o : Oper} (hgd : o.guard = none) (ty : TypeId) (x y : Operand) (ho : o.op = .store ty x y) (hd : o.dst = none) (g : Nat) (t : TypeId) (pre old post cs : List Value) (hx : a.eval x = .pointer (some ⟨g, pre.length, none⟩)) (hy : a.eval y = .agg cs.toArray)
    (hb : Blk w g t (pre ++ old ++ post).toArray) (hlen : old.length = cs.length) (hi : (P.info? ty).map (·.size) = some cs.length) (h1 : ∀ v ∈ cs, v.oneCell' = true)
    (h : wpList P ops Q rest a (w.setCells g pre.length cs)) : wpList P ops Q (o :: rest) a w := by
  refine wpList_store_mid hgd ty x y ho g pre.length cs.toArray hx hy ?_ (by simpa using hi) (all_oneCell_toArray h1) ?_
  · intro j hj
    simp only [List.size_toArray] at hj
    rw [hb.cell, hb.frozen]
    refine ⟨?_, rfl⟩
    simp; omega
  · rw [hd]
    rw [List.toList_toArray]
    exact h
theorem ret_row {fn : Func} {r g : Nat} {t : TypeId} {cs : Array Value} (hres : fn.results = #[.cell r t]) (hp : a.tmps.getD r undef = .pointer (some ⟨g, 0, none⟩)) (hk : Blk w g t cs) (hu : ∃ fs, P.underlying t = some (.struct fs)) (hi : (P.info? t).map (·.size) = some cs.size) :
    (results fn a.tmps).run P w = .ok (.agg cs) w := by
  obtain ⟨fs, hu⟩ := hu
  have h1 := run_loadVar_row w g t t cs (0, 0) _ hk hu rfl hi
  rw [Array.getD_eq_getD_getElem?] at hp
  simp only [go_sem] at h1
  simp [results, hres, hp, go_sem]
  simpa using h1
end
end Go.Proofs.YtemkghgcdpmlbaaDoor
