/- Contracts of functions and plain laws, joined: Sr, Kbb. -/
import Derived.Test.YtginnonjdbpamaaGreatDoorMc16
import Derived.Test.YtginnonjdbpamaaGreatDoorMc17
import Derived.Laws.CopyOwn
import Derived.Test.YtginnonjdbpamaaGreatDoorMc9
import Derived.Test.YtginnonjdbpamaaGreatDoorMc10
/- States as results; lists copied whole; new lists of zeros. -/
import Derived.Test.YtginnonjdbpamaaGreatDoorMc1
set_option maxHeartbeats 1600000
set_option maxRecDepth 100000
namespace Go.Proofs.YtginnonjdbpamaaGreatDoor
open Go.RowKit Go.Sort
theorem xBg {P : Program} {fn : Func} {a : Act} {w : World} {r s g : Nat} {t : TypeId} {cs : Array Value} (hres : fn.results = #[.cell r t, .tmp s]) (hp : a.tmps.getD r undef = .pointer (some ⟨g, 0, none⟩)) (hk : Blk w g t cs) (hu : ∃ fs, P.underlying t = some (.struct fs)) (hi : (P.info? t).map (·.size) = some cs.size) :
  (results fn a.tmps).run P w = .ok (.tuple #[.agg cs, a.tmps.getD s undef]) w := by
 obtain ⟨fs, hu⟩ := hu
 have h1 := run_loadVar_row w g t t cs (0, 0) _ hk hu rfl hi
 rw [Array.getD_eq_getD_getElem?] at hp
 have ha : (isAgg t).run P w = .ok true w := by simp [isAgg, run_underlying hu, Result.andThen]
 simp only [go_sem] at h1
 simp [results, hres, hp, go_sem, ha]
 simp [ha] at h1
 rw [h1]
 rfl
theorem Own.segz {α : Type} {w : World} {B : Nat} {T : TypeId} {size : Nat} {enc : α → List Value} {v : Value} {xs : List α} (h : Own w B T size enc v xs) (he : ∀ x, (enc x).length = size) :
  ∃ A c, v = .slice A xs.length c ∧ xs.length ≤ c ∧ c ≤ 9223372036854775807 ∧ Seg w w.heap.size size enc A xs ∧ (A = none → xs = [] ∧ c = 0) ∧ (∀ a, A = some a → B ≤ a.block) ∧ (∀ a, A = some a → ∃ cs, Blk w a.block T cs) := by
 obtain ⟨A, c, hv, hc, hs⟩ := h.seg he
 refine ⟨A, c, hv, hc, ?_, hs, ?_, ?_, ?_⟩
 ·rcases h.2 with ⟨e, _⟩ | ⟨g, cap, cur, e, _, _, _, hm, _⟩
  ·rw [e] at hv; injection hv with _ _ h3; omega
  ·rw [e] at hv; injection hv with _ _ h3; unfold maxLen at hm; omega
 ·intro hA
  rcases h.2 with ⟨e, h0⟩ | ⟨g, cap, cur, e, _⟩
  ·rw [e] at hv; injection hv with _ _ h3; exact ⟨List.eq_nil_of_length_eq_zero h0, h3.symm⟩
  ·rw [e, hA] at hv; injection hv with h1; cases h1
 ·intro a hA
  rcases h.2 with ⟨e, h0⟩ | ⟨g, cap, cur, e, hg, _⟩
  ·rw [e, hA] at hv; injection hv with h1; cases h1
  ·rw [e, hA] at hv; injection hv with h1; cases h1; exact hg
 ·intro a hA
  rcases h.2 with ⟨e, h0⟩ | ⟨g, cap, cur, e, hg, hh, _⟩
  ·rw [e, hA] at hv; injection hv with h1; cases h1
  ·rw [e, hA] at hv; injection hv with h1; cases h1; exact ⟨_, hh⟩
theorem Own.updT {α : Type} {w w' : World} {B g : Nat} {T t : TypeId} {size : Nat} {enc : α → List Value} {v : Value} {xs : List α} {cs : Array Value} (h : Own w B T size enc v xs) (u : Upd w w' g) (hb : Blk w g t cs) (ht : T ≠ t) : Own w' B T size enc v xs := by
 refine h.upd u fun k hk e => ?_
 subst e
 rcases h.2 with ⟨e, _⟩ | ⟨g', cap, cur, e, _, hh, _⟩
 ·rw [e] at hk; cases hk
 ·rw [e] at hk
  obtain rfl : g' = k := Option.some.inj hk
  have h2 := hb.symm.trans hh
  injection h2 with h2
  injection h2 with _ h3 _
  exact ht h3.symm
theorem xBj {K : Act → World → Prop} {a : Act} {w : World} (h : ∀ V, V = w → K a V) : K a w := h _ rfl
theorem xFo {W V : World} {t : TypeId} {cs : Array Value} (h : V = W.alloc (.cells cs t)) : ∃ b, W.heap.size = b ∧ Blk V b t cs ∧ Below W.heap.size W V := by
 rw [h]
 exact ⟨_, rfl, Blk.new _ _ _, wa1 _ _⟩
theorem Own.segS {α : Type} {w : World} {B : Nat} {T : TypeId} {size : Nat} {enc : α → List Value} {A : Option Addr} {n c : Nat} {xs : List α} (h : Own w B T size enc (.slice A n c) xs) (he : ∀ x, (enc x).length = size) :
  xs.length ≤ c ∧ c ≤ 9223372036854775807 ∧ Seg w w.heap.size size enc A xs ∧ (A = none → xs = [] ∧ c = 0) ∧ (∀ a, A = some a → B ≤ a.block) := by
 obtain ⟨A', c', hv, h1, h2, h3, h4, h5, _⟩ := h.segz he
 injection hv with e1 e2 e3
 subst e1
 subst e3
 exact ⟨h1, h2, h3, h4, h5⟩
theorem xGt {P : Program} (w : World) (dT sT ty elem : TypeId) (g n dCap size : Nat) (a : Addr) (sCap : Nat) (cur : Array Value) (t : TypeId) (cs : List Value)
  (hu : P.underlying dT = some (.slice elem)) (hs : (P.info? elem).map (·.size) = some size)
  (hg : w.heap[g]? = some (.cells cur t (0, 0))) (hn : cs.length = n * size)
  (hsrc : ∀ j v, cs[j]? = some v → w.cell? (a.add j) = some v) (hfit : cs.length ≤ cur.size) (h1 : ∀ v ∈ cs, v.oneCell' = true) :
  (Builtin.copy_ #[dT, sT] ty #[.slice (some ⟨g, 0, none⟩) n dCap, .slice (some a) n sCap]).run P w = .ok (goInt n) (w.setRow g (cs ++ cur.toList.drop cs.length).toArray) := by
 have hl := run_loadCells_list (P := P) w a cs hsrc
 have hst := run_storeCells_at P g 0 t cs 0 cur w hg (by simpa using hfit) h1
 cases hq : P.info? elem with
 | none => simp [hq] at hs
 | some i =>
  have hi : i.size = size := by simpa [hq] using hs
  simp only [Nat.zero_add, List.take_zero, qzF] at hst
  simp [Builtin.copy_, run_underlying hu, Builtin.lenOf, Builtin.firstCells, sizeOf, typeInfo, hq, hi, ← hn, hl, hst]
theorem xGs {P : Program} (w : World) (dT sT ty elem : TypeId) (d a : Option Addr) (dCap sCap size : Nat) (hu : P.underlying dT = some (.slice elem)) (hs : (P.info? elem).map (·.size) = some size) :
  (Builtin.copy_ #[dT, sT] ty #[.slice d 0 dCap, .slice a 0 sCap]).run P w = .ok (goInt 0) w := by
 cases hq : P.info? elem with
 | none => simp [hq] at hs
 | some i =>
  have hl : ∀ (x : Addr), (loadCells x 0).run P w = .ok #[] w := fun x => by simpa using run_loadCells_list (P := P) w x [] (by simp)
  cases d <;> cases a <;> simp [Builtin.copy_, run_underlying hu, Builtin.lenOf, Builtin.firstCells, sizeOf, typeInfo, hq, storeCells, hl]
theorem upd_setRow (w : World) (g : Nat) (cs : Array Value) : Upd w (w.setRow g cs) g :=
 ⟨fun B hB => below_setRow (Below.refl B w) hB cs, fun x hx => setRow_other w g x cs hx, by simp [World.setRow]⟩
theorem xB8 {P : Program} {α : Type} {w : World} {ops : Array Oper} {rest : List Oper} {o : Oper} {a : Act} {Q : Exit → Act → World → Prop} (hgd : o.guard = none) (d s : Operand) (dT sT : TypeId)
  (ho : o.op = .call { callee := .builtin .copy, args := #[d, s], argTypes := #[dT, sT] }) (elem : TypeId) (hu : P.underlying dT = some (.slice elem)) (size : Nat) (hsz : (P.info? elem).map (·.size) = some size) (h0 : 0 < size)
  (enc : α → List Value) (he : ∀ y, (enc y).length = size) (h1 : ∀ y, ∀ u ∈ enc y, u.oneCell' = true) (g n cap sCap : Nat) (A : Option Addr) (xs ys : List α) (hxn : xs.length = n) (hyn : ys.length = n)
  (hd : a.eval d = .slice (some ⟨g, 0, none⟩) n cap) (hs : a.eval s = .slice A n sCap) (B : Nat) (T : TypeId) (hO : Own w B T size enc (.slice (some ⟨g, 0, none⟩) n cap) ys) (C : Nat) (hsrc : Seg w C size enc A xs)
  (h : ∀ w', Own w' B T size enc (.slice (some ⟨g, 0, none⟩) n cap) xs → Upd w w' g → wpList P ops Q rest (a.put o.dst (goInt n)) w') : wpList P ops Q (o :: rest) a w := by
 refine wpList_plain hgd fun K hK => ?_
 rcases Nat.eq_zero_or_pos n with hz | hpos
 ·subst hz
  obtain rfl : xs = [] := List.eq_nil_of_length_eq_zero hxn
  obtain rfl : ys = [] := List.eq_nil_of_length_eq_zero hyn
  have hrun := xGs (P := P) w dT sT o.type elem (some ⟨g, 0, none⟩) A cap sCap size hu hsz
  unfold Oper.wp
  simp [execOp, ho, resolve, invoke, builtin, hd, hs, hrun, Result.andThen]
  exact hK _ _ (h w hO (Upd.refl _ _))
 ·obtain ⟨b, off, eA, _⟩ := hsrc.some_ (by omega)
  subst eA
  have hfl := xDk he xs
  rcases hO.2 with ⟨e, _⟩ | ⟨g', cap', cur, hv, hg', hh, hc, hm, hsize, ht⟩
  ·cases e
  ·have eg : g' = g ∧ cap' = cap := by injection hv with a b c; injection a with a; injection a with a; exact ⟨a.symm, c.symm⟩
   obtain ⟨rfl, rfl⟩ := eg
   have hcs : (xs.flatMap enc).length = n * size := by rw [hfl, hxn]
   have hsum : (List.map (fun a => (enc a).length) xs).sum = n * size := by rw [← List.length_flatMap, hcs]
   have hle : n * size ≤ cap' * size := Nat.mul_le_mul_right _ (by omega)
   have hrun := xGt (P := P) w dT sT o.type elem g' n cap' size ⟨b, off, none⟩ sCap cur T (xs.flatMap enc) hu hsz hh hcs (xHg he h0 hsrc) (by omega) (by
    intro u hu
    obtain ⟨y, _, hy⟩ := List.mem_flatMap.1 hu
    exact h1 y u hy)
   unfold Oper.wp
   simp [execOp, ho, resolve, invoke, builtin, hd, hs, hrun, Result.andThen]
   refine hK _ _ (h _ ?_ (upd_setRow _ _ _))
   refine ⟨by rw [hcs, hxn], .inr ⟨g', cap', _, by rw [hxn], hg', setRow_heap w g' cur _ T _ hh, by omega, hm, ?_, ?_⟩⟩
   ·rw [List.size_toArray, List.length_append, List.length_drop, hcs, Array.length_toList, hsize]; omega
   ·rw [hxn, List.toList_toArray, ← hcs]; exact List.take_left
theorem xD7 {P : Program} {α : Type} {t e : TypeId} {i : TypeInfo} {z : Value} {size bytes : Nat} {enc : α → List Value} {y : α} (h1 : P.underlying t = some (.slice e)) (h2 : P.info? e = some i) (h3 : i.zero = some z) (h4 : i.size = size) (h5 : i.bytes = bytes) (hby : bytes ≤ 100000) (hy : z.cells = (enc y).toArray) {n : Nat} (hn : n ≤ 2000000) (W : World) :
  (Instr.makeSlice t (.int .i64 (n : Nat)) (.int .i64 (n : Nat))).run P W = .ok (.slice (some ⟨W.heap.size, 0, none⟩) n n) (W.alloc (.cells (madeCells (enc y).toArray (n * size)) e)) := by
 have hb : (bytes : Int) * (n : Int) ≤ 281474976710656 := by
  have h1 : bytes * n ≤ 100000 * 2000000 := Nat.mul_le_mul hby hn
  have h2 : ((bytes * n : Nat) : Int) ≤ ((100000 * 2000000 : Nat) : Int) := by exact_mod_cast h1
  have h3 : (bytes : Int) * (n : Int) = ((bytes * n : Nat) : Int) := by simp
  rw [h3]
  exact Int.le_trans h2 (by decide)
 have hrun := run_make (P := P) W t e i z h1 h2 h3 .i64 .i64 n n (by omega) (by omega) (by rw [h5]; exact hb) (by omega)
 rw [h4, hy] at hrun
 simpa using hrun
theorem xAn {α : Type} {W V : World} {B size : Nat} {e : TypeId} {enc : α → List Value} {y : α} {n N : Nat} (he : ∀ y, (enc y).length = size) (h0 : 0 < size) (hn : n ≤ 2000000) (hB : B ≤ W.heap.size) (h : V = W.alloc (.cells (madeCells (enc y).toArray N) e)) (hN : N = n * size) :
  ∃ g, W.heap.size = g ∧ Own V B e size enc (.slice (some ⟨g, 0, none⟩) n n) (List.replicate n y) ∧ Below W.heap.size W V ∧ g < V.heap.size := by
 subst h hN
 refine ⟨_, rfl, ?_, wa1 _ _, by simp⟩
 unfold Own
 rw [List.length_replicate]
 refine ⟨by rw [xDk he]; simp, .inr ⟨W.heap.size, n, _, rfl, hB, heap_alloc_new W _, Nat.le_refl _, by unfold maxLen; omega, size_madeCells _ _, ?_⟩⟩
 rw [made_flat he h0, List.take_of_length_le (by rw [xDk he]; simp)]
abbrev Sta.zero : Sta := ⟨0, [], [], []⟩
abbrev Qm.zero : Qm := ⟨none, 0, none, 0, none, 0⟩
abbrev zS : Array Value := #[.int .i64 0, .slice none 0 0, .slice none 0 0, .slice none 0 0]
structure SOff (p : Nat → Prop) (q : Qm) : Prop where
 h : ∀ a, q.h = some a → p a.block
 u : ∀ a, q.u = some a → p a.block
 m : ∀ a, q.m = some a → p a.block
structure STy (w : World) (q : Qm) : Prop where
 h : ∀ a, q.h = some a → ∃ cs, Blk w a.block 3 cs
 u : ∀ a, q.u = some a → ∃ cs, Blk w a.block 4 cs
 m : ∀ a, q.m = some a → ∃ cs, Blk w a.block 46 cs
def RetS (w : World) (S : Sta) (E : Int) (e : Ending) (w' : World) : Prop := (∃ q, e = .returned (.tuple #[.agg (stA S q), .int .i64 E]) ∧ Stm w' S q ∧ SOff (w.heap.size ≤ ·) q ∧ STy w' q) ∧ Below w.heap.size w w'
theorem Own.tyB {α : Type} {w : World} {B g n cap : Nat} {T : TypeId} {size : Nat} {enc : α → List Value} {xs : List α} (h : Own w B T size enc (.slice (some ⟨g, 0, none⟩) n cap) xs) : ∃ cs, Blk w g T cs := by
 rcases h.2 with ⟨e, _⟩ | ⟨g', cap', cur, e, _, hh, _⟩
 ·cases e
 ·cases e; exact ⟨_, hh⟩
theorem stm_zero (w : World) : Stm w Sta.zero Qm.zero := ⟨Seg.nil _ _ _ _ _, Seg.nil _ _ _ _ _, Seg.nil _ _ _ _ _, by simp, by simp, by simp, by simp, by simp, by simp⟩
theorem RetS.zero {w w' : World} {E : Int} (h : Below w.heap.size w w') : RetS w Sta.zero E (.returned (.tuple #[.agg zS, .int .i64 E])) w' :=
 ⟨⟨Qm.zero, rfl, stm_zero _, ⟨(fun _ e => by cases e), (fun _ e => by cases e), (fun _ e => by cases e)⟩, ⟨(fun _ e => by cases e), (fun _ e => by cases e), (fun _ e => by cases e)⟩⟩, h⟩
theorem Wk.ret {w0 w : World} {b : Nat} {c : Con} {m : Cm} {s : Sta} {q : Qn} {E : Int} (h : Wk w0 w b c m s q) : RetS w0 s E (.returned (.tuple #[.agg (stA s q.q), .int .i64 E])) w :=
 ⟨⟨q.q, rfl, h.stm, ⟨(fun a e => by cases e; exact h.oh.lt_.1), (fun a e => by cases e; exact h.ou.lt_.1), (fun a e => by cases e; exact h.om.lt_.1)⟩, ⟨(fun a e => by cases e; exact h.oh.tyB), (fun a e => by cases e; exact h.ou.tyB), (fun a e => by cases e; exact h.om.tyB)⟩⟩, h.hb⟩
end Go.Proofs.YtginnonjdbpamaaGreatDoor
/- The walks of slices.Clone at lists of numbers, units, act types, clauses and conditions. -/
namespace Go.Proofs.YtginnonjdbpamaaGreatDoor
open Go.RowKit
theorem xCu (y : Int) : ∀ u ∈ eI y, u.oneCell' = true := by
 intro u hu
 simp [eI] at hu
 rcases hu with rfl <;> rfl
theorem xEe (A : Option Addr) (c : Nat) (l : List Int) (w : World) (hl : l.length ≤ 1000000) (hs : Seg w w.heap.size 1 eI A l) (hc : l.length ≤ c) :
  Calls Tryz.prog 51 #[.slice A l.length c] w fun e w' => (∃ v, e = .returned v ∧ Own w' w.heap.size 3 1 eI v l) ∧ Below w.heap.size w w' := by
 cases A with
 | none =>
  have h0 : l = [] := by
   rcases Nat.eq_zero_or_pos l.length with h | h
   ·exact List.eq_nil_of_length_eq_zero h
   ·obtain ⟨b, off, e, _⟩ := hs.some_ h
    cases e
  subst h0
  have heq : ∀ W : World, (binOp .eql 22 (.slice none 0 c) (.slice none 0 0)).run Tryz.prog W = .ok (.bool true) W := fun W => by kernel_rfl
  clear hs
  go_enter Tryz.func51, Tryz.ntmps51
  go_wp2
  go_ret
  exact ⟨⟨_, rfl, Own.nil _ _ _ _ _⟩, Below.refl _ _⟩
 | some A =>
  have HS := qzL hs
  clear hs
  obtain ⟨ri, hi, hz0, hz1, hz2⟩ := info_parts (show (Tryz.prog.info? 3).map (fun i => (i.zero, i.size, i.bytes)) = some (some (.int .i64 0), 1, 8) by kernel_rfl)
  have heq : ∀ W : World, (binOp .eql 22 (.slice (some A) l.length c) (.slice none 0 0)).run Tryz.prog W = .ok (.bool false) W := fun W => by kernel_rfl
  go_enter Tryz.func51, Tryz.ntmps51
  go_upto_region 3 with (fail)
  go_wp2_with (at_builtin; go_loud (refine xCg rfl (.tmp 5) (.tmp 6) _ rfl w.heap.size 3 ri _ 1 8 Tryz.underlying22 hi hz0 hz1 hz2 rfl (by omega) (by omega) eI xAz xCu w.heap.size rfl (Blk.new _ _ _) (Nat.le_refl _) (some A) l c l.length rfl rfl hl w.heap.size (HS.out.below (wa1 _ _)) (fun h => by cases h) ?_); intro g' c' w1 hown hgrow hg)
  go_ret
  exact ⟨⟨_, rfl, hown⟩, (wa1 w (.cells #[] 3)).trans hgrow⟩
theorem one_uni (y : Uni) : ∀ u ∈ eU y, u.oneCell' = true := by
 intro u hu
 simp [eU] at hu
 rcases hu with rfl | rfl | rfl | rfl | rfl <;> rfl
theorem clone_uni (A : Option Addr) (c : Nat) (l : List Uni) (w : World) (hl : l.length ≤ 1000000) (hs : Seg w w.heap.size 5 eU A l) (hc : l.length ≤ c) :
  Calls Tryz.prog 56 #[.slice A l.length c] w fun e w' => (∃ v, e = .returned v ∧ Own w' w.heap.size 78 5 eU v l) ∧ Below w.heap.size w w' := by
 cases A with
 | none =>
  have h0 : l = [] := by
   rcases Nat.eq_zero_or_pos l.length with h | h
   ·exact List.eq_nil_of_length_eq_zero h
   ·obtain ⟨b, off, e, _⟩ := hs.some_ h
    cases e
  subst h0
  have heq : ∀ W : World, (binOp .eql 23 (.slice none 0 c) (.slice none 0 0)).run Tryz.prog W = .ok (.bool true) W := fun W => by kernel_rfl
  clear hs
  go_enter Tryz.func56, Tryz.ntmps56
  go_wp2
  go_ret
  exact ⟨⟨_, rfl, Own.nil _ _ _ _ _⟩, Below.refl _ _⟩
 | some A =>
  have HS := qzL hs
  clear hs
  obtain ⟨ri, hi, hz0, hz1, hz2⟩ := info_parts (show (Tryz.prog.info? 78).map (fun i => (i.zero, i.size, i.bytes)) = some (some (.agg #[.string ⟨#[]⟩, .int .i64 0, .int .i64 0, .int .i64 0, .int .i64 0]), 5, 48) by kernel_rfl)
  have heq : ∀ W : World, (binOp .eql 23 (.slice (some A) l.length c) (.slice none 0 0)).run Tryz.prog W = .ok (.bool false) W := fun W => by kernel_rfl
  go_enter Tryz.func56, Tryz.ntmps56
  go_upto_region 3 with (fail)
  go_wp2_with (at_builtin; go_loud (refine xCg rfl (.tmp 5) (.tmp 6) _ rfl w.heap.size 78 ri _ 5 48 Tryz.underlying23 hi hz0 hz1 hz2 rfl (by omega) (by omega) eU eU_len one_uni w.heap.size rfl (Blk.new _ _ _) (Nat.le_refl _) (some A) l c l.length rfl rfl hl w.heap.size (HS.out.below (wa1 _ _)) (fun h => by cases h) ?_); intro g' c' w1 hown hgrow hg)
  go_ret
  exact ⟨⟨_, rfl, hown⟩, (wa1 w (.cells #[] 78)).trans hgrow⟩
theorem one_atc (y : Atc) : ∀ u ∈ eA y, u.oneCell' = true := by
 intro u hu
 simp [eA] at hu
 rcases hu with rfl | rfl | rfl | rfl | rfl | rfl | rfl <;> rfl
theorem clone_atc (A : Option Addr) (c : Nat) (l : List Atc) (w : World) (hl : l.length ≤ 1000000) (hs : Seg w w.heap.size 7 eA A l) (hc : l.length ≤ c) :
  Calls Tryz.prog 57 #[.slice A l.length c] w fun e w' => (∃ v, e = .returned v ∧ Own w' w.heap.size 118 7 eA v l) ∧ Below w.heap.size w w' := by
 cases A with
 | none =>
  have h0 : l = [] := by
   rcases Nat.eq_zero_or_pos l.length with h | h
   ·exact List.eq_nil_of_length_eq_zero h
   ·obtain ⟨b, off, e, _⟩ := hs.some_ h
    cases e
  subst h0
  have heq : ∀ W : World, (binOp .eql 24 (.slice none 0 c) (.slice none 0 0)).run Tryz.prog W = .ok (.bool true) W := fun W => by kernel_rfl
  clear hs
  go_enter Tryz.func57, Tryz.ntmps57
  go_wp2
  go_ret
  exact ⟨⟨_, rfl, Own.nil _ _ _ _ _⟩, Below.refl _ _⟩
 | some A =>
  have HS := qzL hs
  clear hs
  obtain ⟨ri, hi, hz0, hz1, hz2⟩ := info_parts (show (Tryz.prog.info? 118).map (fun i => (i.zero, i.size, i.bytes)) = some (some (.agg #[.int .i64 0, .int .i64 0, .int .i64 0, .int .i64 0, .int .i64 0, .int .i64 0, .int .i64 0]), 7, 56) by kernel_rfl)
  have heq : ∀ W : World, (binOp .eql 24 (.slice (some A) l.length c) (.slice none 0 0)).run Tryz.prog W = .ok (.bool false) W := fun W => by kernel_rfl
  go_enter Tryz.func57, Tryz.ntmps57
  go_upto_region 3 with (fail)
  go_wp2_with (at_builtin; go_loud (refine xCg rfl (.tmp 5) (.tmp 6) _ rfl w.heap.size 118 ri _ 7 56 Tryz.underlying24 hi hz0 hz1 hz2 rfl (by omega) (by omega) eA eA_len one_atc w.heap.size rfl (Blk.new _ _ _) (Nat.le_refl _) (some A) l c l.length rfl rfl hl w.heap.size (HS.out.below (wa1 _ _)) (fun h => by cases h) ?_); intro g' c' w1 hown hgrow hg)
  go_ret
  exact ⟨⟨_, rfl, hown⟩, (wa1 w (.cells #[] 118)).trans hgrow⟩
theorem one_con (y : (Int × Int)) : ∀ u ∈ eS y, u.oneCell' = true := by
 intro u hu
 simp [eS] at hu
 rcases hu with rfl | rfl <;> rfl
theorem clone_con (A : Option Addr) (c : Nat) (l : List (Int × Int)) (w : World) (hl : l.length ≤ 1000000) (hs : Seg w w.heap.size 2 eS A l) (hc : l.length ≤ c) :
  Calls Tryz.prog 58 #[.slice A l.length c] w fun e w' => (∃ v, e = .returned v ∧ Own w' w.heap.size 121 2 eS v l) ∧ Below w.heap.size w w' := by
 cases A with
 | none =>
  have h0 : l = [] := by
   rcases Nat.eq_zero_or_pos l.length with h | h
   ·exact List.eq_nil_of_length_eq_zero h
   ·obtain ⟨b, off, e, _⟩ := hs.some_ h
    cases e
  subst h0
  have heq : ∀ W : World, (binOp .eql 48 (.slice none 0 c) (.slice none 0 0)).run Tryz.prog W = .ok (.bool true) W := fun W => by kernel_rfl
  clear hs
  go_enter Tryz.func58, Tryz.ntmps58
  go_wp2
  go_ret
  exact ⟨⟨_, rfl, Own.nil _ _ _ _ _⟩, Below.refl _ _⟩
 | some A =>
  have HS := qzL hs
  clear hs
  obtain ⟨ri, hi, hz0, hz1, hz2⟩ := info_parts (show (Tryz.prog.info? 121).map (fun i => (i.zero, i.size, i.bytes)) = some (some (.agg #[.int .i64 0, .int .i64 0]), 2, 16) by kernel_rfl)
  have heq : ∀ W : World, (binOp .eql 48 (.slice (some A) l.length c) (.slice none 0 0)).run Tryz.prog W = .ok (.bool false) W := fun W => by kernel_rfl
  go_enter Tryz.func58, Tryz.ntmps58
  go_upto_region 3 with (fail)
  go_wp2_with (at_builtin; go_loud (refine xCg rfl (.tmp 5) (.tmp 6) _ rfl w.heap.size 121 ri _ 2 16 Tryz.underlying48 hi hz0 hz1 hz2 rfl (by omega) (by omega) eS xFv one_con w.heap.size rfl (Blk.new _ _ _) (Nat.le_refl _) (some A) l c l.length rfl rfl hl w.heap.size (HS.out.below (wa1 _ _)) (fun h => by cases h) ?_); intro g' c' w1 hown hgrow hg)
  go_ret
  exact ⟨⟨_, rfl, hown⟩, (wa1 w (.cells #[] 121)).trans hgrow⟩
end Go.Proofs.YtginnonjdbpamaaGreatDoor
