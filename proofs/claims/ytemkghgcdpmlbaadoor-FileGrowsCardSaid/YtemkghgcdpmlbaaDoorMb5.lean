/- Contracts of functions and plain laws, joined: Own, Fd3, Fb2, Fb3. -/
import Derived.Test.YtemkghgcdpmlbaaDoorMb3
import Derived.OwnWalk
import Derived.Deep.AppendLies
import Derived.Test.YtemkghgcdpmlbaaDoorMb4
import Derived.RangeFuncNested
import Derived.RangeFuncBound
import Derived.RangeFuncCalls
import Derived.RangeFuncLeaves
import Derived.Shelf.Abstract
import Derived.Shelf.RegionOpen
import Derived.WalkKit
import Derived.OwnWalkIn
import Derived.TacticsInMore
import Derived.LoopNIn
import Derived.LoopIn
/- A slice of the call's own that holds a list of elements; one more element appended. -/
namespace Go.Proofs.YtemkghgcdpmlbaaDoor
open Go.RowKit

/-- The slice value v, made from block B on, holds the list xs of elements of type T, of 'size' cells each (enc: an element's cells). -/
def Own {α : Type} (w : World) (B : Nat) (T : TypeId) (size : Nat) (enc : α → List Value) (v : Value) (xs : List α) : Prop := w.ownsRow B T size v xs.length (xs.flatMap enc)

theorem getElem?_flatMap {α : Type} {enc : α → List Value} {size : Nat} (he : ∀ x, (enc x).length = size) : ∀ (xs : List α) (k j : Nat) (x : α), xs[k]? = some x → j < size → (xs.flatMap enc)[k * size + j]? = (enc x)[j]?
  | [], k, j, x, h, _ => by simp at h
  | y :: ys, 0, j, x, h, hj => by
    simp only [List.getElem?_cons_zero, Option.some.injEq] at h
    subst h
    rw [List.flatMap_cons, Nat.zero_mul, Nat.zero_add, List.getElem?_append_left (by rw [he]; exact hj)]
  | y :: ys, k + 1, j, x, h, hj => by
    rw [List.getElem?_cons_succ] at h
    rw [List.flatMap_cons, List.getElem?_append_right (by rw [he, Nat.add_mul]; omega), he, show (k + 1) * size + j - size = k * size + j by rw [Nat.add_mul]; omega]
    exact getElem?_flatMap he ys k j x h hj

section
variable {α : Type} {w w' : World} {B : Nat} {T : TypeId} {size : Nat} {enc : α → List Value} {v : Value} {xs : List α}
theorem Own.nil (w : World) (B : Nat) (T : TypeId) (size : Nat) (enc : α → List Value) : Own w B T size enc (.slice none 0 0) [] := World.ownsRow_nil w B T size
theorem grown_of_below (h : Below w.heap.size w w') (row : Option Nat) : w.grownBy w' row := ⟨h.os, h.tape, h.output, h.size, fun i hi _ => h.block i hi⟩
theorem Own.below (h : Own w B T size enc v xs) (hb : Below w.heap.size w w') : Own w' B T size enc v xs := h.kept (grown_of_below hb none) (by cases hv : v.ownBlock <;> simp)
theorem Own.alloc (h : Own w B T size enc v xs) (o : Obj) : Own (w.alloc o) B T size enc v xs := World.ownsRow.alloc h o
theorem Own.drewN (h : Own w B T size enc v xs) (n : Nat) : Own (w.drewN n) B T size enc v xs := h
theorem Own.setBelow (h : Own w B T size enc v xs) {p : Addr} (hp : p.block < B) (u : Value) : Own (w.setCell p u) B T size enc v xs := ownsRow_setCell_below h hp u
theorem Own.more (h : Own w B T size enc v xs) {B' : Nat} (hB : B' ≤ B) : Own w B' T size enc v xs := by
  refine ⟨h.1, ?_⟩
  rcases h.2 with h2 | ⟨g, cap, cur, hv, hg, r⟩
  · exact .inl h2
  · exact .inr ⟨g, cap, cur, hv, by omega, r⟩
/-- a store into a block of another element type -/
theorem Own.setOther (h : Own w B T size enc v xs) {p : Addr} {t : TypeId} {cs : Array Value} (hb : Blk w p.block t cs) (ht : T ≠ t) (u : Value) : Own (w.setCell p u) B T size enc v xs := by
  refine ⟨h.1, ?_⟩
  rcases h.2 with h2 | ⟨g, cap, cur, hv, hg, hh, r⟩
  · exact .inl h2
  · have hne : g ≠ p.block := by
      intro e
      unfold Blk at hb
      rw [← e, hh] at hb
      injection hb with hb
      injection hb with _ h4
      exact ht h4
    exact .inr ⟨g, cap, cur, hv, hg, by rw [Below.heap_setCell _ _ _ _ hne]; exact hh, r⟩
theorem Own.seg (h : Own w B T size enc v xs) (he : ∀ x, (enc x).length = size) : ∃ A c, v = .slice A xs.length c ∧ xs.length ≤ c ∧ Seg w w.heap.size size enc A xs := by
  rcases h.2 with ⟨rfl, h0⟩ | ⟨g, cap, cur, rfl, hb, hg, hc, _, _, ht⟩
  · obtain rfl : xs = [] := List.eq_nil_of_length_eq_zero h0
    exact ⟨none, 0, rfl, Nat.le_refl _, Seg.nil _ _ _ _ _⟩
  · refine ⟨some ⟨g, 0, none⟩, cap, rfl, hc, fun k x hx => ⟨g, 0, rfl, (Array.getElem?_eq_some_iff.1 hg).1, fun j u hu => ?_⟩⟩
    have hj : j < size := by rw [← he x]; exact (List.getElem?_eq_some_iff.1 hu).1
    have hk : k < xs.length := (List.getElem?_eq_some_iff.1 hx).1
    have h1 : k * size + j < xs.length * size := by
      have : (k + 1) * size ≤ xs.length * size := Nat.mul_le_mul_right _ hk
      rw [Nat.add_mul] at this; omega
    have h2 := h.cellAt (g := g) (cap := cap) (k * size + j) h1
    simp only [Nat.zero_add]
    rw [h2, getElem?_flatMap he xs k j x hx hj]; exact hu
end

/-- one more element appended: what is new lies in a block of its own -/
theorem wpList_app {P : Program} {α : Type} (w : World) {ops : Array Oper} {rest : List Oper} {o : Oper} {a : Act} {Q : Exit → Act → World → Prop} (hgd : o.guard = none) (s x : Operand) (t : TypeId)
    (ho : o.op = .call { callee := .builtin .append, args := #[s, x], argTypes := #[t, t] })
    (B : Nat) (e : TypeId) (i : TypeInfo) (z : Value) (size bytes : Nat) (ht : P.underlying t = some (.slice e)) (hi : P.info? e = some i) (hz : i.zero = some z)
    (hsize : i.size = size) (hby : i.bytes = bytes) (hzs : z.cells.size = size) (hsz : 0 < size) (hb1 : bytes ≤ 100000)
    (enc : α → List Value) (he : ∀ y, (enc y).length = size) (h1 : ∀ y, ∀ u ∈ enc y, u.oneCell' = true)
    (v : Value) (xs : List α) (hs : a.eval s = v) (hown : Own w B e size enc v xs) (hl : xs.length ≤ 1000000)
    (g c : Nat) (y : α) (hx : a.eval x = .slice (some ⟨g, 0, none⟩) 1 c) (hblk : Blk w g e (enc y).toArray) (hbase : B ≤ w.heap.size)
    (h : ∀ v' w', Own w' B e size enc v' (xs ++ [y]) → Below B w w' → w.grownBy w' v.ownBlock → wpList P ops Q rest (a.put o.dst v') w') : wpList P ops Q (o :: rest) a w := by
  refine wpList_append_own w hgd s x t ho B e i z size bytes ht hi hz hsize hby hzs hsz v xs.length (xs.flatMap enc) hs hown ⟨g, 0, none⟩ 1 c (enc y) hx (by rw [he]; simp) ?_ (h1 y) (by unfold maxLen; omega) ?_ hbase ?_
  · intro j u hu
    have hadd : (⟨g, 0, none⟩ : Addr).add j = ⟨g, j, none⟩ := by unfold Addr.add; split <;> simp_all
    rw [hadd, hblk.cell j]; simpa using hu
  · have : (xs.length + 1) * bytes ≤ 1000001 * 100000 := Nat.mul_le_mul (by omega) hb1
    omega
  · intro v' w' h2 h3 _
    refine h v' w' ?_ ((Below.refl B w).grown h3 hbase fun k hk => (World.ownsRow.lt hown k hk).1) h3
    unfold Own
    rw [List.length_append, List.flatMap_append]
    simpa using h2

/-- behind an append: a block that is newer than what was owned before it reads as it did -/
theorem grown_cell {α : Type} {w0 w w' : World} {B : Nat} {T : TypeId} {size : Nat} {enc : α → List Value} {v : Value} {xs : List α} (hO : Own w0 B T size enc v xs) (hg : w.grownBy w' v.ownBlock) {b : Nat} (o : Nat) (h1 : w0.heap.size ≤ b) (h2 : b < w.heap.size) :
    w'.cell? ⟨b, o, none⟩ = w.cell? ⟨b, o, none⟩ :=
  World.cell?_of_block (hg.block b h2 fun e => by have := (World.ownsRow.lt hO b e.symm).2; omega)
theorem blk_new1 (w : World) (o : Obj) (T : TypeId) (cs : Array Value) : Blk ((w.alloc o).alloc (.cells cs T)) (w.heap.size + 1) T cs := by simpa using Blk.new (w.alloc o) T cs
theorem bcellB {B : Nat} {W w1 : World} (hb : Below B W w1) : (∀ b o, b < B → w1.cell? ⟨b, o, none⟩ = W.cell? ⟨b, o, none⟩) ∧ (∀ b o, b < B → w1.frozen? ⟨b, o, none⟩ = W.frozen? ⟨b, o, none⟩) :=
  ⟨fun b o h => hb.cell (p := ⟨b, o, none⟩) h, fun b o h => hb.frozen (p := ⟨b, o, none⟩) h⟩
end Go.Proofs.YtemkghgcdpmlbaaDoor
/- The pieces of a text between blanks; the walk of file.words: what its function hands to each round. -/
namespace Go.Proofs.YtemkghgcdpmlbaaDoor
open Go.RowKit Go.Shelf
attribute [local go_sem] Oper.semAt_some

def pcs : Nat → List UInt8 → List (List UInt8)
  | 0, _ => []
  | k + 1, t => (Lib.cut t [32]).1 :: (if (Lib.cut t [32]).2.2 then pcs k (Lib.cut t [32]).2.1 else [])
/-- the pieces of a text -/
def pieces (t : List UInt8) : List (List UInt8) := pcs (t.length + 1) t
theorem pcs_fuel : ∀ (k m : Nat) (t : List UInt8), t.length < k → t.length < m → pcs k t = pcs m t
  | 0, _, t, h, _ => absurd h (by omega)
  | _ + 1, 0, t, _, h => absurd h (by omega)
  | k + 1, m + 1, t, h1, h2 => by
    unfold pcs
    congr 1
    split
    case isTrue hc =>
      have := cut_len32 t hc
      exact pcs_fuel k m _ (by omega) (by omega)
    case isFalse => rfl
theorem pieces_eq (t : List UInt8) : pieces t = (Lib.cut t [32]).1 :: (if (Lib.cut t [32]).2.2 then pieces (Lib.cut t [32]).2.1 else []) := by
  show pcs (t.length + 1) t = _
  rw [pcs]
  congr 1
  split
  case isTrue hc =>
    have := cut_len32 t hc
    exact pcs_fuel _ _ _ (by omega) (by omega)
  case isFalse => rfl
theorem cut_fst (t : List UInt8) : (Lib.cut t [32]).1.length ≤ t.length := by
  by_cases hm : (32 : UInt8) ∈ t
  · obtain ⟨a, b, rfl, hn⟩ := split32 hm
    rw [cut_at32 a b hn]
    simp
  · rw [cut_no32 t hm]
    exact Nat.le_refl _
theorem cut_snd (t : List UInt8) : (Lib.cut t [32]).2.1.length ≤ t.length := by
  by_cases hm : (32 : UInt8) ∈ t
  · obtain ⟨a, b, rfl, hn⟩ := split32 hm
    rw [cut_at32 a b hn]
    simp
    omega
  · rw [cut_no32 t hm]
    simp
def runP : Rf → List (List UInt8) → Option Rf
  | s, [] => some s
  | s, p :: l => match s.step p with
    | none => none
    | some s' => runP s' l
theorem run_pcs : ∀ (k : Nat) (s : Rf) (t : List UInt8), t.length < k → Rf.run k s t = runP s (pcs k t)
  | 0, _, t, h => absurd h (by omega)
  | k + 1, s, t, h => by
    unfold Rf.run pcs runP
    cases s.step (Lib.cut t [32]).1 with
    | none => rfl
    | some s' =>
      simp only
      split
      case isTrue hc =>
        have := cut_len32 t hc
        exact run_pcs k s' _ (by omega)
      case isFalse => rfl
theorem run_pieces (t : List UInt8) : Rf.run (t.length + 1) ⟨true, []⟩ t = runP ⟨true, []⟩ (pieces t) := run_pcs _ _ _ (by omega)
theorem runP_snoc : ∀ (l : List (List UInt8)) (s : Rf) (p : List UInt8), runP s (l ++ [p]) = (runP s l).bind fun s' => s'.step p
  | [], s, p => by
    show (match s.step p with | none => none | some s' => some s') = s.step p
    cases s.step p <;> rfl
  | q :: l, s, p => by
    simp only [List.cons_append, runP]
    cases s.step q with
    | none => rfl
    | some s' => exact runP_snoc l s' p
theorem runP_none : ∀ (l m : List (List UInt8)) (s : Rf), runP s l = none → runP s (l ++ m) = none
  | [], m, s, h => by simp [runP] at h
  | q :: l, m, s, h => by
    simp only [List.cons_append, runP] at h ⊢
    cases hq : s.step q with
    | none => rfl
    | some s' => rw [hq] at h; exact runP_none l m s' h
theorem step_len {s s' : Rf} {p : List UInt8} (h : s.step p = some s') (hl : s.ns.length ≤ 6) : s'.ns.length ≤ 6 := by
  unfold Rf.step at h
  split at h
  · simp only [Option.some.injEq] at h; subst h; exact hl
  · split at h
    · split at h
      · cases h
      · simp only [Option.some.injEq] at h
        subst h
        simp only [List.length_append, List.length_cons, List.length_nil]
        omega
    · cases h
/-- a piece, of a text that is not too long -/
abbrev Pc := { p : List UInt8 // p.length ≤ 1000000 }
theorem cut_ml (s : ByteArray) (m : Int) (w : World) (hm : w.cell? ⟨2, 0, none⟩ = some (.int .i64 m)) (hs : s.size ≤ 1000000) :
    Calls Tryd.prog 50 #[.string s, .string ⟨#[32]⟩] w fun e w' => e = .returned (.tuple #[.string (tB (Lib.cut s.data.toList [32]).1), .string (tB (Lib.cut s.data.toList [32]).2.1), .bool (Lib.cut s.data.toList [32]).2.2]) ∧ Below w.heap.size w w' :=
  (Tryd.strings_Cut s ⟨#[32]⟩ m w (by omega) hm).mono fun _ _ ⟨a, n, b⟩ => ⟨a, by subst b; exact below_drewN (Below.refl _ _) _⟩
def wmeas : Value → Value → Nat
  | .string s, .bool true => s.size + 1
  | _, _ => 0
set_option maxRecDepth 100000 in
set_option maxHeartbeats 3200000 in
theorem words1_in (n l Bt n₀ : Nat) (hn : 1 ≤ n) (t : List UInt8) (ht : t.length ≤ 1000000) (m : Int) (hg : 2 < n₀) (J Jx : List Pc → World → Prop) (W : World)
    (hJ : AbidesFrom W.heap.size J) (hn₀ : n₀ ≤ W.heap.size)
    (hY : ∀ pre x W1, J pre W1 → pre.length < (pieces t).length → YieldAt Fence.wide (n - 1) Tryd.prog l #[.string (tB x.1)] W1 fun e W' =>
      (e = .returned (.bool true) ∧ J (pre ++ [x]) W' ∧ Below n₀ W1 W') ∨ (e = .returned (.bool false) ∧ Jx (pre ++ [x]) W'))
    (hBt : W.cell? ⟨Bt, 0, none⟩ = some (.string (tB t))) (hm : W.cell? ⟨2, 0, none⟩ = some (.int .i64 m)) (h0 : J [] W) :
    CallsIn Fence.wide n Tryd.prog 49 #[.func (.yield l) #[] #[], .pointer (some ⟨Bt, 0, none⟩)] W fun e W' => (∃ v, e = .returned v) ∧
      ((∃ xs : List Pc, xs.map (·.1) = pieces t ∧ J xs W') ∨ (∃ pre : List Pc, pre.map (·.1) <+: pieces t ∧ Jx pre W')) := by
  refine callsIn_of_wp Tryd.func49 rfl trivial ?_ rfl
  simp only [Tryd.ntmps49, List.size_toArray, List.length_cons, List.length_nil, Nat.reduceAdd, Nat.reduceSub, Array.replicate_succ, Array.replicate_zero, List.push_toArray, List.append_toArray, List.nil_append, List.cons_append]
  gi_wp2
  have HY := Lib.hid hY
  clear hY
  gi_loopw [3, 4] (fun r b wr => ∃ (pre : List Pc) (rs : List UInt8) (more : Bool), r = .string (tB rs) ∧ b = .bool more ∧ Hid (pieces t = pre.map (·.1) ++ (if more then pieces rs else [])) ∧ rs.length ≤ t.length ∧ Hid (J pre wr) ∧ Hid (Below n₀ W wr)) (fun r b _ => wmeas r b)
  case atStart => exact ⟨[], t, true, rfl, rfl, rfl, Nat.le_refl _, h0, Below.refl _ _⟩
  case round =>
    obtain ⟨pre, rs, more, rfl, rfl, hp, hr, hJp, hB⟩ := hrel
    cases more with
    | false =>
      have hp2 : Hid (pre.map (·.1) = pieces t) := by unfold Hid; rw [hp.out]; simp
      gi_wp2
      go_end0
      exact ⟨⟨_, rfl⟩, .inl ⟨pre, hp2.out, hJp.out⟩⟩
    | true =>
      have hmw : wr.cell? ⟨2, 0, none⟩ = some (.int .i64 m) := (hB.out.cell (p := ⟨2, 0, none⟩) hg).trans hm
      have HC := Lib.hid (cut_ml (tB rs) m wr hmw (by rw [tB_size]; omega))
      rw [tB_list] at HC
      have hp1 : Hid (pieces t = pre.map (·.1) ++ ((Lib.cut rs [32]).1 :: (if (Lib.cut rs [32]).2.2 then pieces (Lib.cut rs [32]).2.1 else []))) := by
        unfold Hid; rw [hp.out, if_pos rfl, pieces_eq rs]
      have hc1 : (Lib.cut rs [32]).1.length ≤ 1000000 := Nat.le_trans (cut_fst rs) (by omega)
      have hc2 := Lib.hid (cut_len32 rs)
      have hc5 := cut_snd rs
      obtain ⟨C, hC⟩ : ∃ C, Lib.cut rs [32] = C := ⟨_, rfl⟩
      rw [hC] at HC hp1 hc1 hc2 hc5
      obtain ⟨p1, r1, f1⟩ := C
      have HC2 : Hid (Calls Tryd.prog 50 #[.string (tB rs), .string ⟨#[32]⟩] wr fun e w' => e = .returned (.tuple #[.string (tB p1), .string (tB r1), .bool f1]) ∧ Below wr.heap.size wr w') := HC.out
      have hp3 : Hid (pieces t = pre.map (·.1) ++ (p1 :: (if f1 then pieces r1 else []))) := hp1.out
      have hc3 : Hid (f1 = true → r1.length < rs.length) := hc2.out
      have hc4 : p1.length ≤ 1000000 := hc1
      have hc6 : r1.length ≤ rs.length := hc5
      have hpl : pre.length < (pieces t).length := by rw [hp3.out]; simp
      clear HC hp1 hc1 hc2 hc5 hC hp hmw
      gi_wp2_with ((refine ⟨trivial, ?_⟩; gi_at_call 50; (with_reducible refine (callsIn_wide.2 HC2.out).mono ?_); rintro e w2 ⟨rfl, hb2⟩; have hJ2 := hJ _ wr w2 none hJp.out (grown_of_below hb2 none) (fun r e => by cases e); obtain ⟨fn, tmps, assign, body, hy, hR⟩ := HY.out pre ⟨p1, hc4⟩ w2 hJ2 hpl; dsimp only at hy))
      refine hR.mono ?_
      rintro e W3 (⟨rfl, hJ3, hk3⟩ | ⟨rfl, hJx3⟩)
      · gi_wp2
        go_roundw
        case rel => exact ⟨pre ++ [⟨p1, hc4⟩], r1, f1, rfl, rfl, by unfold Hid; rw [hp3.out]; simp, by omega, Lib.hid hJ3, Lib.hid ((hB.out.trans (hb2.mono (Nat.le_trans hn₀ hB.out.size))).trans hk3)⟩
        case measure =>
          have h7 := hc3.out
          cases f1 with
          | true => have := h7 rfl; simp only [wmeas, tB_size]; omega
          | false => simp only [wmeas, tB_size]; omega
      · gi_wp2
        refine bodyPost_ret (results_none rfl _ _ _) rfl ?_
        exact ⟨⟨_, rfl⟩, .inr ⟨pre ++ [⟨p1, hc4⟩], ⟨if f1 then pieces r1 else [], by rw [hp3.out]; simp⟩, hJx3⟩⟩
theorem words1_stops (n Bt n₀ : Nat) (hn : 1 ≤ n) (t : List UInt8) (ht : t.length ≤ 1000000) (m : Int) (hg : 2 < n₀) (w : World) (hn₀ : n₀ ≤ w.heap.size) (hBl : Bt < w.heap.size)
    (hBt : w.cell? ⟨Bt, 0, none⟩ = some (.string (tB t))) (hm : w.cell? ⟨2, 0, none⟩ = some (.int .i64 m)) :
    SeqStopsK Fence.wide n Tryd.prog 49 #[.pointer (some ⟨Bt, 0, none⟩)] (fun x : Pc => #[.string (tB x.1)]) (Below n₀) (fun xs => xs.map (·.1) = pieces t) (fun pre => pre.map (·.1) <+: pieces t) (pieces t).length w := fun l J Jx W hW hJ _ hY h0 =>
  words1_in n l Bt n₀ hn t ht m hg J Jx W hJ (Nat.le_trans hn₀ hW.size) hY ((hW.cell (p := ⟨Bt, 0, none⟩) hBl).trans hBt) ((hW.cell (p := ⟨2, 0, none⟩) (show 2 < w.heap.size by omega)).trans hm) h0
theorem words_any (s : ByteArray) (w : World) : Calls Tryd.prog 36 #[.string s] w fun e w' => e = .returned (.func (.func 49) #[] #[.pointer (some ⟨w.heap.size, 0, none⟩)]) ∧ w' = w.alloc (.cells #[.string s] 9) := by
  go_enter Tryd.func36, Tryd.ntmps36
  go_wp2
  go_ret
  exact ⟨rfl, rfl⟩
end Go.Proofs.YtemkghgcdpmlbaaDoor
/- The walks of file.compare, cmp.Or at two numbers, and the closures handed to the binary search. -/
namespace Go.Proofs.YtemkghgcdpmlbaaDoor
open Go.RowKit Go.Sort

def orI (a b : Int) : Int := if a = 0 then b else a
set_option maxHeartbeats 1600000 in
theorem or2_any (a b : Int) (g : Nat) (w : World) (hg : Blk w g 3 #[.int .i64 a, .int .i64 b]) :
    Calls Tryd.prog 45 #[.slice (some ⟨g, 0, none⟩) 2 2] w fun e w' => e = .returned (.int .i64 (orI a b)) ∧ w = w' := by
  have c0 : w.cell? ⟨g, 0, none⟩ = some (.int .i64 a) := hg.cell 0
  have c1 : w.cell? ⟨g, 1, none⟩ = some (.int .i64 b) := hg.cell 1
  obtain ⟨r, hr⟩ : ∃ r, orI a b = r := ⟨_, rfl⟩
  rw [hr]
  have HR := Lib.hid hr
  clear hg hr
  go_enter Tryd.func45, Tryd.ntmps45
  go_wp2
  go_loop [8] (fun y => ∃ i : Nat, i ≤ 2 ∧ y = .int .i64 i ∧ Hid (0 < i → a = 0) ∧ Hid (1 < i → b = 0)) (fun y => 2 - (intOf y).toNat)
  case atStart => exact ⟨0, by omega, rfl, fun h => absurd h (by omega), fun h => absurd h (by omega)⟩
  case round =>
    obtain ⟨i, hi, rfl, h0, h1⟩ := hrel
    rcases (show i = 0 ∨ i = 1 ∨ i = 2 by omega) with rfl | rfl | rfl
    · cases t1 : (a != 0) with
      | true =>
        have hz : Hid (r = a) := by unfold Hid; rw [← HR.out]; unfold orI; rw [if_neg (by simpa using t1)]
        go_wp2
        go_ret
        exact ⟨ret_int hz.out.symm, rfl⟩
      | false =>
        have hz : Hid (a = 0) := by unfold Hid; simpa using t1
        go_wp2
        go_round
        case rel => exact ⟨1, by omega, rfl, fun _ => hz.out, fun h => absurd h (by omega)⟩
        case measure => simp [intOf]
    · cases t1 : (b != 0) with
      | true =>
        have hz : Hid (r = b) := by unfold Hid; rw [← HR.out]; unfold orI; rw [if_pos (h0.out (by omega))]
        go_wp2
        go_ret
        exact ⟨ret_int hz.out.symm, rfl⟩
      | false =>
        have hz : Hid (b = 0) := by unfold Hid; simpa using t1
        go_wp2
        go_round
        case rel => exact ⟨2, by omega, rfl, fun _ => h0.out (by omega), fun _ => hz.out⟩
        case measure => simp [intOf]
    · have hz : Hid (r = 0) := by unfold Hid; rw [← HR.out]; unfold orI; rw [if_pos (h0.out (by omega)), h1.out (by omega)]
      go_wp2
      go_ret
      exact ⟨ret_int hz.out.symm, rfl⟩
theorem cmpO_if (x y : Int × Int) : orI (cmpI x.1 y.1) (cmpI x.2 y.2) = cmpO x y := rfl
set_option maxHeartbeats 1600000 in
theorem compare_any (x y : Int × Int) (w : World) :
    Calls Tryd.prog 29 #[.agg (bA x), .agg (bA y)] w fun e w' => e = .returned (.int .i64 (cmpO x y)) ∧ Below w.heap.size w w' := by
  have HN := Lib.hid (fun (a b : Int) W => cmp_any a b W)
  have HO := Lib.hid (fun (a b : Int) (g : Nat) W (h : Blk W g 3 #[.int .i64 a, .int .i64 b]) => or2_any a b g W h)
  go_enter Tryd.func29, Tryd.ntmps29
  go_upto_region 1 with (fail)
  refine name_wp ?_
  intro X hX
  have gba : Blk X w.heap.size 35 (bA x) := by rw [hX]; exact (blk_at (by simp)).alloc _
  have gbb : Blk X (w.heap.size + 1) 35 (bA y) := by rw [hX]; exact blk_at (by simp)
  have HB : Below w.heap.size w X := by rw [hX]; (repeat (first | with_reducible assumption | with_reducible exact Below.refl _ _ | with_reducible refine below_drewN ?_ _ | with_reducible refine Below.drew ?_ | with_reducible refine below_alloc ?_ _ | with_reducible refine Below.setCell ?_ (by first | omega | (simp; done) | (simp; omega)) _ | with_reducible refine below_then ?_ (by with_reducible assumption) | (refine below_then (a := World.drew _) ?_ (by with_reducible assumption))))
  clear hX
  obtain ⟨bb, ebb⟩ : ∃ b, w.heap.size + 1 = b := ⟨_, rfl⟩
  obtain ⟨ba, eba⟩ : ∃ b, w.heap.size = b := ⟨_, rfl⟩
  rw [ebb] at gbb ⊢
  rw [eba] at gba ⊢
  clear eba ebb
  have a0 : X.cell? ⟨ba, 0, none⟩ = some (.int .i64 x.1) := gba.cell 0
  have a1 : X.cell? ⟨ba, 1, none⟩ = some (.int .i64 x.2) := gba.cell 1
  have b0 : X.cell? ⟨bb, 0, none⟩ = some (.int .i64 y.1) := gbb.cell 0
  have b1 : X.cell? ⟨bb, 1, none⟩ = some (.int .i64 y.2) := gbb.cell 1
  have rg0 := cell_regrown a0
  have rg1 := cell_regrown a1
  have rg2 := cell_regrown b0
  have rg3 := cell_regrown b1
  refine wp_region_qt [0, 1, 2, 3, 4, 5, 6, 7, 8, 9] [10, 11, 12] (by kernel_rfl) (by kernel_rfl) (by repeat (first | with_reducible refine panOk_then ?_ | with_reducible refine panOk_block ?_ | exact panOk_body)) ?_
  simp only [opsAt, List.getElem?_toArray, List.getElem?_cons_succ, List.getElem?_cons_zero, Option.toList_some, List.cons_append, List.nil_append]
  repeat (go_big_quiet_step ((go_at_call 41; with_reducible exact qt_call (fun W' _ => (HN.out _ _ W').mono fun e w' h => ⟨h.1, h.2 ▸ Below.refl _ _⟩) _ _)))
  refine wpQuiet_nil ?_
  intro Y hw2
  have hbY := qt_world hw2
  clear hw2 rg0 rg1 rg2 rg3
  go_wp2_with (go_at_call 45; (with_reducible refine (HO.out (cmpI x.1 y.1) (cmpI x.2 y.2) _ _ (Blk.new _ _ _)).mono ?_); rintro e w' ⟨rfl, rfl⟩)
  go_ret
  exact ⟨rfl, below_then HB (below_alloc hbY _)⟩
/-- the closure of Order -/
theorem ord1_any (x y : Int × Int) (g : Nat) (w : World) (hg : Blk w g 35 (bA y)) :
    Calls Tryd.prog 28 #[.agg (bA x), .pointer (some ⟨g, 0, none⟩)] w fun e w' => e = .returned (.int .i64 (cmpO x y)) ∧ Below w.heap.size w w' := by
  have HC := Lib.hid (fun W => compare_any x y W)
  have c0 : w.cell? ⟨g, 0, none⟩ = some (.int .i64 y.1) := hg.cell 0
  have c1 : w.cell? ⟨g, 1, none⟩ = some (.int .i64 y.2) := hg.cell 1
  have lg := hg.lt
  clear hg
  go_enter Tryd.func28, Tryd.ntmps28
  go_wp2_with (go_at_call 29; (with_reducible refine (HC.out _).mono ?_); rintro e w1 ⟨rfl, hb1⟩)
  go_ret
  exact ⟨rfl, below_then (wa1 _ _) hb1⟩
end Go.Proofs.YtemkghgcdpmlbaaDoor
/- The walks of the binary search among facts and among orders. -/
namespace Go.Proofs.YtemkghgcdpmlbaaDoor
open Go.RowKit Go.Sort

theorem tw_len {α : Type} {f : α → Bool} : ∀ {l : List α} {i : Nat}, (∀ q x, q < i → l[q]? = some x → f x = true) → (∀ x, l[i]? = some x → f x = false) → i ≤ l.length → (l.takeWhile f).length = i
  | [], i, _, _, h => by simp at h; simp [h]
  | a :: l, 0, _, h, _ => by rw [List.takeWhile_cons, if_neg (by rw [h a rfl]; simp)]; rfl
  | a :: l, i + 1, h1, h2, h3 => by
    rw [List.takeWhile_cons, if_pos (h1 0 a (by omega) rfl), List.length_cons, tw_len (i := i) (fun q x hq hx => h1 (q + 1) x (by omega) (by simpa using hx)) (fun x hx => h2 x (by simpa using hx)) (by simpa using h3)]

set_option maxHeartbeats 1600000 in
/-- the closure of place: it asks the function that place was handed -/
theorem place1F_any (x : Fac) (r : Int) (h g : Nat) (w : World) (hg : Blk w g 90 #[.func (.func 40) #[] #[.pointer (some ⟨h, 0, none⟩)]])
    (HF : Hid (∀ W, Below w.heap.size w W → Calls Tryd.prog 40 #[.agg (fA x), .pointer (some ⟨h, 0, none⟩)] W fun e w' => e = .returned (.int .i64 r) ∧ Below W.heap.size W w')) :
    Calls Tryd.prog 55 #[.agg (fA x), .int .i64 0, .pointer (some ⟨g, 0, none⟩)] w fun e w' => e = .returned (.int .i64 r) ∧ Below w.heap.size w w' := by
  have c0 : w.cell? ⟨g, 0, none⟩ = some (.func (.func 40) #[] #[.pointer (some ⟨h, 0, none⟩)]) := hg.cell 0
  have lg := hg.lt
  have HF2 := Lib.hid (fun (o : Obj) => HF.out (w.alloc o) (wa1 w o))
  clear hg HF
  go_enter Tryd.func55, Tryd.ntmps55
  go_wp2_with (go_at_call 40; (with_reducible refine (HF2.out _).mono ?_); rintro e w1 ⟨rfl, hb1⟩)
  go_ret
  exact ⟨rfl, below_then (wa1 _ _) hb1⟩
set_option maxRecDepth 100000 in
set_option maxHeartbeats 3200000 in
/-- the binary search: how many elements compare below 0, and whether the next one compares equal -/
theorem bsfF_any (A : Option Addr) (c : Nat) (l : List Fac) (p : Fac → Int) (h g : Nat) (y : Int) (w : World) (hl : l.length ≤ 1000000) (hs : Seg w w.heap.size 6 eF A l)
    (hg : Blk w g 90 #[.func (.func 40) #[] #[.pointer (some ⟨h, 0, none⟩)]]) (hh : Blk w h 3 #[.int .i64 y]) (hp : ∀ x, p x = cmpI x.ref y)
    (hm : ∀ (q d : Nat) (x x' : Fac), q ≤ d → l[q]? = some x → l[d]? = some x' → p x' < 0 → p x < 0) (hm2 : ∀ (q d : Nat) (x x' : Fac), q ≤ d → l[q]? = some x → l[d]? = some x' → 0 < p x → 0 < p x') :
    Calls Tryd.prog 54 #[.slice A l.length c, .int .i64 0, .func (.func 55) #[] #[.pointer (some ⟨g, 0, none⟩)]] w fun e w' =>
      e = .returned (.tuple #[.int .i64 ((l.takeWhile fun x => decide (p x < 0)).length : Nat), .bool (l.any fun x => p x == 0)]) ∧ Below w.heap.size w w' := by
  have HF := Lib.hid (fun (x : Fac) W (hb : Below w.heap.size w W) => place1F_any x (p x) h g W (hg.then_ hb) (Lib.hid fun W' hb' => by rw [hp]; exact (ref1_any x y h W' ((hh.then_ hb).then_ hb'))))
  have HS := Lib.hid hs
  have HM := Lib.hid hm
  have HM2 := Lib.hid hm2
  obtain ⟨N, eN⟩ : ∃ N : Nat, (l.takeWhile fun x => decide (p x < 0)).length = N := ⟨_, rfl⟩
  obtain ⟨R, eR⟩ : ∃ R, (l.any fun x => p x == 0) = R := ⟨_, rfl⟩
  rw [eN, eR]
  have HN := Lib.hid eN
  have HR := Lib.hid eR
  clear hs hg hh hp hm hm2 eN eR
  go_enter Tryd.func54, Tryd.ntmps54
  go_wp2
  go_loopw [9, 10] (fun u v WR => ∃ i j : Nat, i ≤ j ∧ j ≤ l.length ∧ u = .int .i64 i ∧ v = .int .i64 j ∧ Hid ((∀ q x, q < i → l[q]? = some x → p x < 0) ∧ (∀ q x, j ≤ q → l[q]? = some x → 0 ≤ p x)) ∧ Hid (Below w.heap.size w WR)) (fun u v _ => (intOf v).toNat - (intOf u).toNat)
  case atStart => exact ⟨0, l.length, by omega, by omega, rfl, rfl, ⟨fun q x hq => absurd hq (by omega), fun q x hq hx => by rw [List.getElem?_eq_none hq] at hx; cases hx⟩, Below.refl _ _⟩
  case round =>
    obtain ⟨i, j, hij, hj, rfl, rfl, hI, hB⟩ := hrel
    by_cases hlt : i < j
    · obtain ⟨d, hd⟩ : ∃ d : Nat, d = (i + j) / 2 := ⟨_, rfl⟩
      have q1 : i ≤ d := by omega
      have q2 : d < j := by omega
      have HE := Lib.hid (show ((i : Int) + (j : Int)) / 2 = (d : Int) by omega)
      clear hd
      obtain ⟨x, hx⟩ : ∃ x, l[d]? = some x := ⟨_, List.getElem?_eq_getElem (by omega)⟩
      obtain ⟨b0, o0, e0, hb0, hc0⟩ := segAt (HS.out.below hB.out) hx
      have hdl : d < l.length := by omega
      have hix := fun W => idx_at (t := 28) (size := 6) (cap := c) (len := l.length) e0 hdl (by kernel_rfl) (fun W => by kernel_rfl) W
      have c0 : wr.cell? ⟨b0, o0 + d * 6, none⟩ = some (.int .i64 x.ref) := hc0 0 _ rfl
      have c1 : wr.cell? ⟨b0, o0 + d * 6 + 1, none⟩ = some (.int .i64 x.act) := hc0 1 _ rfl
      have c2 : wr.cell? ⟨b0, o0 + d * 6 + 2, none⟩ = some (.int .i64 x.low) := hc0 2 _ rfl
      have c3 : wr.cell? ⟨b0, o0 + d * 6 + 3, none⟩ = some (.int .i64 x.high) := hc0 3 _ rfl
      have c4 : wr.cell? ⟨b0, o0 + d * 6 + 4, none⟩ = some (.int .i64 x.filed) := hc0 4 _ rfl
      have c5 : wr.cell? ⟨b0, o0 + d * 6 + 5, none⟩ = some (.bool x.sec) := hc0 5 _ rfl
      have HX := Lib.hid hx
      have HC := Lib.hid (HF.out x wr hB.out)
      obtain ⟨r, er⟩ : ∃ r, p x = r := ⟨_, rfl⟩
      rw [er] at HC
      have HER := Lib.hid er
      clear hx hc0 e0 er
      go_upto_region 5 with (fail)
      rw [HE.out]
      by_cases hr : r < 0
      · go_wp2_with (go_at_call 55; (with_reducible refine HC.out.mono ?_); rintro e w1 ⟨rfl, hb1⟩)
        go_roundw
        case rel =>
          refine ⟨d + 1, j, by omega, hj, by go_num, rfl, ⟨fun q z hq hz => ?_, hI.out.2⟩, below_then hB.out hb1⟩
          exact HM.out q d z x (by omega) hz HX.out (by rw [HER.out]; exact hr)
        case measure => simp [intOf]; omega
      · go_wp2_with (go_at_call 55; (with_reducible refine HC.out.mono ?_); rintro e w1 ⟨rfl, hb1⟩)
        go_roundw
        case rel =>
          refine ⟨i, d, by omega, by omega, rfl, rfl, ⟨hI.out.1, fun q z hq hz => Int.not_lt.1 fun hn => ?_⟩, below_then hB.out hb1⟩
          have := HM.out d q x z hq HX.out hz hn
          rw [HER.out] at this
          omega
        case measure => simp [intOf]; omega
    · obtain rfl : i = j := by omega
      have hN : Hid (N = i) := by
        unfold Hid
        rw [← HN.out]
        exact tw_len (fun q x hq hx => decide_eq_true (hI.out.1 q x hq hx)) (fun x hx => decide_eq_false (Int.not_lt.2 (hI.out.2 i x (Nat.le_refl _) hx))) hj
      by_cases hlt2 : i < l.length
      · obtain ⟨x, hx⟩ : ∃ x, l[i]? = some x := ⟨_, List.getElem?_eq_getElem hlt2⟩
        obtain ⟨b0, o0, e0, hb0, hc0⟩ := segAt (HS.out.below hB.out) hx
        have hix := fun W => idx_at (t := 28) (size := 6) (cap := c) (len := l.length) e0 hlt2 (by kernel_rfl) (fun W => by kernel_rfl) W
        have c0 : wr.cell? ⟨b0, o0 + i * 6, none⟩ = some (.int .i64 x.ref) := hc0 0 _ rfl
        have c1 : wr.cell? ⟨b0, o0 + i * 6 + 1, none⟩ = some (.int .i64 x.act) := hc0 1 _ rfl
        have c2 : wr.cell? ⟨b0, o0 + i * 6 + 2, none⟩ = some (.int .i64 x.low) := hc0 2 _ rfl
        have c3 : wr.cell? ⟨b0, o0 + i * 6 + 3, none⟩ = some (.int .i64 x.high) := hc0 3 _ rfl
        have c4 : wr.cell? ⟨b0, o0 + i * 6 + 4, none⟩ = some (.int .i64 x.filed) := hc0 4 _ rfl
        have c5 : wr.cell? ⟨b0, o0 + i * 6 + 5, none⟩ = some (.bool x.sec) := hc0 5 _ rfl
        have HX := Lib.hid hx
        have HC := Lib.hid (HF.out x wr hB.out)
        obtain ⟨r, er⟩ : ∃ r, p x = r := ⟨_, rfl⟩
        rw [er] at HC
        have hR : Hid (R = (r == 0)) := by
          unfold Hid
          rw [← HR.out, ← er, Bool.eq_iff_iff, List.any_eq_true]
          simp only [beq_iff_eq]
          constructor
          · rintro ⟨z, hz, e⟩
            obtain ⟨q, hq, rfl⟩ := List.getElem_of_mem hz
            have hz' := List.getElem?_eq_getElem hq
            have n1 := hI.out.2 i x (Nat.le_refl _) hx
            rcases Nat.lt_or_ge q i with h1 | h1
            · have := hI.out.1 q _ h1 hz'
              omega
            · rcases Int.lt_or_eq_of_le (show 0 ≤ p x by omega) with h2 | h2
              · have := HM2.out i q x _ h1 hx hz' h2
                omega
              · exact h2.symm
          · intro h
            exact ⟨x, List.mem_of_getElem? hx, h⟩
        clear hx hc0 e0 er
        go_wp2_with (go_at_call 55; (with_reducible refine HC.out.mono ?_); rintro e w1 ⟨rfl, hb1⟩)
        go_ret2
        exact ⟨by rw [hN.out, hR.out]; rfl, below_then hB.out hb1⟩
      · have hR : Hid (R = false) := by
          unfold Hid
          rw [← HR.out, List.any_eq_false]
          intro z hz
          obtain ⟨q, hq, rfl⟩ := List.getElem_of_mem hz
          have := hI.out.1 q _ (by omega) (List.getElem?_eq_getElem hq)
          simp
          omega
        go_wp2
        go_ret2
        exact ⟨by rw [hN.out, hR.out]; rfl, hB.out⟩

set_option maxHeartbeats 1600000 in
/-- the closure of place: it asks the function that place was handed -/
theorem place1O_any (x : (Int × Int)) (r : Int) (h g : Nat) (w : World) (hg : Blk w g 70 #[.func (.func 28) #[] #[.pointer (some ⟨h, 0, none⟩)]])
    (HF : Hid (∀ W, Below w.heap.size w W → Calls Tryd.prog 28 #[.agg (bA x), .pointer (some ⟨h, 0, none⟩)] W fun e w' => e = .returned (.int .i64 r) ∧ Below W.heap.size W w')) :
    Calls Tryd.prog 44 #[.agg (bA x), .int .i64 0, .pointer (some ⟨g, 0, none⟩)] w fun e w' => e = .returned (.int .i64 r) ∧ Below w.heap.size w w' := by
  have c0 : w.cell? ⟨g, 0, none⟩ = some (.func (.func 28) #[] #[.pointer (some ⟨h, 0, none⟩)]) := hg.cell 0
  have lg := hg.lt
  have HF2 := Lib.hid (fun (o : Obj) => HF.out (w.alloc o) (wa1 w o))
  clear hg HF
  go_enter Tryd.func44, Tryd.ntmps44
  go_wp2_with (go_at_call 28; (with_reducible refine (HF2.out _).mono ?_); rintro e w1 ⟨rfl, hb1⟩)
  go_ret
  exact ⟨rfl, below_then (wa1 _ _) hb1⟩
set_option maxRecDepth 100000 in
set_option maxHeartbeats 3200000 in
/-- the binary search: how many elements compare below 0, and whether the next one compares equal -/
theorem bsfO_any (A : Option Addr) (c : Nat) (l : List (Int × Int)) (p : (Int × Int) → Int) (h g : Nat) (y : (Int × Int)) (w : World) (hl : l.length ≤ 1000000) (hs : Seg w w.heap.size 2 eS A l)
    (hg : Blk w g 70 #[.func (.func 28) #[] #[.pointer (some ⟨h, 0, none⟩)]]) (hh : Blk w h 35 (bA y)) (hp : ∀ x, p x = cmpO x y)
    (hm : ∀ (q d : Nat) (x x' : (Int × Int)), q ≤ d → l[q]? = some x → l[d]? = some x' → p x' < 0 → p x < 0) (hm2 : ∀ (q d : Nat) (x x' : (Int × Int)), q ≤ d → l[q]? = some x → l[d]? = some x' → 0 < p x → 0 < p x') :
    Calls Tryd.prog 43 #[.slice A l.length c, .int .i64 0, .func (.func 44) #[] #[.pointer (some ⟨g, 0, none⟩)]] w fun e w' =>
      e = .returned (.tuple #[.int .i64 ((l.takeWhile fun x => decide (p x < 0)).length : Nat), .bool (l.any fun x => p x == 0)]) ∧ Below w.heap.size w w' := by
  have HF := Lib.hid (fun (x : (Int × Int)) W (hb : Below w.heap.size w W) => place1O_any x (p x) h g W (hg.then_ hb) (Lib.hid fun W' hb' => by rw [hp]; exact (ord1_any x y h W' ((hh.then_ hb).then_ hb'))))
  have HS := Lib.hid hs
  have HM := Lib.hid hm
  have HM2 := Lib.hid hm2
  obtain ⟨N, eN⟩ : ∃ N : Nat, (l.takeWhile fun x => decide (p x < 0)).length = N := ⟨_, rfl⟩
  obtain ⟨R, eR⟩ : ∃ R, (l.any fun x => p x == 0) = R := ⟨_, rfl⟩
  rw [eN, eR]
  have HN := Lib.hid eN
  have HR := Lib.hid eR
  clear hs hg hh hp hm hm2 eN eR
  go_enter Tryd.func43, Tryd.ntmps43
  go_wp2
  go_loopw [9, 10] (fun u v WR => ∃ i j : Nat, i ≤ j ∧ j ≤ l.length ∧ u = .int .i64 i ∧ v = .int .i64 j ∧ Hid ((∀ q x, q < i → l[q]? = some x → p x < 0) ∧ (∀ q x, j ≤ q → l[q]? = some x → 0 ≤ p x)) ∧ Hid (Below w.heap.size w WR)) (fun u v _ => (intOf v).toNat - (intOf u).toNat)
  case atStart => exact ⟨0, l.length, by omega, by omega, rfl, rfl, ⟨fun q x hq => absurd hq (by omega), fun q x hq hx => by rw [List.getElem?_eq_none hq] at hx; cases hx⟩, Below.refl _ _⟩
  case round =>
    obtain ⟨i, j, hij, hj, rfl, rfl, hI, hB⟩ := hrel
    by_cases hlt : i < j
    · obtain ⟨d, hd⟩ : ∃ d : Nat, d = (i + j) / 2 := ⟨_, rfl⟩
      have q1 : i ≤ d := by omega
      have q2 : d < j := by omega
      have HE := Lib.hid (show ((i : Int) + (j : Int)) / 2 = (d : Int) by omega)
      clear hd
      obtain ⟨x, hx⟩ : ∃ x, l[d]? = some x := ⟨_, List.getElem?_eq_getElem (by omega)⟩
      obtain ⟨b0, o0, e0, hb0, hc0⟩ := segAt (HS.out.below hB.out) hx
      have hdl : d < l.length := by omega
      have hix := fun W => idx_at (t := 29) (size := 2) (cap := c) (len := l.length) e0 hdl (by kernel_rfl) (fun W => by kernel_rfl) W
      have c0 : wr.cell? ⟨b0, o0 + d * 2, none⟩ = some (.int .i64 x.1) := hc0 0 _ rfl
      have c1 : wr.cell? ⟨b0, o0 + d * 2 + 1, none⟩ = some (.int .i64 x.2) := hc0 1 _ rfl
      have HX := Lib.hid hx
      have HC := Lib.hid (HF.out x wr hB.out)
      obtain ⟨r, er⟩ : ∃ r, p x = r := ⟨_, rfl⟩
      rw [er] at HC
      have HER := Lib.hid er
      clear hx hc0 e0 er
      go_upto_region 5 with (fail)
      rw [HE.out]
      by_cases hr : r < 0
      · go_wp2_with (go_at_call 44; (with_reducible refine HC.out.mono ?_); rintro e w1 ⟨rfl, hb1⟩)
        go_roundw
        case rel =>
          refine ⟨d + 1, j, by omega, hj, by go_num, rfl, ⟨fun q z hq hz => ?_, hI.out.2⟩, below_then hB.out hb1⟩
          exact HM.out q d z x (by omega) hz HX.out (by rw [HER.out]; exact hr)
        case measure => simp [intOf]; omega
      · go_wp2_with (go_at_call 44; (with_reducible refine HC.out.mono ?_); rintro e w1 ⟨rfl, hb1⟩)
        go_roundw
        case rel =>
          refine ⟨i, d, by omega, by omega, rfl, rfl, ⟨hI.out.1, fun q z hq hz => Int.not_lt.1 fun hn => ?_⟩, below_then hB.out hb1⟩
          have := HM.out d q x z hq HX.out hz hn
          rw [HER.out] at this
          omega
        case measure => simp [intOf]; omega
    · obtain rfl : i = j := by omega
      have hN : Hid (N = i) := by
        unfold Hid
        rw [← HN.out]
        exact tw_len (fun q x hq hx => decide_eq_true (hI.out.1 q x hq hx)) (fun x hx => decide_eq_false (Int.not_lt.2 (hI.out.2 i x (Nat.le_refl _) hx))) hj
      by_cases hlt2 : i < l.length
      · obtain ⟨x, hx⟩ : ∃ x, l[i]? = some x := ⟨_, List.getElem?_eq_getElem hlt2⟩
        obtain ⟨b0, o0, e0, hb0, hc0⟩ := segAt (HS.out.below hB.out) hx
        have hix := fun W => idx_at (t := 29) (size := 2) (cap := c) (len := l.length) e0 hlt2 (by kernel_rfl) (fun W => by kernel_rfl) W
        have c0 : wr.cell? ⟨b0, o0 + i * 2, none⟩ = some (.int .i64 x.1) := hc0 0 _ rfl
        have c1 : wr.cell? ⟨b0, o0 + i * 2 + 1, none⟩ = some (.int .i64 x.2) := hc0 1 _ rfl
        have HX := Lib.hid hx
        have HC := Lib.hid (HF.out x wr hB.out)
        obtain ⟨r, er⟩ : ∃ r, p x = r := ⟨_, rfl⟩
        rw [er] at HC
        have hR : Hid (R = (r == 0)) := by
          unfold Hid
          rw [← HR.out, ← er, Bool.eq_iff_iff, List.any_eq_true]
          simp only [beq_iff_eq]
          constructor
          · rintro ⟨z, hz, e⟩
            obtain ⟨q, hq, rfl⟩ := List.getElem_of_mem hz
            have hz' := List.getElem?_eq_getElem hq
            have n1 := hI.out.2 i x (Nat.le_refl _) hx
            rcases Nat.lt_or_ge q i with h1 | h1
            · have := hI.out.1 q _ h1 hz'
              omega
            · rcases Int.lt_or_eq_of_le (show 0 ≤ p x by omega) with h2 | h2
              · have := HM2.out i q x _ h1 hx hz' h2
                omega
              · exact h2.symm
          · intro h
            exact ⟨x, List.mem_of_getElem? hx, h⟩
        clear hx hc0 e0 er
        go_wp2_with (go_at_call 44; (with_reducible refine HC.out.mono ?_); rintro e w1 ⟨rfl, hb1⟩)
        go_ret2
        exact ⟨by rw [hN.out, hR.out]; rfl, below_then hB.out hb1⟩
      · have hR : Hid (R = false) := by
          unfold Hid
          rw [← HR.out, List.any_eq_false]
          intro z hz
          obtain ⟨q, hq, rfl⟩ := List.getElem_of_mem hz
          have := hI.out.1 q _ (by omega) (List.getElem?_eq_getElem hq)
          simp
          omega
        go_wp2
        go_ret2
        exact ⟨by rw [hN.out, hR.out]; rfl, hB.out⟩
end Go.Proofs.YtemkghgcdpmlbaaDoor
