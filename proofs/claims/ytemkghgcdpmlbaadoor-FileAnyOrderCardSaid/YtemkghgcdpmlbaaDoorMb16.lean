/- Contracts of functions and plain laws, joined: Fd4. -/
import Derived.Test.YtemkghgcdpmlbaaDoorMb5
import Derived.Test.YtemkghgcdpmlbaaDoorMb15
import Derived.Maps.AppendAt
/- The walk of file.Parse: a range over the function that hands out the pieces. -/
namespace Go.Proofs.YtemkghgcdpmlbaaDoor
open Go.RowKit Go.Shelf
attribute [local go_sem] Oper.semAt_some

abbrev z6 : Array Value := #[.int .i64 0, .int .i64 0, .int .i64 0, .int .i64 0, .int .i64 0, .bool false]
abbrev Fac.zero : Fac := ⟨0, 0, 0, 0, 0, false⟩
def parF (t : List UInt8) : Fac := (prsF t).getD Fac.zero
def parE (t : List UInt8) : Int := if (prsF t).isSome then 0 else 6
/-- the pieces as texts -/
def strs (pre : List Pc) : List (List UInt8) := pre.map (·.1)
/-- between two rounds -/
structure PI (w : World) (b2 b3 b4 b5 n₀ : Nat) (ps : List (List UInt8)) (W : World) : Prop where
  ex : ∃ st v, runP ⟨true, []⟩ ps = some st ∧ st.ns.length ≤ 6 ∧ (∀ n ∈ st.ns, J64 n) ∧ Blk W b4 22 #[v] ∧ Own W n₀ 3 1 eI v st.ns ∧ Blk W b5 4 #[.bool st.first]
  g2 : Blk W b2 33 z6
  g3 : Blk W b3 39 #[.int .i64 0]
  hb : Below n₀ w W
/-- a round has left -/
structure PX (w : World) (b2 b3 n₀ : Nat) (ps : List (List UInt8)) (W : World) : Prop where
  ex : runP ⟨true, []⟩ ps = none
  g2 : Blk W b2 33 z6
  g3 : Blk W b3 39 #[.int .i64 6]
  hb : Below n₀ w W
theorem blk_nr {W : World} {g B : Nat} {t : TypeId} {cs : Array Value} {row : Option Nat} (h : Blk W g t cs) (hr : ∀ r, row = some r → B ≤ r ∧ ∃ o : Obj, W.heap[r]? = some o ∧ o.isCells = false) : some g ≠ row := fun e => by
  obtain ⟨_, o, ho, hc⟩ := hr g e.symm
  have h' : W.heap[g]? = some (.cells cs t (0, 0)) := h
  rw [h'] at ho
  cases ho
  cases hc
theorem own_nr {α : Type} {W : World} {B n₀ : Nat} {T : TypeId} {size : Nat} {enc : α → List Value} {v : Value} {xs : List α} {row : Option Nat} (h : Own W n₀ T size enc v xs) (hr : ∀ r, row = some r → B ≤ r ∧ ∃ o : Obj, W.heap[r]? = some o ∧ o.isCells = false) : v.ownBlock = none ∨ v.ownBlock ≠ row := by
  rcases h.2 with ⟨e, _⟩ | ⟨g, cap, cur, e, _, hh, _⟩
  · exact .inl (by rw [e]; rfl)
  · refine .inr fun e2 => ?_
    rw [e] at e2
    obtain ⟨_, o, ho, hc⟩ := hr g e2.symm
    rw [hh] at ho
    cases ho
    cases hc
theorem pi_from {w : World} {b2 b3 b4 b5 n₀ B : Nat} (h1 : n₀ ≤ w.heap.size) (h2 : n₀ ≤ B) : OwnFrom B (fun (pre : List Pc) W => PI w b2 b3 b4 b5 n₀ (strs pre) W) := fun s W W' row hs hg hr => by
  obtain ⟨st, v, e1, e2, e3, g4, o4, g5⟩ := hs.ex
  exact ⟨⟨st, v, e1, e2, e3, g4.grown hg (blk_nr g4 hr), World.ownsRow.kept o4 hg (own_nr o4 hr), g5.grown hg (blk_nr g5 hr)⟩, hs.g2.grown hg (blk_nr hs.g2 hr), hs.g3.grown hg (blk_nr hs.g3 hr),
    ownFrom_below (β := Unit) h1 h2 () W W' row hs.hb hg hr⟩
theorem px_from {w : World} {b2 b3 n₀ B : Nat} (h1 : n₀ ≤ w.heap.size) (h2 : n₀ ≤ B) (c : Code) : OwnFrom B (fun (pre : List Pc) W => c = .ret ∧ PX w b2 b3 n₀ (strs pre) W) := fun _s W W' row hs hg hr =>
  ⟨hs.1, hs.2.ex, hs.2.g2.grown hg (blk_nr hs.2.g2 hr), hs.2.g3.grown hg (blk_nr hs.2.g3 hr), ownFrom_below (β := Unit) h1 h2 () W W' row hs.2.hb hg hr⟩
theorem fown_row_ne {α : Type} {W : World} {B g : Nat} {T t : TypeId} {size : Nat} {enc : α → List Value} {v : Value} {xs : List α} {cs : Array Value} (h : Own W B T size enc v xs) (hb : Blk W g t cs) (ht : t ≠ T) : some g ≠ v.ownBlock := by
  rcases h.2 with ⟨rfl, _⟩ | ⟨k, cap, cur, rfl, _, hh, _⟩
  · simp [Value.ownBlock]
  · intro e
    obtain rfl : g = k := by simpa [Value.ownBlock] using e
    have h2 := (show W.heap[g]? = _ from hb).symm.trans hh
    injection h2 with h2
    injection h2 with _ h4 _
    exact ht h4
theorem keeps_below {W W' : World} (h : Below W.heap.size W W') : KeepsOthers W W' := KeepsOthers.of_grownBy (grown_of_below h none) (fun _ _ e => by cases e)
theorem keeps_upd {w w' : World} {g : Nat} {t : TypeId} {cs : Array Value} (u : Upd w w' g) (hb : Blk w g t cs) : KeepsOthers w w' := ⟨Nat.le_of_eq u.s.symm, fun k o hk ho => by
  by_cases e : k = g
  · subst e
    have h' : w.heap[k]? = some (.cells cs t (0, 0)) := hb
    rw [h'] at hk
    cases hk
    cases ho
  · exact (u.f k e).trans hk⟩
theorem wpListIn_store_all {F : Fence} {n : Nat} {P : Program} {ops : Array Oper} {rest : List Oper} {Q : Exit → Act → World → Prop} {a : Act} {w : World} {o : Oper} (hgd : o.guard = none) (ty : TypeId) (x y : Operand) (ho : o.op = .store ty x y) (g : Nat) (t : TypeId) (pre old post cs : List Value) (hx : a.eval x = .pointer (some ⟨g, pre.length, none⟩)) (hy : a.eval y = .agg cs.toArray)
    (hb : Blk w g t (pre ++ old ++ post).toArray) (hlen : old.length = cs.length) (hi : (P.info? ty).map (·.size) = some cs.length) (h1 : ∀ v ∈ cs, v.oneCell' = true)
    (h : ∀ w', Blk w' g t (pre ++ cs ++ post).toArray → Upd w w' g → wpListIn F n P ops Q rest (a.put o.dst undef) w') : wpListIn F n P ops Q (o :: rest) a w := by
  refine wpListIn_plain hgd fun K hK => ?_
  unfold Oper.wpIn
  refine ⟨by simp [Oper.about, ho], ?_⟩
  rw [Oper.semAt_plain F _ _ (by rw [ho]; intro c hc; cases hc)]
  have ht : w.there g pre.length cs.toArray.size := fun j hj => by
    simp only [List.size_toArray] at hj
    rw [hb.cell, hb.frozen]
    refine ⟨?_, rfl⟩
    simp; omega
  unfold execOp
  simp only [ho, hx, hy, Instr.storeAt, Instr.sureAddr, Sem.run_bind, Sem.run_pure, Result.andThen_ok, run_storeVar_mid w g pre.length ty cs.toArray ht (by simpa using hi) (all_oneCell_toArray h1)]
  refine hK _ _ (h _ ?_ ?_)
  · exact setCells_blk cs pre old post w hlen hb
  · exact Upd.setCells cs pre.length w (Upd.refl w g)
theorem tB_eq (p : List UInt8) (b : Bool) (h : decide (p = fword) = b) : ((tB p).toList == [102, 97, 99, 116]) = b := by
  rw [ByteArray.toList_eq, tB_list, ← h]
  by_cases e : p = fword
  · rw [e]; rfl
  · rw [decide_eq_false e, beq_eq_false_iff_ne]; exact e
theorem tB_same (p q : List UInt8) (b : Bool) (h : decide (p = q) = b) : ((tB p).toList == (tB q).toList) = b := by
  rw [ByteArray.toList_eq, ByteArray.toList_eq, tB_list, tB_list, ← h]
  by_cases e : p = q
  · rw [e]; simp
  · rw [decide_eq_false e, beq_eq_false_iff_ne]; exact e
/-- one more number appended to a list in a box -/
theorem boxed_app {W w1 : World} {n₀ B : Nat} {t T : TypeId} {v v' : Value} {ns : List Int} {n : Int} {tmp : Obj} (hv : Blk W B t #[v]) (hte : t ≠ T) (hO : Own W n₀ T 1 eI v ns) (hn₀ : n₀ ≤ W.heap.size) (hB : n₀ ≤ B)
    (hown' : w1.ownsRow n₀ T 1 v' (ns.length + 1) (ns.flatMap eI ++ [.int .i64 n])) (hgrow : (W.alloc tmp).grownBy w1 v.ownBlock) :
    Boxed w1 B t v ∧ Blk (w1.setCell ⟨B, 0, none⟩ v') B t #[v'] ∧ Own (w1.setCell ⟨B, 0, none⟩ v') n₀ T 1 eI v' (ns ++ [n]) ∧ KeepsOthers W (w1.setCell ⟨B, 0, none⟩ v') ∧ Below n₀ W (w1.setCell ⟨B, 0, none⟩ v') ∧
      (∀ g t2 cs, g ≠ B → t2 ≠ T → Blk W g t2 cs → Blk (w1.setCell ⟨B, 0, none⟩ v') g t2 cs) := by
  have hv' : Boxed W B t v := hv
  obtain ⟨h1, h2, h3, h4, h5⟩ := hv'.appended hte hO hn₀ hB hown' hgrow
  refine ⟨h1, h2, ?_, h4, h5, fun g t2 cs hg ht hb => ?_⟩
  · unfold Own
    rw [List.length_append, List.flatMap_append]
    simpa [eI] using h3
  · exact (((hb.alloc tmp).grown hgrow (fown_row_ne hO hb ht)).far (p := ⟨B, 0, none⟩) hg _)
/-- what follows, where nothing panics -/
def Qs (Q : Exit → Act → World → Prop) : Exit → Act → World → Prop
  | .panic _, _, _ => False
  | e, a, w => Q e a w
theorem qs_done {Q : Exit → Act → World → Prop} {a : Act} {w : World} (h : Q .normal a w) : Qs Q .normal a w := h
theorem panOk_qs {Q : Exit → Act → World → Prop} : PanOk (Qs Q) := fun _ _ _ _ _ h => h
theorem wp_qs {P : Program} {c : Code} {Q : Exit → Act → World → Prop} {a : Act} {w : World} (h : c.wp P (Qs Q) a w) : c.wp P Q a w := wp_mono h (fun e a w h => by cases e <;> first | exact h | exact h.elim)
theorem ret_rc {P : Program} {fn : Func} {a : Act} {w : World} {r s g g2 : Nat} {t t2 : TypeId} {cs : Array Value} {v : Int} (hres : fn.results = #[.cell r t, .cell s t2]) (hp : a.tmps.getD r undef = .pointer (some ⟨g, 0, none⟩)) (hp2 : a.tmps.getD s undef = .pointer (some ⟨g2, 0, none⟩)) (hk : Blk w g t cs) (hk2 : Blk w g2 t2 #[.int .i64 v])
    (hu : ∃ fs, P.underlying t = some (.struct fs)) (hi : (P.info? t).map (·.size) = some cs.size) (hb : ∀ w, (isAgg t2).run P w = .ok false w) :
    (results fn a.tmps).run P w = .ok (.tuple #[.agg cs, .int .i64 v]) w := by
  obtain ⟨fs, hu⟩ := hu
  have h1 := run_loadVar_row w g t t cs (0, 0) _ hk hu rfl hi
  have c2 : w.cell? ⟨g2, 0, none⟩ = some (.int .i64 v) := hk2.cell 0
  rw [Array.getD_eq_getD_getElem?] at hp hp2
  have ha : (isAgg t).run P w = .ok true w := by simp [isAgg, run_underlying hu, Result.andThen]
  have hb' := hb w
  simp only [go_sem] at h1
  simp [results, hres, hp, hp2, go_sem, ha]
  simp [ha] at h1
  rw [h1]
  simp [Result.andThen, hb', c2]
theorem Blk.putD {W : World} {g D : Nat} {t : TypeId} {cs : Array Value} (h : Blk W g t cs) (o : Obj) (hD : g ≠ D) : Blk (W.putObj D o) g t cs := h.grown (grownBy_putObj' W D o) (fun e => hD (Option.some.inj e))
theorem name_wpIn {F : Fence} {n : Nat} {P : Program} {c : Code} {Q : Exit → Act → World → Prop} {a : Act} {w : World} (h : ∀ w', w' = w → c.wpIn F n P Q a w') : c.wpIn F n P Q a w := h w rfl
set_option maxRecDepth 100000 in
set_option maxHeartbeats 6400000 in
theorem parse_any (t : List UInt8) (w : World) (ht : t.length ≤ 1000000) (hL : Lw w) :
    Calls Tryd.prog 20 #[.string (tB t)] w fun e w' => e = .returned (.tuple #[.agg (fA (parF t)), .int .i64 (parE t)]) ∧ Below w.heap.size w w' := by
  obtain ⟨m, hm⟩ := hL.ml
  have hml : 2 < w.heap.size := block_lt_of_cell hm
  have HL := Lib.hid hL
  clear hL
  refine (callsIn_wide (n := 6)).1 ?_
  refine callsIn_of_wp_marks Tryd.func20 rfl trivial ?_
  simp only [Tryd.ntmps20, List.size_toArray, List.length_cons, List.length_nil, Nat.reduceAdd, Nat.reduceSub, Array.replicate_succ, Array.replicate_zero, List.push_toArray, List.append_toArray, List.nil_append, List.cons_append]
  refine wpIn_wide.2 ?_
  go_wp2_with (go_at_call 36; (with_reducible refine (words_any _ _).mono ?_); rintro e w' ⟨rfl, rfl⟩)
  refine wpIn_wide (n := 6).1 ?_
  refine name_wpIn ?_
  intro X hX
  have g2 : Blk X w.heap.size 33 z6 := by rw [hX]; exact ((((Blk.new _ _ _).alloc _).alloc _).alloc _).alloc _
  have g3 : Blk X (w.heap.size + 1) 39 #[.int .i64 0] := by rw [hX]; exact (((blk_at (by simp)).alloc _).alloc _).alloc _
  have g4 : Blk X (w.heap.size + 1 + 1) 22 #[.slice none 0 0] := by rw [hX]; exact ((blk_at (by simp)).alloc _).alloc _
  have g5 : Blk X (w.heap.size + 1 + 1 + 1) 4 #[.bool true] := by rw [hX]; exact (blk_at (by simp)).alloc _
  have gt : Blk X (w.heap.size + 1 + 1 + 1 + 1) 9 #[.string (tB t)] := by rw [hX]; exact blk_at (by simp)
  have hB0 : Below w.heap.size w X := by rw [hX]; (repeat (first | with_reducible assumption | with_reducible exact Below.refl _ _ | with_reducible refine below_drewN ?_ _ | with_reducible refine Below.drew ?_ | with_reducible refine below_alloc ?_ _ | with_reducible refine Below.setCell ?_ (by first | omega | (simp; done) | (simp; omega)) _ | with_reducible refine below_then ?_ (by with_reducible assumption) | (refine below_then (a := World.drew _) ?_ (by with_reducible assumption))))
  have hXs : X.heap.size = w.heap.size + 5 := by rw [hX]; simp
  clear hX
  obtain ⟨bt, ebt⟩ : ∃ b, w.heap.size + 1 + 1 + 1 + 1 = b := ⟨_, rfl⟩
  obtain ⟨b5, eb5⟩ : ∃ b, w.heap.size + 1 + 1 + 1 = b := ⟨_, rfl⟩
  obtain ⟨b4, eb4⟩ : ∃ b, w.heap.size + 1 + 1 = b := ⟨_, rfl⟩
  obtain ⟨b3, eb3⟩ : ∃ b, w.heap.size + 1 = b := ⟨_, rfl⟩
  obtain ⟨b2, eb2⟩ : ∃ b, w.heap.size = b := ⟨_, rfl⟩
  have lts : w.heap.size ≤ b2 ∧ b2 < b3 ∧ b3 < b4 ∧ b4 < b5 ∧ b5 < bt ∧ bt < X.heap.size := by omega
  rw [ebt] at gt ⊢
  rw [eb5] at g5 ⊢
  rw [eb4] at g4 ⊢
  rw [eb3] at g3 ⊢
  rw [show X.heap.size = w.heap.size + 5 from hXs] at lts
  have g2' : Blk X b2 33 z6 := eb2 ▸ g2
  have hgo : ∀ (P : Nat → Prop), P b2 → P w.heap.size := fun P h => eb2 ▸ h
  refine hgo (fun b => Code.wpIn Fence.wide 6 Tryd.prog _ _ { tmps := #[.string (tB t), undef, .pointer (some ⟨b, 0, none⟩), _, _, _, _, _, _, _, _, _, _, _, _, _, _, _, _, _, _, _, _, _, _, _, _, _, _, _, _, _, _, _, _, _, _, _, _, _, _, _, _, _, _, _, _, _, _, _, _, _, _, _, _, _, _, _, _, _, _, _, _, _, _, _, _, _, _], defers := [] } X) ?_
  clear hgo g2 eb2 eb3 eb4 eb5 ebt
  have hmX : X.cell? ⟨2, 0, none⟩ = some (.int .i64 m) := (hB0.cell (p := ⟨2, 0, none⟩) hml).trans hm
  have hst := words1_stops (6 - 1) bt w.heap.size (by omega) t ht m hml X (by omega) gt.lt (gt.cell 0) hmX
  have hpi0 : PI w b2 b3 b4 b5 w.heap.size [] X := ⟨⟨⟨true, []⟩, .slice none 0 0, rfl, by simp, (fun _ h => by cases h), g4, Own.nil _ _ _ _ _, g5⟩, g2', g3, hB0⟩
  have HM := Lib.hid hm
  clear hm hmX g2' g3 g4 g5 gt
  obtain ⟨ri, hi, hz0, hz1, hz2⟩ := info_parts (show (Tryd.prog.info? 3).map (fun i => (i.zero, i.size, i.bytes)) = some (some (.int .i64 0), 1, 8) by kernel_rfl)
  refine wpIn_rangeFunc_ownF (α := Pc) rfl (by omega) (gf := 49) (lb := #[.pointer (some ⟨bt, 0, none⟩)]) rfl trivial (enters_of Tryd.func49 (by kernel_rfl) rfl) hst belowK_t (belowK_b (by omega)) (Below.refl _ _) (fun _ => rfl)
    (fun pre W => PI w b2 b3 b4 b5 w.heap.size (strs pre) W) (fun c pre W => c = .ret ∧ PX w b2 b3 w.heap.size (strs pre) W) (pi_from (Nat.le_refl _) (by omega)) (px_from (Nat.le_refl _) (by omega)) hpi0
    (fun x => { tmps := #[.string (tB t), undef, .pointer (some ⟨b2, 0, none⟩), .pointer (some ⟨b3, 0, none⟩), .pointer (some ⟨b4, 0, none⟩), .pointer (some ⟨b5, 0, none⟩), .string (tB x.1), undef, undef, undef, .string (tB t), .func (.func 49) #[] #[.pointer (some ⟨bt, 0, none⟩)], .string (tB x.1), undef, undef, undef, undef, undef, undef, undef, undef, undef, undef, undef, undef, undef, undef, undef, undef, undef, undef, undef, undef, undef, undef, undef, undef, undef, undef, undef, undef, undef, undef, undef, undef, undef, undef, undef, undef, undef, undef, undef, undef, undef, undef, undef, undef, undef, undef, undef, undef, undef, undef, undef, undef, undef, undef, undef, undef], defers := [] }) ?assign ?body ?done ?stop
  case assign =>
    intro l x W K hK
    gi_wp2
    exact hK
  case body =>
    rintro l pre x W hI hlt
    obtain ⟨st, v, e1, e2, e3, g4, o4, g5⟩ := hI.ex
    have HI := Lib.hid hI
    have HBW := Lib.hid hI.hb
    have HLW := Lib.hid (HL.out.below HBW.out)
    have g2 := hI.g2
    have g3 := hI.g3
    clear hI
    have hsnoc : Hid (runP ⟨true, []⟩ (strs (pre ++ [x])) = st.step x.1) := by unfold Hid strs; rw [List.map_append, List.map_singleton, runP_snoc, show List.map (·.1) pre = strs pre from rfl, e1]; rfl
    obtain ⟨f0, ns⟩ := st
    simp only at e2 e3 o4 g5
    obtain ⟨p, hpl⟩ := x
    have HX : Hid (∀ W', (Code.ret = Code.ret) ∧ PX w b2 b3 w.heap.size (strs (pre ++ [⟨p, hpl⟩])) W' → True) := fun _ _ => trivial
    clear HX
    have hps : Hid (p.length ≤ 1000000) := hpl
    simp only at hsnoc
    obtain ⟨q, hq⟩ : ∃ q : List Pc, pre ++ [⟨p, hpl⟩] = q := ⟨_, rfl⟩
    rw [hq] at hsnoc ⊢
    clear hq hlt e1
    by_cases hp : f0 = true ∧ p = fword
    · have hst2 : Hid ((⟨f0, ns⟩ : Rf).step p = some ⟨false, ns⟩) := by unfold Hid Rf.step; rw [if_pos hp]
      obtain ⟨rfl, hp2⟩ := hp
      have hw2 := tB_eq p true (by rw [hp2]; decide)
      have c5 : W.cell? ⟨b5, 0, none⟩ = some (.bool true) := g5.cell 0
      have d5 : W.frozen? ⟨b5, 0, none⟩ = false := g5.frozen 0
      have G5 := Lib.hid g5
      clear hp2 g5
      have G2 := Lib.hid g2
      have G3 := Lib.hid g3
      have G4 := Lib.hid g4
      have O4 := Lib.hid o4
      have E23 := Lib.hid (And.intro e2 e3)
      clear g2 g3 g4 o4 e2 e3
      gi_wp2
      refine ⟨KeepsOthers.setCell _ _ _, (Below.refl _ _).setCell (p := ⟨b5, 0, none⟩) (by simp; omega) _, ?_⟩
      exact ⟨⟨⟨false, ns⟩, v, hsnoc.out.trans hst2.out, E23.out.1, E23.out.2, G4.out.far (p := ⟨b5, 0, none⟩) (by simp; omega) _, O4.out.setOther (p := ⟨b5, 0, none⟩) G5.out (by decide) _, G5.out.set_ 0 _⟩,
        G2.out.far (p := ⟨b5, 0, none⟩) (by simp; omega) _, G3.out.far (p := ⟨b5, 0, none⟩) (by simp; omega) _, HBW.out.setCell (p := ⟨b5, 0, none⟩) (by simp; omega) _⟩
    have c5 : W.cell? ⟨b5, 0, none⟩ = some (.bool f0) := g5.cell 0
    have G2 := Lib.hid g2
    have G3 := Lib.hid g3
    have G4 := Lib.hid g4
    have G5 := Lib.hid g5
    have O4 := Lib.hid o4
    have E3 := Lib.hid e3
    have HWL := Lib.hid HBW.out.size
    obtain ⟨A, c, ev, hc1, hc2, hc3, hc4, hc5, hc6⟩ := o4.segz (enc := eI) (fun _ => rfl)
    subst ev
    clear g2 g3 g4 g5 o4 e3 hc3 hc4 hc5 hc6
    by_cases hv : ∃ n, Lib.atoiAll p = .ok n
    · obtain ⟨n, hv⟩ := hv
      have HA := Lib.hid (atoi_ok (tB p) n W (by rw [tB_size]; omega) hv)
      have hJ : Hid (J64 n) := Lib.atoiAll_bounds hv
      cases f0 with
      | true =>
      have hp3 : p ≠ fword := fun e => hp ⟨rfl, e⟩
      have hw2 := tB_eq p false (decide_eq_false hp3)
      have hst2 : Hid ((⟨true, ns⟩ : Rf).step p = none) := by unfold Hid Rf.step; rw [if_neg hp, hv]; simp
      clear hp hp3 hv HI HM HL HLW
      gi_wp2_with (first | (refine ⟨trivial, ?_⟩; gi_at_call 37; (with_reducible refine (CallsIn.inRound l (callsIn_wide.2 HA.out)).mono ?_); rintro e w2 ⟨rfl, hb2⟩; have g22 := G2.out.then_ hb2; have g32 := G3.out.then_ hb2; have g42 := G4.out.then_ hb2; have g52 := G5.out.then_ hb2; have c42 : w2.cell? ⟨b4, 0, none⟩ = some (.slice A ns.length c) := g42.cell 0; have c52 : w2.cell? ⟨b5, 0, none⟩ = some (.bool true) := g52.cell 0) | (refine wpListIn_store_all rfl 33 _ _ rfl b2 33 [] z6.toList [] z6.toList rfl rfl g22 rfl (by kernel_rfl) (by simp [Value.oneCell']) ?_; intro we ge ue; have g33 := g32.upd ue (by omega); have c33 : we.cell? ⟨b3, 0, none⟩ = some (.int .i64 0) := g33.cell 0; have d33 : we.frozen? ⟨b3, 0, none⟩ = false := g33.frozen 0))
      refine ⟨(keeps_below hb2).trans ((keeps_upd ue g22).trans (KeepsOthers.setCell _ _ _)), rfl, hsnoc.out.trans hst2.out, Blk.far (p := ⟨b3, 0, none⟩) ge (by simp; omega) _, g33.set_ 0 _, ((HBW.out.trans (hb2.mono HBW.out.size)).trans (ue.b _ (by omega))).setCell (p := ⟨b3, 0, none⟩) (by simp; omega) _⟩
      | false =>
      by_cases h6 : ns.length = 6
      · have hst2 : Hid ((⟨false, ns⟩ : Rf).step p = none) := by unfold Hid Rf.step; rw [if_neg hp, hv]; simp [h6]
        clear hp hv HI HM HL HLW
        gi_wp2_with (first | (refine ⟨trivial, ?_⟩; gi_at_call 37; (with_reducible refine (CallsIn.inRound l (callsIn_wide.2 HA.out)).mono ?_); rintro e w2 ⟨rfl, hb2⟩; have g22 := G2.out.then_ hb2; have g32 := G3.out.then_ hb2; have g42 := G4.out.then_ hb2; have g52 := G5.out.then_ hb2; have c42 : w2.cell? ⟨b4, 0, none⟩ = some (.slice A 6 c) := (g42.cell 0).trans (by rw [h6]; rfl); have c52 : w2.cell? ⟨b5, 0, none⟩ = some (.bool false) := g52.cell 0) | (refine wpListIn_store_all rfl 33 _ _ rfl b2 33 [] z6.toList [] z6.toList rfl rfl g22 rfl (by kernel_rfl) (by simp [Value.oneCell']) ?_; intro we ge ue; have g33 := g32.upd ue (by omega); have c33 : we.cell? ⟨b3, 0, none⟩ = some (.int .i64 0) := g33.cell 0; have d33 : we.frozen? ⟨b3, 0, none⟩ = false := g33.frozen 0))
        refine ⟨(keeps_below hb2).trans ((keeps_upd ue g22).trans (KeepsOthers.setCell _ _ _)), rfl, hsnoc.out.trans hst2.out, Blk.far (p := ⟨b3, 0, none⟩) ge (by simp; omega) _, g33.set_ 0 _, ((HBW.out.trans (hb2.mono HBW.out.size)).trans (ue.b _ (by omega))).setCell (p := ⟨b3, 0, none⟩) (by simp; omega) _⟩
      · have hst2 : Hid ((⟨false, ns⟩ : Rf).step p = some ⟨false, ns ++ [n]⟩) := by unfold Hid Rf.step; rw [if_neg hp, hv]; simp [h6]
        have E2 := Lib.hid e2
        have hd6 : decide (((ns.length : Nat) : Int) = 6) = false := decide_eq_false (by omega)
        have hn6 : ns.length ≤ 5 := by omega
        clear hp hv HI HM HL HLW e2
        gi_wp2_with (first | (gi_at_builtin; refine wpListIn_append_own _ rfl _ _ 22 rfl w.heap.size 3 ri (.int .i64 0) 1 8 Tryd.underlying22 hi hz0 hz1 hz2 rfl (by decide) _ _ _ rfl ((Own.below O4.out hb2).alloc _) ⟨w2.heap.size, 0, none⟩ 1 1 [.int .i64 n] rfl rfl (cell_one_new _ _ _) (by simp [Value.oneCell']) (by unfold maxLen; omega) (by omega) (by have := HWL.out; have := hb2.size; simp; omega) ?_; intro v' w3 hown' hgrow _; obtain ⟨g', cap', rfl⟩ := ownsRow_succ hown'; obtain ⟨k1, k2, k3, k4, k5, k6⟩ := boxed_app g42 (by decide) (Own.below O4.out hb2) (Nat.le_trans HWL.out hb2.size) (by omega) hown' hgrow; have hc1 := k1.cell; have hf1 := k1.frozen) | (refine ⟨trivial, ?_⟩; gi_at_call 37; (with_reducible refine (CallsIn.inRound l (callsIn_wide.2 HA.out)).mono ?_); rintro e w2 ⟨rfl, hb2⟩; have g22 := G2.out.then_ hb2; have g32 := G3.out.then_ hb2; have g42 := G4.out.then_ hb2; have g52 := G5.out.then_ hb2; have c42 : w2.cell? ⟨b4, 0, none⟩ = some (.slice A ns.length c) := g42.cell 0; have c52 : w2.cell? ⟨b5, 0, none⟩ = some (.bool false) := g52.cell 0) | (refine wpListIn_store_all rfl 33 _ _ rfl b2 33 [] z6.toList [] z6.toList rfl rfl g22 rfl (by kernel_rfl) (by simp [Value.oneCell']) ?_; intro we ge ue; have g33 := g32.upd ue (by omega); have c33 : we.cell? ⟨b3, 0, none⟩ = some (.int .i64 0) := g33.cell 0; have d33 : we.frozen? ⟨b3, 0, none⟩ = false := g33.frozen 0))
        refine ⟨(keeps_below hb2).trans k4, (hb2.mono HWL.out).trans k5, ?_⟩
        exact ⟨⟨⟨false, ns ++ [n]⟩, _, hsnoc.out.trans hst2.out, by simp; omega, (fun z hz => (List.mem_append.1 hz).elim (E3.out z) (fun h => by rw [List.mem_singleton.1 h]; exact hJ.out)), k2, k3, k6 b5 _ _ (by omega) (by decide) g52⟩,
          k6 b2 _ _ (by omega) (by decide) g22, k6 b3 _ _ (by omega) (by decide) g32, (HBW.out.trans (hb2.mono HBW.out.size)).trans k5⟩
    · have HA := Lib.hid (atoi_no (tB p) W HLW.out (by rw [tB_size]; omega) (fun n h => hv ⟨n, h⟩))
      cases f0 with
      | true =>
      have hp3 : p ≠ fword := fun e => hp ⟨rfl, e⟩
      have hw2 := tB_eq p false (decide_eq_false hp3)
      have hst2 : Hid ((⟨true, ns⟩ : Rf).step p = none) := by unfold Hid Rf.step; rw [if_neg hp]; cases hq : Lib.atoiAll p with | ok n => exact absurd ⟨n, hq⟩ hv | _ => rfl
      clear hp hp3 hv HI HM HL HLW
      gi_wp2_with (first | (refine ⟨trivial, ?_⟩; gi_at_call 37; (with_reducible refine (CallsIn.inRound l (callsIn_wide.2 HA.out)).mono ?_); rintro e w2 ⟨va, ta, pa, rfl, hb2⟩; have g22 := G2.out.then_ hb2; have g32 := G3.out.then_ hb2; have g42 := G4.out.then_ hb2; have g52 := G5.out.then_ hb2; have c42 : w2.cell? ⟨b4, 0, none⟩ = some (.slice A ns.length c) := g42.cell 0; have c52 : w2.cell? ⟨b5, 0, none⟩ = some (.bool true) := g52.cell 0) | (refine wpListIn_store_all rfl 33 _ _ rfl b2 33 [] z6.toList [] z6.toList rfl rfl g22 rfl (by kernel_rfl) (by simp [Value.oneCell']) ?_; intro we ge ue; have g33 := g32.upd ue (by omega); have c33 : we.cell? ⟨b3, 0, none⟩ = some (.int .i64 0) := g33.cell 0; have d33 : we.frozen? ⟨b3, 0, none⟩ = false := g33.frozen 0))
      refine ⟨(keeps_below hb2).trans ((keeps_upd ue g22).trans (KeepsOthers.setCell _ _ _)), rfl, hsnoc.out.trans hst2.out, Blk.far (p := ⟨b3, 0, none⟩) ge (by simp; omega) _, g33.set_ 0 _, ((HBW.out.trans (hb2.mono HBW.out.size)).trans (ue.b _ (by omega))).setCell (p := ⟨b3, 0, none⟩) (by simp; omega) _⟩
      | false =>
      have hst2 : Hid ((⟨false, ns⟩ : Rf).step p = none) := by unfold Hid Rf.step; rw [if_neg hp]; cases hq : Lib.atoiAll p with | ok n => exact absurd ⟨n, hq⟩ hv | _ => rfl
      clear hp hv HI HM HL HLW
      gi_wp2_with (first | (refine ⟨trivial, ?_⟩; gi_at_call 37; (with_reducible refine (CallsIn.inRound l (callsIn_wide.2 HA.out)).mono ?_); rintro e w2 ⟨va, ta, pa, rfl, hb2⟩; have g22 := G2.out.then_ hb2; have g32 := G3.out.then_ hb2; have g42 := G4.out.then_ hb2; have g52 := G5.out.then_ hb2; have c42 : w2.cell? ⟨b4, 0, none⟩ = some (.slice A ns.length c) := g42.cell 0; have c52 : w2.cell? ⟨b5, 0, none⟩ = some (.bool false) := g52.cell 0) | (refine wpListIn_store_all rfl 33 _ _ rfl b2 33 [] z6.toList [] z6.toList rfl rfl g22 rfl (by kernel_rfl) (by simp [Value.oneCell']) ?_; intro we ge ue; have g33 := g32.upd ue (by omega); have c33 : we.cell? ⟨b3, 0, none⟩ = some (.int .i64 0) := g33.cell 0; have d33 : we.frozen? ⟨b3, 0, none⟩ = false := g33.frozen 0))
      refine ⟨(keeps_below hb2).trans ((keeps_upd ue g22).trans (KeepsOthers.setCell _ _ _)), rfl, hsnoc.out.trans hst2.out, Blk.far (p := ⟨b3, 0, none⟩) ge (by simp; omega) _, g33.set_ 0 _, ((HBW.out.trans (hb2.mono HBW.out.size)).trans (ue.b _ (by omega))).setCell (p := ⟨b3, 0, none⟩) (by simp; omega) _⟩
  case done =>
    rintro D xs W hD hxs hI hK
    obtain ⟨st, v, e1, e2, e3, g4, o4, g5⟩ := hI.ex
    have hrun : Rf.run (t.length + 1) ⟨true, []⟩ t = some st := by rw [run_pieces, ← hxs]; exact e1
    have hD2 : w.heap.size ≤ D := by omega
    have G2 := Lib.hid hI.g2
    have G3 := Lib.hid hI.g3
    have HBW := Lib.hid hI.hb
    have HLW := Lib.hid (HL.out.below HBW.out)
    have HDb : Hid (bt < D) := by unfold Hid; omega
    clear hI hxs e1 g5
    obtain ⟨A, c, ev, hc1, hc2, hc3, hc4, hc5, hc6⟩ := o4.segz (enc := eI) (fun _ => rfl)
    subst ev
    obtain ⟨f0, ns⟩ := st
    simp only at e2 e3 o4 g4 hc1 hc2 hc3 hrun
    have G4 := Lib.hid g4
    have c4 : W.cell? ⟨b4, 0, none⟩ = some (.slice A ns.length c) := g4.cell 0
    clear g4 hc4 hc5 hc6 HL HM
    by_cases h6 : ns.length = 6
    · obtain ⟨a0, a1, a2, a3, a4, a5, rfl⟩ : ∃ a b c d e f, ns = [a, b, c, d, e, f] := by
        match ns, h6 with | [a, b, c, d, e, f], _ => exact ⟨a, b, c, d, e, f, rfl⟩
      clear h6 hc1 hc2 hc3
      obtain ⟨g, rfl, hgw, hcs⟩ : ∃ g, A = some ⟨g, 0, none⟩ ∧ g < W.heap.size ∧ ∀ j u, [Value.int .i64 a0, .int .i64 a1, .int .i64 a2, .int .i64 a3, .int .i64 a4, .int .i64 a5][j]? = some u → W.cell? ⟨g, j, none⟩ = some u := by
        rcases o4.2 with ⟨e, h0⟩ | ⟨g, cap, cur, e, hg, hh, _⟩
        · cases h0
        · injection e with e1 e2 e3
          subst e1
          subst e3
          refine ⟨g, rfl, (Array.getElem?_eq_some_iff.1 hh).1, fun j u hu => ?_⟩
          have hj : j < 6 := (List.getElem?_eq_some_iff.1 hu).1
          rw [World.ownsRow.cellAt (g := g) (cap := c) o4 j (by simpa using hj)]
          exact hu
      have q0 := hcs 0 _ rfl
      have q1 := hcs 1 _ rfl
      have q2 := hcs 2 _ rfl
      have q3 := hcs 3 _ rfl
      have q4 := hcs 4 _ rfl
      have q5 := hcs 5 _ rfl
      clear hcs o4
      obtain ⟨x, hx⟩ : ∃ x : Fac, (⟨a0, a1, a2, a3, a4, a5 == 1⟩ : Fac) = x := ⟨_, rfl⟩
      have hI : Hid x.I64 := by rw [← hx]; exact ⟨e3 a0 (by simp), e3 a1 (by simp), e3 a2 (by simp), e3 a3 (by simp), e3 a4 (by simp)⟩
      have hp : Hid (prsF t = if x.text = t then some x else none) := by unfold Hid prsF; rw [hrun]; simp only; rw [show facOf [a0, a1, a2, a3, a4, a5] = some x from by rw [← hx]; rfl]
      clear hrun e2 e3
      go_upto_region 13 with (fail)
      refine wp_qs ?_
      have hA : [Value.int .i64 a0, .int .i64 a1, .int .i64 a2, .int .i64 a3, .int .i64 a4, .bool false] = [Value.int .i64 a0, .int .i64 a1, .int .i64 a2, .int .i64 a3, .int .i64 a4, .bool false] := rfl
      clear hA
      refine wp_region_hb (fun w' => Hid (Below W.heap.size W w')) [0, 1, 2, 3, 4, 5, 6, 7, 8, 9, 10, 11, 12, 13, 14, 15, 16] [17] (by kernel_rfl) (by kernel_rfl) panOk_qs (Lib.hid (Below.drew (Below.refl _ _))) (fun hdir hsel hpan hHeld => ?_)
      refine wpHB_take (i := 0) (oi := ⟨some 42, _, _, _, _, _⟩) (v := .slice (some ⟨g, 0, none⟩) 6 c) hdir hsel hpan rfl (by kernel_rfl) (by kernel_rfl) (by kernel_rfl) (Or.inl ⟨by rfl, fun w hw => by have hc := (G4.out.then_ hw.out).cell 0; go_simp⟩) (by assumption) ?_
      try simp only [Act.put, List.setIfInBounds_toArray, List.set_cons_zero, List.set_cons_succ]
      refine wpHB_take (i := 1) (oi := ⟨some 43, _, _, _, _, _⟩) (v := .pointer (some ⟨g, 0, none⟩)) hdir hsel hpan rfl (by kernel_rfl) (by kernel_rfl) (by kernel_rfl) (Or.inl ⟨by rfl, fun w hw => by go_simp⟩) (by assumption) ?_
      try simp only [Act.put, List.setIfInBounds_toArray, List.set_cons_zero, List.set_cons_succ]
      refine wpHB_take (i := 2) (oi := ⟨some 44, _, _, _, _, _⟩) (v := .int .i64 a0) hdir hsel hpan rfl (by kernel_rfl) (by kernel_rfl) (by kernel_rfl) (Or.inl ⟨by rfl, fun w hw => by have hc := (hw.out.cell (p := ⟨g, 0, none⟩) hgw).trans q0; go_simp⟩) (by assumption) ?_
      try simp only [Act.put, List.setIfInBounds_toArray, List.set_cons_zero, List.set_cons_succ]
      refine wpHB_take (i := 3) (oi := ⟨some 45, _, _, _, _, _⟩) (v := .slice (some ⟨g, 0, none⟩) 6 c) hdir hsel hpan rfl (by kernel_rfl) (by kernel_rfl) (by kernel_rfl) (Or.inl ⟨by rfl, fun w hw => by have hc := (G4.out.then_ hw.out).cell 0; go_simp⟩) (by assumption) ?_
      try simp only [Act.put, List.setIfInBounds_toArray, List.set_cons_zero, List.set_cons_succ]
      refine wpHB_take (i := 4) (oi := ⟨some 46, _, _, _, _, _⟩) (v := .pointer (some ⟨g, 1, none⟩)) hdir hsel hpan rfl (by kernel_rfl) (by kernel_rfl) (by kernel_rfl) (Or.inl ⟨by rfl, fun w hw => by go_simp⟩) (by assumption) ?_
      try simp only [Act.put, List.setIfInBounds_toArray, List.set_cons_zero, List.set_cons_succ]
      refine wpHB_take (i := 5) (oi := ⟨some 47, _, _, _, _, _⟩) (v := .int .i64 a1) hdir hsel hpan rfl (by kernel_rfl) (by kernel_rfl) (by kernel_rfl) (Or.inl ⟨by rfl, fun w hw => by have hc := (hw.out.cell (p := ⟨g, 1, none⟩) hgw).trans q1; go_simp⟩) (by assumption) ?_
      try simp only [Act.put, List.setIfInBounds_toArray, List.set_cons_zero, List.set_cons_succ]
      refine wpHB_take (i := 6) (oi := ⟨some 48, _, _, _, _, _⟩) (v := .slice (some ⟨g, 0, none⟩) 6 c) hdir hsel hpan rfl (by kernel_rfl) (by kernel_rfl) (by kernel_rfl) (Or.inl ⟨by rfl, fun w hw => by have hc := (G4.out.then_ hw.out).cell 0; go_simp⟩) (by assumption) ?_
      try simp only [Act.put, List.setIfInBounds_toArray, List.set_cons_zero, List.set_cons_succ]
      refine wpHB_take (i := 7) (oi := ⟨some 49, _, _, _, _, _⟩) (v := .pointer (some ⟨g, 2, none⟩)) hdir hsel hpan rfl (by kernel_rfl) (by kernel_rfl) (by kernel_rfl) (Or.inl ⟨by rfl, fun w hw => by go_simp⟩) (by assumption) ?_
      try simp only [Act.put, List.setIfInBounds_toArray, List.set_cons_zero, List.set_cons_succ]
      refine wpHB_take (i := 8) (oi := ⟨some 50, _, _, _, _, _⟩) (v := .int .i64 a2) hdir hsel hpan rfl (by kernel_rfl) (by kernel_rfl) (by kernel_rfl) (Or.inl ⟨by rfl, fun w hw => by have hc := (hw.out.cell (p := ⟨g, 2, none⟩) hgw).trans q2; go_simp⟩) (by assumption) ?_
      try simp only [Act.put, List.setIfInBounds_toArray, List.set_cons_zero, List.set_cons_succ]
      refine wpHB_take (i := 9) (oi := ⟨some 51, _, _, _, _, _⟩) (v := .slice (some ⟨g, 0, none⟩) 6 c) hdir hsel hpan rfl (by kernel_rfl) (by kernel_rfl) (by kernel_rfl) (Or.inl ⟨by rfl, fun w hw => by have hc := (G4.out.then_ hw.out).cell 0; go_simp⟩) (by assumption) ?_
      try simp only [Act.put, List.setIfInBounds_toArray, List.set_cons_zero, List.set_cons_succ]
      refine wpHB_take (i := 10) (oi := ⟨some 52, _, _, _, _, _⟩) (v := .pointer (some ⟨g, 3, none⟩)) hdir hsel hpan rfl (by kernel_rfl) (by kernel_rfl) (by kernel_rfl) (Or.inl ⟨by rfl, fun w hw => by go_simp⟩) (by assumption) ?_
      try simp only [Act.put, List.setIfInBounds_toArray, List.set_cons_zero, List.set_cons_succ]
      refine wpHB_take (i := 11) (oi := ⟨some 53, _, _, _, _, _⟩) (v := .int .i64 a3) hdir hsel hpan rfl (by kernel_rfl) (by kernel_rfl) (by kernel_rfl) (Or.inl ⟨by rfl, fun w hw => by have hc := (hw.out.cell (p := ⟨g, 3, none⟩) hgw).trans q3; go_simp⟩) (by assumption) ?_
      try simp only [Act.put, List.setIfInBounds_toArray, List.set_cons_zero, List.set_cons_succ]
      refine wpHB_take (i := 12) (oi := ⟨some 54, _, _, _, _, _⟩) (v := .slice (some ⟨g, 0, none⟩) 6 c) hdir hsel hpan rfl (by kernel_rfl) (by kernel_rfl) (by kernel_rfl) (Or.inl ⟨by rfl, fun w hw => by have hc := (G4.out.then_ hw.out).cell 0; go_simp⟩) (by assumption) ?_
      try simp only [Act.put, List.setIfInBounds_toArray, List.set_cons_zero, List.set_cons_succ]
      refine wpHB_take (i := 13) (oi := ⟨some 55, _, _, _, _, _⟩) (v := .pointer (some ⟨g, 4, none⟩)) hdir hsel hpan rfl (by kernel_rfl) (by kernel_rfl) (by kernel_rfl) (Or.inl ⟨by rfl, fun w hw => by go_simp⟩) (by assumption) ?_
      try simp only [Act.put, List.setIfInBounds_toArray, List.set_cons_zero, List.set_cons_succ]
      refine wpHB_take (i := 14) (oi := ⟨some 56, _, _, _, _, _⟩) (v := .int .i64 a4) hdir hsel hpan rfl (by kernel_rfl) (by kernel_rfl) (by kernel_rfl) (Or.inl ⟨by rfl, fun w hw => by have hc := (hw.out.cell (p := ⟨g, 4, none⟩) hgw).trans q4; go_simp⟩) (by assumption) ?_
      try simp only [Act.put, List.setIfInBounds_toArray, List.set_cons_zero, List.set_cons_succ]
      refine wpHB_take (i := 15) (oi := ⟨some 57, _, _, _, _, _⟩) (v := .agg #[.int .i64 a0, .int .i64 a1, .int .i64 a2, .int .i64 a3, .int .i64 a4, .bool false]) hdir hsel hpan rfl (by kernel_rfl) (by kernel_rfl) (by kernel_rfl) (Or.inl ⟨by rfl, fun w hw => by go_simp⟩) (by assumption) ?_
      try simp only [Act.put, List.setIfInBounds_toArray, List.set_cons_zero, List.set_cons_succ]
      refine wpHB_ready (rs := [16]) (by kernel_rfl) (by simp) ?_
      refine AllHB.cons (by kernel_rfl) (o := ⟨some 9, _, _, _, _, _⟩) rfl (fun K hK' => ?_) AllHB.nil
      go_simp
      refine name_k ?_
      intro Vb hVb
      obtain ⟨b9, e1, g9, hbb⟩ := (by first | exact list_new2 hVb | exact list_new2 (W := W.drew) hVb : ∃ b, _)
      have e2 : W.heap.size = b9 := e1
      try rw [e1]
      try rw [e2]
      clear hVb
      refine hK'.out _ _ (Lib.hid (below_then hHeld.out hbb)) (fun hHeld2 => ?_)
      clear hK' K hHeld
      try simp only [Act.put, List.setIfInBounds_toArray, List.set_cons_zero, List.set_cons_succ]
      refine wpHB_tail (by kernel_rfl) (by kernel_rfl) ?_
      clear hdir hsel hpan
      simp only [opsAt, List.getElem?_toArray, List.getElem?_cons_succ, List.getElem?_cons_zero, Option.toList_some, List.cons_append, List.nil_append]
      clear hbb e1 q0 q1 q2 q3 q4 c4
      refine wpList_store_all rfl 33 _ _ rfl b9 33 [] z6.toList [] [.int .i64 a0, .int .i64 a1, .int .i64 a2, .int .i64 a3, .int .i64 a4, .bool false] rfl rfl g9 rfl (by kernel_rfl) (by simp [Value.oneCell']) ?_
      intro w5 g95 u5
      have HB5 := Lib.hid (hHeld2.out.trans (u5.b _ (by omega)))
      clear hHeld2 u5 g9
      have G95 := Lib.hid g95
      have c95 : w5.cell? ⟨b9, 5, none⟩ = some (.bool false) := g95.cell 5
      have d95 : w5.frozen? ⟨b9, 5, none⟩ = false := g95.frozen 5
      have c45 : w5.cell? ⟨b4, 0, none⟩ = some (.slice (some ⟨g, 0, none⟩) 6 c) := (G4.out.then_ HB5.out).cell 0
      have q55 : w5.cell? ⟨g, 5, none⟩ = some (.int .i64 a5) := (HB5.out.cell (p := ⟨g, 5, none⟩) hgw).trans q5
      clear q5 g95
      refine wpList_done (qs_done ?_)
      simp only [Act.put]
      go_upto_region 15 with (fail)
      refine name_wp ?_
      intro X9 hX9
      have gx9 : Blk X9 b9 33 (fA x) := by rw [hX9, ← hx]; exact G95.out.set_ 5 _
      have HB9 : Hid (Below W.heap.size W X9) := by unfold Hid; rw [hX9]; exact HB5.out.setCell (p := ⟨b9, 5, none⟩) (by simp; omega) _
      clear hX9 G95 c95 d95 c45 q55 HB5 hx
      have HBO := Lib.hid (body_any x X9 (HLW.out.below HB9.out) hI.out)
      have hDW : D < W.heap.size := (Array.getElem?_eq_some_iff.1 hK).1
      have HKW := Lib.hid hK
      clear hK
      have HDd := HDb.out
      by_cases htx : x.text = t
      · have hb := tB_same x.text t true (decide_eq_true htx)
        have hp2 : Hid (prsF t = some x) := by unfold Hid; rw [hp.out, if_pos htx]
        clear hp htx
        go_wp2_with (first | (refine wpList_row_w (by rfl) 33 _ rfl b9 rfl 33 _ gx9 ⟨_, Tryd.underlying33⟩ (by kernel_rfl) ?_; simp only [Act.put, List.setIfInBounds_toArray, List.set_cons_succ, List.set_cons_zero]) | (go_at_call 21; (with_reducible refine (HBO.out).mono ?_); rintro e w6 ⟨rfl, hb6⟩; have gx6 := gx9.then_ hb6; have g26 := (G2.out.then_ HB9.out).then_ hb6; have g36 := (G3.out.then_ HB9.out).then_ hb6; have HB6 := Lib.hid (below_then HB9.out hb6); clear gx9) | (refine wpList_row_w (by rfl) 33 _ rfl b9 rfl 33 _ gx6 ⟨_, Tryd.underlying33⟩ (by kernel_rfl) ?_; simp only [Act.put, List.setIfInBounds_toArray, List.set_cons_succ, List.set_cons_zero]) | (refine wpList_store_all rfl 33 _ _ rfl b2 33 [] z6.toList [] (fA x).toList rfl rfl g26 rfl (by kernel_rfl) (by simp [Value.oneCell']) ?_; intro we ge ue; have g37 := g36.upd ue (by omega); have c37 : we.cell? ⟨b3, 0, none⟩ = some (.int .i64 0) := g37.cell 0; have d37 : we.frozen? ⟨b3, 0, none⟩ = false := g37.frozen 0))
        have hKf : (we.setCell ⟨b3, 0, none⟩ (.int .i64 0)).heap[D]? = some (.deferred (some [])) := by
          rw [Below.heap_setCell _ _ _ _ (by simp; omega), ue.f D (by omega), HB6.out.block D hDW]; exact HKW.out
        refine ⟨by simp, .inl ⟨_, _, rfl, run_takeDeferred hKf, ?_⟩⟩
        exact ⟨_, ret_rc rfl rfl rfl ((Blk.far (p := ⟨b3, 0, none⟩) ge (by simp; omega) _).putD _ (by omega)) ((g37.set_ 0 _).putD _ (by omega)) ⟨_, Tryd.underlying33⟩ (by kernel_rfl) (fun _ => by kernel_rfl), by unfold parF parE; rw [hp2.out]; rfl, (((HBW.out.trans (HB6.out.mono HBW.out.size)).trans (ue.b _ (by omega))).setCell (p := ⟨b3, 0, none⟩) (by simp; omega) _).trans (belowK_b (w := w) (Nat.le_refl _) _ D _ _ hD2 hKf rfl rfl)⟩
      · have hb := tB_same x.text t false (decide_eq_false htx)
        have hp2 : Hid (prsF t = none) := by unfold Hid; rw [hp.out, if_neg htx]
        clear hp htx
        go_wp2_with (first | (refine wpList_row_w (by rfl) 33 _ rfl b9 rfl 33 _ gx9 ⟨_, Tryd.underlying33⟩ (by kernel_rfl) ?_; simp only [Act.put, List.setIfInBounds_toArray, List.set_cons_succ, List.set_cons_zero]) | (go_at_call 21; (with_reducible refine (HBO.out).mono ?_); rintro e w6 ⟨rfl, hb6⟩; have gx6 := gx9.then_ hb6; have g26 := (G2.out.then_ HB9.out).then_ hb6; have g36 := (G3.out.then_ HB9.out).then_ hb6; have HB6 := Lib.hid (below_then HB9.out hb6); clear gx9) | (refine wpList_store_all rfl 33 _ _ rfl b2 33 [] z6.toList [] z6.toList rfl rfl g26 rfl (by kernel_rfl) (by simp [Value.oneCell']) ?_; intro we ge ue; have g37 := g36.upd ue (by omega); have c37 : we.cell? ⟨b3, 0, none⟩ = some (.int .i64 0) := g37.cell 0; have d37 : we.frozen? ⟨b3, 0, none⟩ = false := g37.frozen 0))
        have hKf : (we.setCell ⟨b3, 0, none⟩ (.int .i64 6)).heap[D]? = some (.deferred (some [])) := by
          rw [Below.heap_setCell _ _ _ _ (by simp; omega), ue.f D (by omega), HB6.out.block D hDW]; exact HKW.out
        refine ⟨by simp, .inl ⟨_, _, rfl, run_takeDeferred hKf, ?_⟩⟩
        exact ⟨_, ret_rc rfl rfl rfl ((Blk.far (p := ⟨b3, 0, none⟩) ge (by simp; omega) _).putD _ (by omega)) ((g37.set_ 0 _).putD _ (by omega)) ⟨_, Tryd.underlying33⟩ (by kernel_rfl) (fun _ => by kernel_rfl), by unfold parF parE; rw [hp2.out]; rfl, (((HBW.out.trans (HB6.out.mono HBW.out.size)).trans (ue.b _ (by omega))).setCell (p := ⟨b3, 0, none⟩) (by simp; omega) _).trans (belowK_b (w := w) (Nat.le_refl _) _ D _ _ hD2 hKf rfl rfl)⟩
    · have hd6 : decide (((ns.length : Nat) : Int) = 6) = false := decide_eq_false (by omega)
      have hp : Hid (prsF t = none) := by
        unfold Hid prsF; rw [hrun]; simp only
        rw [show facOf ns = none from by unfold facOf; split <;> simp_all]
      have g2 := G2.out
      clear hrun
      go_wp2_with (first | (refine wpList_store_all rfl 33 _ _ rfl b2 33 [] z6.toList [] z6.toList rfl rfl g2 rfl (by kernel_rfl) (by simp [Value.oneCell']) ?_; intro we ge ue; have g33 := G3.out.upd ue (by omega); have c33 : we.cell? ⟨b3, 0, none⟩ = some (.int .i64 0) := g33.cell 0; have d33 : we.frozen? ⟨b3, 0, none⟩ = false := g33.frozen 0))
      have hKf : (we.setCell ⟨b3, 0, none⟩ (.int .i64 6)).heap[D]? = some (.deferred (some [])) := by
        rw [Below.heap_setCell _ _ _ _ (by simp; have := HDb.out; omega), ue.f D (by have := HDb.out; omega)]; exact hK
      have HDd := HDb.out
      refine ⟨by simp, .inl ⟨_, _, rfl, run_takeDeferred hKf, ?_⟩⟩
      exact ⟨_, ret_rc rfl rfl rfl ((Blk.far (p := ⟨b3, 0, none⟩) ge (by simp; omega) _).putD _ (by omega)) ((g33.set_ 0 _).putD _ (by omega)) ⟨_, Tryd.underlying33⟩ (by kernel_rfl) (fun _ => by kernel_rfl), by unfold parF parE; rw [hp.out]; rfl, ((HBW.out.trans (ue.b _ (by omega))).setCell (p := ⟨b3, 0, none⟩) (by simp; omega) _).trans (belowK_b (w := w) (Nat.le_refl _) _ D _ _ hD2 hKf rfl rfl)⟩
  case stop =>
    rintro D c pre W hD hpre ⟨rfl, hX⟩ hK
    have hp : Hid (prsF t = none) := by
      obtain ⟨r, hr⟩ := hpre
      unfold Hid prsF
      rw [run_pieces, ← hr, runP_none (List.map (·.1) pre) r _ hX.ex]
    gi_wp2
    refine ⟨by simp, .inl ⟨_, _, rfl, run_takeDeferred hK, ?_⟩⟩
    exact ⟨_, ret_rc rfl rfl rfl (hX.g2.putD _ (by omega)) (hX.g3.putD _ (by omega)) ⟨_, Tryd.underlying33⟩ (by kernel_rfl) (fun _ => by kernel_rfl), by unfold parF parE; rw [hp.out]; rfl, hX.hb.trans (belowK_b (w := w) (Nat.le_refl _) _ D _ _ (by omega) hK rfl rfl)⟩
end Go.Proofs.YtemkghgcdpmlbaaDoor
