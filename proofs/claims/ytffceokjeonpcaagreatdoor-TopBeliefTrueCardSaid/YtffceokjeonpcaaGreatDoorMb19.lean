/- Contracts of functions and plain laws, joined: Xo1, Xo3, Xo4. -/
import Derived.Test.YtffceokjeonpcaaGreatDoorRows
import Derived.Test.YtffceokjeonpcaaGreatDoorChecked
import Derived.Test.YtffceokjeonpcaaGreatDoorMb18
import Derived.Test.YtffceokjeonpcaaGreatDoorMb14
import Derived.ProofKit
import Derived.Deep.Slices
import Derived.Deep.Strs
import Derived.Below
import Derived.ChangeSame
import Derived.Carry
import Derived.OpenShut
import Derived.SizedLaws
import Derived.LaidMore
import Derived.Lay
import Derived.Stop.Joined
import Derived.ChangeMaps5
import Derived.Test.YtffceokjeonpcaaGreatDoorMb1
set_option maxRecDepth 100000
namespace Go.Proofs.YtffceokjeonpcaaGreatDoor
open Go.ChangeShapes Go.WideShapes Go.ChangeAt Go.RowKit Go.Deep
theorem Tryz.own : ownKnob Tryz.prog.godebug = none := by kernel_rfl
theorem Tryz.laidOut : laidOutB Tryz.prog = true := by kernel_rfl
theorem list_of {α : Type} {P : Nat → α → Prop} : ∀ n, (∀ i, i < n → ∃ x, P i x) → ∃ l : List α, l.length = n ∧ ∀ k x, l[k]? = some x → P k x
 | 0, _ => ⟨[], rfl, fun k x h => by simp at h⟩
 | n + 1, h => by
  obtain ⟨l, hl, hP⟩ := list_of n fun i hi => h i (by omega)
  obtain ⟨x, hx⟩ := h n (by omega)
  refine ⟨l ++ [x], by simp [hl], fun k y hy => ?_⟩
  rcases Nat.lt_or_ge k n with hk | hk
  ·rw [List.getElem?_append_left (by omega)] at hy; exact hP k y hy
  ·rw [List.getElem?_append_right (by omega)] at hy
   have : k = n := by
    have := (qzM hy).1
    simp at this; omega
   subst this
   simp [hl] at hy
   subst hy; exact hx
def LstM {α : Type} (w : World) (en : α → List Value) (size : Nat) (fit : α → Prop) (A : Option Addr) (l : List α) (c : Nat) : Prop := l.length ≤ c ∧ (c ≤ 9223372036854775807 ∧ (A = none → l = [] ∧ c = 0)) ∧ (∀ y ∈ l, fit y) ∧ Seg w w.heap.size size en A l
theorem xCq {α : Type} (en : α → List Value) (size : Nat) (fit : α → Prop) (he : ∀ y, (en y).length = size) (hs0 : 0 < size) {H : Type} {enc : TypeId × Value → H} {w : World} {spare : Nat → Bool} {held : Bool} {fuel : Nat} {t e : TypeId} {c : Value} {x : DataW H × List MemPlace}
  (ht : Tryz.prog.underlying t = some (.slice e)) (hc : Tryz.prog.cellsOf e = size)
  (hel : ∀ (fuel : Nat) (cs : List Value) (x : DataW H × List MemPlace), DataW.trod enc Tryz.prog w 0 spare held fuel e cs = some x → ∃ y, cs = en y ∧ fit y)
  (hf : DataW.trod enc Tryz.prog w 0 spare held fuel t [c] = some x) :
  ∃ (A : Option Addr) (l : List α) (cap : Nat), [c] = [.slice A l.length cap] ∧ LstM w en size fit A l cap := by
 rcases open_slice ht hf with ⟨h, _⟩ | ⟨a, len', cap', m, n, D, Pl, h, hb, hl, hm, hmm, hx, hi⟩
 ·simp at h
  subst h
  exact ⟨none, [], 0, rfl, Nat.le_refl _, ⟨by decide, fun _ => ⟨rfl, rfl⟩⟩, by simp, Seg.nil _ _ _ _ _⟩
 ·simp at h
  subst h
  have hlen : len' ≤ m := by rw [hmm]; split <;> omega
  rw [hc] at hi
  have h1 : ∀ i, i < len' → ∃ y : α, fit y ∧ ∀ j u, (en y)[j]? = some u → w.cell? (a.add (i * size + j)) = some u := by
   intro i hil
   obtain ⟨cs', hcc, htt⟩ := hi i (by omega)
   obtain ⟨y, rfl, hy⟩ := hel _ _ _ htt
   obtain ⟨_, _, hat⟩ := World.cells?_some hcc
   refine ⟨y, hy, fun j u hu => ?_⟩
   have hj : j < size := by rw [← he y]; exact (qzM hu).1
   rw [← add_add, hat j hj, hu]
  obtain ⟨l, hll, hP⟩ := list_of len' h1
  subst hll
  refine ⟨some a, l, cap', rfl, hl, ⟨hm, by simp⟩, fun y hy => ?_, fun k y hk => ?_⟩
  ·obtain ⟨k, hk, rfl⟩ := List.getElem_of_mem hy
   exact (hP k _ (qzJ hk)).1
  ·have hcs := (hP k y hk).2
   have z0 : ∃ u, (en y)[0]? = some u := ⟨_, qzJ (by rw [he]; exact hs0)⟩
   obtain ⟨u0, hu0⟩ := z0
   have hk1 := hcs 0 u0 hu0
   obtain ⟨b, off, spot⟩ := a
   have hs : spot = none := by
    have hk0 : 0 < l.length := by have := (qzM hk).1; omega
    obtain ⟨y0, hy0⟩ : ∃ y, l[0]? = some y := ⟨_, qzJ hk0⟩
    obtain ⟨u1, hu1⟩ : ∃ u, (en y0)[0]? = some u := ⟨_, qzJ (by rw [he]; exact hs0)⟩
    have h2 := (hP 0 y0 hy0).2 0 u1 hu1
    simpa [Addr.add] using World.cell?_spot h2
   subst hs
   have norm : ∀ q v, w.cell? ((⟨b, off, none⟩ : Addr).add q) = some v → w.cell? ⟨b, off + q, none⟩ = some v := by
    intro q v h
    unfold Addr.add at h
    split at h
    ·rename_i hz; subst hz; simpa using h
    ·exact h
   refine ⟨b, off, rfl, block_lt_of_cell (norm _ _ hk1), fun j u hu => ?_⟩
   have := norm _ _ (hcs j u hu)
   simpa [Nat.add_assoc] using this
section
variable {H : Type} {enc : TypeId × Value → H} {w : World} {spare : Nat → Bool} {held : Bool} {fuel : Nat} {cs : List Value} {x : DataW H × List MemPlace}
theorem xA5 (h : DataW.trod enc Tryz.prog w 0 spare held fuel 3 cs = some x) : ∃ n : Int, cs = [.int .i64 n] ∧ I64 n := by
 obtain ⟨n, h1, _, h3⟩ := DataW.trod_int Tryz.underlying3 h
 exact ⟨n, h1, bounds_i64 h3⟩
theorem xIj (h : DataW.trod enc Tryz.prog w 0 spare held fuel 4 cs = some x) : ∃ b : Bool, cs = [.bool b] := by
 obtain ⟨b, e1, _⟩ := DataW.trod_bool Tryz.underlying4 h
 exact ⟨b, e1⟩
theorem trod_str (h : DataW.trod enc Tryz.prog w 0 spare held fuel 9 cs = some x) : ∃ s : ByteArray, cs = [.string s] := by
 obtain ⟨s, e1, _⟩ := DataW.trod_string Tryz.underlying9 h
 exact ⟨s, e1⟩
theorem cz0 : Tryz.prog.cellsOf 4 = 1 := by kernel_rfl
theorem cz1 : Tryz.prog.cellsOf 3 = 1 := by kernel_rfl
theorem cz2 : Tryz.prog.cellsOf 9 = 1 := by kernel_rfl
theorem cz3 : Tryz.prog.cellsOf 90 = 2 := by kernel_rfl
theorem xIi (h : DataW.trod enc Tryz.prog w 0 spare held fuel 90 cs = some x) : ∃ (a : Int) (b : Int), cs = [.int .i64 a, .int .i64 b] ∧ I64 a ∧ I64 b := by
 obtain ⟨xs, fu_, _, _, hl, hxl, hf⟩ := DataW.trod_struct Tryz.underlying90 h
 have h0 : DataW.trod enc Tryz.prog w 0 spare held fu_ 3 ((cs.drop 0).take (Tryz.prog.cellsOf 3)) = xs[0]? := hf 0 _ rfl
 rw [cz1] at h0
 have h1 : DataW.trod enc Tryz.prog w 0 spare held fu_ 3 ((cs.drop 1).take (Tryz.prog.cellsOf 3)) = xs[1]? := hf 1 _ rfl
 rw [cz1] at h1
 rw [cz3] at hl
 match cs, hl, xs, hxl with
 | [u0, u1], _, [y0, y1], _ =>
  replace h0 : DataW.trod enc Tryz.prog w 0 spare held fu_ 3 [u0] = some y0 := h0
  obtain ⟨a, q0, e0_0⟩ := xA5 h0
  cases q0
  replace h1 : DataW.trod enc Tryz.prog w 0 spare held fu_ 3 [u1] = some y1 := h1
  obtain ⟨b, q1, e1_0⟩ := xA5 h1
  cases q1
  exact ⟨a, b, rfl, e0_0, e1_0⟩
theorem cz4 : Tryz.prog.cellsOf 143 = 2 := by kernel_rfl
theorem trod_co (h : DataW.trod enc Tryz.prog w 0 spare held fuel 143 cs = some x) : ∃ (a : Int) (b : Int), cs = [.int .i64 a, .int .i64 b] ∧ I64 a ∧ I64 b := by
 obtain ⟨xs, fu_, _, _, hl, hxl, hf⟩ := DataW.trod_struct Tryz.underlying143 h
 have h0 : DataW.trod enc Tryz.prog w 0 spare held fu_ 3 ((cs.drop 0).take (Tryz.prog.cellsOf 3)) = xs[0]? := hf 0 _ rfl
 rw [cz1] at h0
 have h1 : DataW.trod enc Tryz.prog w 0 spare held fu_ 3 ((cs.drop 1).take (Tryz.prog.cellsOf 3)) = xs[1]? := hf 1 _ rfl
 rw [cz1] at h1
 rw [cz4] at hl
 match cs, hl, xs, hxl with
 | [u0, u1], _, [y0, y1], _ =>
  replace h0 : DataW.trod enc Tryz.prog w 0 spare held fu_ 3 [u0] = some y0 := h0
  obtain ⟨a, q0, e0_0⟩ := xA5 h0
  cases q0
  replace h1 : DataW.trod enc Tryz.prog w 0 spare held fu_ 3 [u1] = some y1 := h1
  obtain ⟨b, q1, e1_0⟩ := xA5 h1
  cases q1
  exact ⟨a, b, rfl, e0_0, e1_0⟩
theorem el_co (h : DataW.trod enc Tryz.prog w 0 spare held fuel 143 cs = some x) : ∃ y : Int × Int, cs = eS y ∧ True := by
 obtain ⟨a, b, rfl, _⟩ := trod_co h
 exact ⟨(a, b), rfl, trivial⟩
theorem cz5 : Tryz.prog.cellsOf 151 = 5 := by kernel_rfl
theorem trod_un (h : DataW.trod enc Tryz.prog w 0 spare held fuel 151 cs = some x) : ∃ (nm : ByteArray) (k : Int) (ba : Int) (f_a : Int) (f_b : Int), cs = [.string nm, .int .i64 k, .int .i64 ba, .int .i64 f_a, .int .i64 f_b] ∧ I64 k ∧ I64 ba ∧ I64 f_a ∧ I64 f_b := by
 obtain ⟨xs, fu_, _, _, hl, hxl, hf⟩ := DataW.trod_struct Tryz.underlying151 h
 have h0 : DataW.trod enc Tryz.prog w 0 spare held fu_ 9 ((cs.drop 0).take (Tryz.prog.cellsOf 9)) = xs[0]? := hf 0 _ rfl
 rw [cz2] at h0
 have h1 : DataW.trod enc Tryz.prog w 0 spare held fu_ 3 ((cs.drop 1).take (Tryz.prog.cellsOf 3)) = xs[1]? := hf 1 _ rfl
 rw [cz1] at h1
 have h2 : DataW.trod enc Tryz.prog w 0 spare held fu_ 3 ((cs.drop 2).take (Tryz.prog.cellsOf 3)) = xs[2]? := hf 2 _ rfl
 rw [cz1] at h2
 have h3 : DataW.trod enc Tryz.prog w 0 spare held fu_ 90 ((cs.drop 3).take (Tryz.prog.cellsOf 90)) = xs[3]? := hf 3 _ rfl
 rw [cz3] at h3
 rw [cz5] at hl
 match cs, hl, xs, hxl with
 | [u0, u1, u2, u3, u4], _, [y0, y1, y2, y3], _ =>
  replace h0 : DataW.trod enc Tryz.prog w 0 spare held fu_ 9 [u0] = some y0 := h0
  obtain ⟨nm, q0⟩ := trod_str h0
  cases q0
  replace h1 : DataW.trod enc Tryz.prog w 0 spare held fu_ 3 [u1] = some y1 := h1
  obtain ⟨k, q1, e1_0⟩ := xA5 h1
  cases q1
  replace h2 : DataW.trod enc Tryz.prog w 0 spare held fu_ 3 [u2] = some y2 := h2
  obtain ⟨ba, q2, e2_0⟩ := xA5 h2
  cases q2
  replace h3 : DataW.trod enc Tryz.prog w 0 spare held fu_ 90 [u3, u4] = some y3 := h3
  obtain ⟨f_a, f_b, q3, e3_0, e3_1⟩ := xIi h3
  cases q3
  exact ⟨nm, k, ba, f_a, f_b, rfl, e1_0, e2_0, e3_0, e3_1⟩
theorem el_un (h : DataW.trod enc Tryz.prog w 0 spare held fuel 151 cs = some x) : ∃ y : Uni, cs = eU y ∧ (I64 y.f.1 ∧ I64 y.f.2) := by
 obtain ⟨a, b, c, d, e, rfl, _, _, f1, f2⟩ := trod_un h
 exact ⟨⟨a, b, c, (d, e)⟩, rfl, f1, f2⟩
theorem cz6 : Tryz.prog.cellsOf 92 = 7 := by kernel_rfl
theorem trod_at (h : DataW.trod enc Tryz.prog w 0 spare held fuel 92 cs = some x) : ∃ (k : Int) (r : Int) (g : Int) (t : Int) (u : Int) (l_a : Int) (l_b : Int), cs = [.int .i64 k, .int .i64 r, .int .i64 g, .int .i64 t, .int .i64 u, .int .i64 l_a, .int .i64 l_b] ∧ I64 k ∧ I64 r ∧ I64 g ∧ I64 t ∧ I64 u ∧ I64 l_a ∧ I64 l_b := by
 obtain ⟨xs, fu_, _, _, hl, hxl, hf⟩ := DataW.trod_struct Tryz.underlying92 h
 have h0 : DataW.trod enc Tryz.prog w 0 spare held fu_ 3 ((cs.drop 0).take (Tryz.prog.cellsOf 3)) = xs[0]? := hf 0 _ rfl
 rw [cz1] at h0
 have h1 : DataW.trod enc Tryz.prog w 0 spare held fu_ 3 ((cs.drop 1).take (Tryz.prog.cellsOf 3)) = xs[1]? := hf 1 _ rfl
 rw [cz1] at h1
 have h2 : DataW.trod enc Tryz.prog w 0 spare held fu_ 3 ((cs.drop 2).take (Tryz.prog.cellsOf 3)) = xs[2]? := hf 2 _ rfl
 rw [cz1] at h2
 have h3 : DataW.trod enc Tryz.prog w 0 spare held fu_ 3 ((cs.drop 3).take (Tryz.prog.cellsOf 3)) = xs[3]? := hf 3 _ rfl
 rw [cz1] at h3
 have h4 : DataW.trod enc Tryz.prog w 0 spare held fu_ 3 ((cs.drop 4).take (Tryz.prog.cellsOf 3)) = xs[4]? := hf 4 _ rfl
 rw [cz1] at h4
 have h5 : DataW.trod enc Tryz.prog w 0 spare held fu_ 90 ((cs.drop 5).take (Tryz.prog.cellsOf 90)) = xs[5]? := hf 5 _ rfl
 rw [cz3] at h5
 rw [cz6] at hl
 match cs, hl, xs, hxl with
 | [u0, u1, u2, u3, u4, u5, u6], _, [y0, y1, y2, y3, y4, y5], _ =>
  replace h0 : DataW.trod enc Tryz.prog w 0 spare held fu_ 3 [u0] = some y0 := h0
  obtain ⟨k, q0, e0_0⟩ := xA5 h0
  cases q0
  replace h1 : DataW.trod enc Tryz.prog w 0 spare held fu_ 3 [u1] = some y1 := h1
  obtain ⟨r, q1, e1_0⟩ := xA5 h1
  cases q1
  replace h2 : DataW.trod enc Tryz.prog w 0 spare held fu_ 3 [u2] = some y2 := h2
  obtain ⟨g, q2, e2_0⟩ := xA5 h2
  cases q2
  replace h3 : DataW.trod enc Tryz.prog w 0 spare held fu_ 3 [u3] = some y3 := h3
  obtain ⟨t, q3, e3_0⟩ := xA5 h3
  cases q3
  replace h4 : DataW.trod enc Tryz.prog w 0 spare held fu_ 3 [u4] = some y4 := h4
  obtain ⟨u, q4, e4_0⟩ := xA5 h4
  cases q4
  replace h5 : DataW.trod enc Tryz.prog w 0 spare held fu_ 90 [u5, u6] = some y5 := h5
  obtain ⟨l_a, l_b, q5, e5_0, e5_1⟩ := xIi h5
  cases q5
  exact ⟨k, r, g, t, u, l_a, l_b, rfl, e0_0, e1_0, e2_0, e3_0, e4_0, e5_0, e5_1⟩
theorem el_at (h : DataW.trod enc Tryz.prog w 0 spare held fuel 92 cs = some x) : ∃ y : Atc, cs = eA y ∧ (I64 y.lot.1 ∧ I64 y.lot.2) := by
 obtain ⟨k, r, g, t, u, a, b, rfl, _, _, _, _, _, f1, f2⟩ := trod_at h
 exact ⟨⟨k, r, g, t, u, (a, b)⟩, rfl, f1, f2⟩
theorem cz7 : Tryz.prog.cellsOf 93 = 1 := by kernel_rfl
theorem cz8 : Tryz.prog.cellsOf 95 = 16 := by kernel_rfl
theorem trod_cl (h : DataW.trod enc Tryz.prog w 0 spare held fuel 95 cs = some x) : ∃ (k : Int) (r : Int) (a : Int) (n : Int) (sA : Option Addr) (sl : List (Int × Int)) (sc : Nat) (af : Int) (g : Int) (b : Bool) (f : Bool) (p : Int) (re : Int) (v_a : Int) (v_b : Int) (u : Int) (t : Int) (w_ : Bool), cs = [.int .i64 k, .int .i64 r, .int .i64 a, .int .i64 n, .slice sA sl.length sc, .int .i64 af, .int .i64 g, .bool b, .bool f, .int .i64 p, .int .i64 re, .int .i64 v_a, .int .i64 v_b, .int .i64 u, .int .i64 t, .bool w_] ∧ I64 k ∧ I64 r ∧ I64 a ∧ I64 n ∧ LstM w (eS) 2 (fun _ => True) sA sl sc ∧ I64 af ∧ I64 g ∧ I64 p ∧ I64 re ∧ I64 v_a ∧ I64 v_b ∧ I64 u ∧ I64 t := by
 obtain ⟨xs, fu_, _, _, hl, hxl, hf⟩ := DataW.trod_struct Tryz.underlying95 h
 have h0 : DataW.trod enc Tryz.prog w 0 spare held fu_ 3 ((cs.drop 0).take (Tryz.prog.cellsOf 3)) = xs[0]? := hf 0 _ rfl
 rw [cz1] at h0
 have h1 : DataW.trod enc Tryz.prog w 0 spare held fu_ 3 ((cs.drop 1).take (Tryz.prog.cellsOf 3)) = xs[1]? := hf 1 _ rfl
 rw [cz1] at h1
 have h2 : DataW.trod enc Tryz.prog w 0 spare held fu_ 3 ((cs.drop 2).take (Tryz.prog.cellsOf 3)) = xs[2]? := hf 2 _ rfl
 rw [cz1] at h2
 have h3 : DataW.trod enc Tryz.prog w 0 spare held fu_ 3 ((cs.drop 3).take (Tryz.prog.cellsOf 3)) = xs[3]? := hf 3 _ rfl
 rw [cz1] at h3
 have h4 : DataW.trod enc Tryz.prog w 0 spare held fu_ 93 ((cs.drop 4).take (Tryz.prog.cellsOf 93)) = xs[4]? := hf 4 _ rfl
 rw [cz7] at h4
 have h5 : DataW.trod enc Tryz.prog w 0 spare held fu_ 3 ((cs.drop 5).take (Tryz.prog.cellsOf 3)) = xs[5]? := hf 5 _ rfl
 rw [cz1] at h5
 have h6 : DataW.trod enc Tryz.prog w 0 spare held fu_ 3 ((cs.drop 6).take (Tryz.prog.cellsOf 3)) = xs[6]? := hf 6 _ rfl
 rw [cz1] at h6
 have h7 : DataW.trod enc Tryz.prog w 0 spare held fu_ 4 ((cs.drop 7).take (Tryz.prog.cellsOf 4)) = xs[7]? := hf 7 _ rfl
 rw [cz0] at h7
 have h8 : DataW.trod enc Tryz.prog w 0 spare held fu_ 4 ((cs.drop 8).take (Tryz.prog.cellsOf 4)) = xs[8]? := hf 8 _ rfl
 rw [cz0] at h8
 have h9 : DataW.trod enc Tryz.prog w 0 spare held fu_ 3 ((cs.drop 9).take (Tryz.prog.cellsOf 3)) = xs[9]? := hf 9 _ rfl
 rw [cz1] at h9
 have h10 : DataW.trod enc Tryz.prog w 0 spare held fu_ 3 ((cs.drop 10).take (Tryz.prog.cellsOf 3)) = xs[10]? := hf 10 _ rfl
 rw [cz1] at h10
 have h11 : DataW.trod enc Tryz.prog w 0 spare held fu_ 90 ((cs.drop 11).take (Tryz.prog.cellsOf 90)) = xs[11]? := hf 11 _ rfl
 rw [cz3] at h11
 have h12 : DataW.trod enc Tryz.prog w 0 spare held fu_ 3 ((cs.drop 13).take (Tryz.prog.cellsOf 3)) = xs[12]? := hf 12 _ rfl
 rw [cz1] at h12
 have h13 : DataW.trod enc Tryz.prog w 0 spare held fu_ 3 ((cs.drop 14).take (Tryz.prog.cellsOf 3)) = xs[13]? := hf 13 _ rfl
 rw [cz1] at h13
 have h14 : DataW.trod enc Tryz.prog w 0 spare held fu_ 4 ((cs.drop 15).take (Tryz.prog.cellsOf 4)) = xs[14]? := hf 14 _ rfl
 rw [cz0] at h14
 rw [cz8] at hl
 match cs, hl, xs, hxl with
 | [u0, u1, u2, u3, u4, u5, u6, u7, u8, u9, u10, u11, u12, u13, u14, u15], _, [y0, y1, y2, y3, y4, y5, y6, y7, y8, y9, y10, y11, y12, y13, y14], _ =>
  replace h0 : DataW.trod enc Tryz.prog w 0 spare held fu_ 3 [u0] = some y0 := h0
  obtain ⟨k, q0, e0_0⟩ := xA5 h0
  cases q0
  replace h1 : DataW.trod enc Tryz.prog w 0 spare held fu_ 3 [u1] = some y1 := h1
  obtain ⟨r, q1, e1_0⟩ := xA5 h1
  cases q1
  replace h2 : DataW.trod enc Tryz.prog w 0 spare held fu_ 3 [u2] = some y2 := h2
  obtain ⟨a, q2, e2_0⟩ := xA5 h2
  cases q2
  replace h3 : DataW.trod enc Tryz.prog w 0 spare held fu_ 3 [u3] = some y3 := h3
  obtain ⟨n, q3, e3_0⟩ := xA5 h3
  cases q3
  replace h4 : DataW.trod enc Tryz.prog w 0 spare held fu_ 93 [u4] = some y4 := h4
  obtain ⟨sA, sl, sc, q4, e4_0⟩ := xCq (eS) 2 (fun _ => True) (fun _ => rfl) (by omega) Tryz.underlying93 cz4 (fun _ _ _ h => el_co h) h4
  cases q4
  replace h5 : DataW.trod enc Tryz.prog w 0 spare held fu_ 3 [u5] = some y5 := h5
  obtain ⟨af, q5, e5_0⟩ := xA5 h5
  cases q5
  replace h6 : DataW.trod enc Tryz.prog w 0 spare held fu_ 3 [u6] = some y6 := h6
  obtain ⟨g, q6, e6_0⟩ := xA5 h6
  cases q6
  replace h7 : DataW.trod enc Tryz.prog w 0 spare held fu_ 4 [u7] = some y7 := h7
  obtain ⟨b, q7⟩ := xIj h7
  cases q7
  replace h8 : DataW.trod enc Tryz.prog w 0 spare held fu_ 4 [u8] = some y8 := h8
  obtain ⟨f, q8⟩ := xIj h8
  cases q8
  replace h9 : DataW.trod enc Tryz.prog w 0 spare held fu_ 3 [u9] = some y9 := h9
  obtain ⟨p, q9, e9_0⟩ := xA5 h9
  cases q9
  replace h10 : DataW.trod enc Tryz.prog w 0 spare held fu_ 3 [u10] = some y10 := h10
  obtain ⟨re, q10, e10_0⟩ := xA5 h10
  cases q10
  replace h11 : DataW.trod enc Tryz.prog w 0 spare held fu_ 90 [u11, u12] = some y11 := h11
  obtain ⟨v_a, v_b, q11, e11_0, e11_1⟩ := xIi h11
  cases q11
  replace h12 : DataW.trod enc Tryz.prog w 0 spare held fu_ 3 [u13] = some y12 := h12
  obtain ⟨u, q12, e12_0⟩ := xA5 h12
  cases q12
  replace h13 : DataW.trod enc Tryz.prog w 0 spare held fu_ 3 [u14] = some y13 := h13
  obtain ⟨t, q13, e13_0⟩ := xA5 h13
  cases q13
  replace h14 : DataW.trod enc Tryz.prog w 0 spare held fu_ 4 [u15] = some y14 := h14
  obtain ⟨w_, q14⟩ := xIj h14
  cases q14
  exact ⟨k, r, a, n, sA, sl, sc, af, g, b, f, p, re, v_a, v_b, u, t, w_, rfl, e0_0, e1_0, e2_0, e3_0, e4_0, e5_0, e6_0, e9_0, e10_0, e11_0, e11_1, e12_0, e13_0⟩
def fitK (w : World) (y : Km) : Prop := LstM w eS 2 (fun _ => True) y.A y.k.start y.cap ∧ I64 y.k.v.1 ∧ I64 y.k.v.2
theorem el_cl (h : DataW.trod enc Tryz.prog w 0 spare held fuel 95 cs = some x) : ∃ y : Km, cs = eK y ∧ fitK w y := by
 obtain ⟨k, r, a, n, sA, sl, sc, af, g, b, f, p, re, v_a, v_b, u, t, w_, rfl, _, _, _, _, f4, _, _, _, _, f9, f10, _, _⟩ := trod_cl h
 exact ⟨⟨⟨k, r, a, n, sl, af, g, b, f, p, re, (v_a, v_b), u, t, w_⟩, sA, sc⟩, rfl, f4, f9, f10⟩
theorem el_i (h : DataW.trod enc Tryz.prog w 0 spare held fuel 3 cs = some x) : ∃ y : Int, cs = eI y ∧ True := by
 obtain ⟨a, rfl, _⟩ := xA5 h
 exact ⟨a, rfl, trivial⟩
theorem cz9 : Tryz.prog.cellsOf 22 = 1 := by kernel_rfl
theorem cz10 : Tryz.prog.cellsOf 23 = 1 := by kernel_rfl
theorem cz11 : Tryz.prog.cellsOf 24 = 1 := by kernel_rfl
theorem cz12 : Tryz.prog.cellsOf 25 = 1 := by kernel_rfl
theorem cz13 : Tryz.prog.cellsOf 27 = 7 := by kernel_rfl
theorem trod_cn (h : DataW.trod enc Tryz.prog w 0 spare held fuel 27 cs = some x) : ∃ (pa : Int) (hA : Option Addr) (hl : List Int) (hc : Nat) (uA : Option Addr) (ul : List Uni) (uc : Nat) (aA : Option Addr) (al : List Atc) (ac : Nat) (kA : Option Addr) (kl : List Km) (kc : Nat) (da : Int) (oA : Option Addr) (ol : List Int) (oc : Nat), cs = [.int .i64 pa, .slice hA hl.length hc, .slice uA ul.length uc, .slice aA al.length ac, .slice kA kl.length kc, .int .i64 da, .slice oA ol.length oc] ∧ I64 pa ∧ LstM w (eI) 1 (fun _ => True) hA hl hc ∧ LstM w (eU) 5 (fun y => I64 y.f.1 ∧ I64 y.f.2) uA ul uc ∧ LstM w (eA) 7 (fun y => I64 y.lot.1 ∧ I64 y.lot.2) aA al ac ∧ LstM w (eK) 16 (fitK w) kA kl kc ∧ I64 da ∧ LstM w (eI) 1 (fun _ => True) oA ol oc := by
 obtain ⟨xs, fu_, _, _, hl, hxl, hf⟩ := DataW.trod_struct Tryz.underlying27 h
 have h0 : DataW.trod enc Tryz.prog w 0 spare held fu_ 3 ((cs.drop 0).take (Tryz.prog.cellsOf 3)) = xs[0]? := hf 0 _ rfl
 rw [cz1] at h0
 have h1 : DataW.trod enc Tryz.prog w 0 spare held fu_ 22 ((cs.drop 1).take (Tryz.prog.cellsOf 22)) = xs[1]? := hf 1 _ rfl
 rw [cz9] at h1
 have h2 : DataW.trod enc Tryz.prog w 0 spare held fu_ 23 ((cs.drop 2).take (Tryz.prog.cellsOf 23)) = xs[2]? := hf 2 _ rfl
 rw [cz10] at h2
 have h3 : DataW.trod enc Tryz.prog w 0 spare held fu_ 24 ((cs.drop 3).take (Tryz.prog.cellsOf 24)) = xs[3]? := hf 3 _ rfl
 rw [cz11] at h3
 have h4 : DataW.trod enc Tryz.prog w 0 spare held fu_ 25 ((cs.drop 4).take (Tryz.prog.cellsOf 25)) = xs[4]? := hf 4 _ rfl
 rw [cz12] at h4
 have h5 : DataW.trod enc Tryz.prog w 0 spare held fu_ 3 ((cs.drop 5).take (Tryz.prog.cellsOf 3)) = xs[5]? := hf 5 _ rfl
 rw [cz1] at h5
 have h6 : DataW.trod enc Tryz.prog w 0 spare held fu_ 22 ((cs.drop 6).take (Tryz.prog.cellsOf 22)) = xs[6]? := hf 6 _ rfl
 rw [cz9] at h6
 rw [cz13] at hl
 match cs, hl, xs, hxl with
 | [u0, u1, u2, u3, u4, u5, u6], _, [y0, y1, y2, y3, y4, y5, y6], _ =>
  replace h0 : DataW.trod enc Tryz.prog w 0 spare held fu_ 3 [u0] = some y0 := h0
  obtain ⟨pa, q0, e0_0⟩ := xA5 h0
  cases q0
  replace h1 : DataW.trod enc Tryz.prog w 0 spare held fu_ 22 [u1] = some y1 := h1
  obtain ⟨hA, hl, hc, q1, e1_0⟩ := xCq (eI) 1 (fun _ => True) (fun _ => rfl) (by omega) Tryz.underlying22 cz1 (fun _ _ _ h => el_i h) h1
  cases q1
  replace h2 : DataW.trod enc Tryz.prog w 0 spare held fu_ 23 [u2] = some y2 := h2
  obtain ⟨uA, ul, uc, q2, e2_0⟩ := xCq (eU) 5 (fun y => I64 y.f.1 ∧ I64 y.f.2) (fun _ => rfl) (by omega) Tryz.underlying23 cz5 (fun _ _ _ h => el_un h) h2
  cases q2
  replace h3 : DataW.trod enc Tryz.prog w 0 spare held fu_ 24 [u3] = some y3 := h3
  obtain ⟨aA, al, ac, q3, e3_0⟩ := xCq (eA) 7 (fun y => I64 y.lot.1 ∧ I64 y.lot.2) (fun _ => rfl) (by omega) Tryz.underlying24 cz6 (fun _ _ _ h => el_at h) h3
  cases q3
  replace h4 : DataW.trod enc Tryz.prog w 0 spare held fu_ 25 [u4] = some y4 := h4
  obtain ⟨kA, kl, kc, q4, e4_0⟩ := xCq (eK) 16 (fitK w) (fun _ => rfl) (by omega) Tryz.underlying25 cz8 (fun _ _ _ h => el_cl h) h4
  cases q4
  replace h5 : DataW.trod enc Tryz.prog w 0 spare held fu_ 3 [u5] = some y5 := h5
  obtain ⟨da, q5, e5_0⟩ := xA5 h5
  cases q5
  replace h6 : DataW.trod enc Tryz.prog w 0 spare held fu_ 22 [u6] = some y6 := h6
  obtain ⟨oA, ol, oc, q6, e6_0⟩ := xCq (eI) 1 (fun _ => True) (fun _ => rfl) (by omega) Tryz.underlying22 cz1 (fun _ _ _ h => el_i h) h6
  cases q6
  exact ⟨pa, hA, hl, hc, uA, ul, uc, aA, al, ac, kA, kl, kc, da, oA, ol, oc, rfl, e0_0, e1_0, e2_0, e3_0, e4_0, e5_0, e6_0⟩
theorem el_ij (h : DataW.trod enc Tryz.prog w 0 spare held fuel 3 cs = some x) : ∃ y : Int, cs = eI y ∧ I64 y := by
 obtain ⟨a, rfl, h1⟩ := xA5 h
 exact ⟨a, rfl, h1⟩
end
structure ContW (w : World) (c : Con) (m : Cm) : Prop where
 h : LstM w eI 1 (fun _ => True) m.h c.hold m.hc
 u : LstM w eU 5 (fun y => I64 y.f.1 ∧ I64 y.f.2) m.u c.un m.uc
 a : LstM w eA 7 (fun y => I64 y.lot.1 ∧ I64 y.lot.2) m.a c.ac m.ac
 k : LstM w eK 16 (fitK w) m.k m.ks m.kc
 o : LstM w eI 1 (fun _ => True) m.o c.off m.oc
 e : m.ks.map (·.k) = c.cl
theorem ContW.cont {w : World} {c : Con} {m : Cm} (h : ContW w c m) (nh : c.hold.length ≤ 1000000) (nu : c.un.length ≤ 1000000) (na : c.ac.length ≤ 1000000) (nk : c.cl.length ≤ 1000000) (no : c.off.length ≤ 1000000) (ns : ∀ k ∈ c.cl, k.start.length ≤ 1000000) : Cont w c m :=
 ⟨h.h.2.2.2, h.u.2.2.2, h.a.2.2.2, h.k.2.2.2, h.o.2.2.2, h.e, fun x hx => ⟨(h.k.2.2.1 x hx).1.2.2.2, (h.k.2.2.1 x hx).2, ns _ (by rw [← h.e]; exact List.mem_map_of_mem hx), (h.k.2.2.1 x hx).1.1⟩, h.u.2.2.1, h.a.2.2.1, nh, nu, na, nk, no, h.h.1, h.u.1, h.a.1, by have := h.k.1; rw [← h.e]; simpa using this, h.o.1⟩
theorem open_con {H : Type} {enc : TypeId × Value → H} {w : World} {spare : Nat → Bool} {held : Bool} {b0 : Nat} {v : Value} {d : DataW H} {ps : List MemPlace} (hval : Value.okWide Tryz.prog w .any b0 27 v) (hd : DataW.Trod enc Tryz.prog w 0 spare held 27 v d ps) :
  ∃ (c : Con) (m : Cm), v = .agg (coA c m) ∧ ContW w c m := by
 obtain ⟨cs, rfl, hcs⟩ := okWide_struct Tryz.underlying27 hval
 obtain ⟨fuel, hf⟩ := hd
 simp only [Value.cells] at hf
 obtain ⟨pa, hA, hl, hc, uA, ul, uc, aA, al, ac, kA, kl, kc, da, oA, ol, oc, e, _, Lh, Lu, La, Lk, _, Lo⟩ := trod_cn hf
 obtain ⟨l⟩ := cs
 simp only at e
 subst e
 exact ⟨⟨pa, hl, ul, al, kl.map (·.k), da, ol⟩, ⟨hA, hc, uA, uc, aA, ac, kA, kc, oA, oc, kl⟩, by simp [coA], ⟨Lh, Lu, La, Lk, Lo, rfl⟩⟩
theorem open_ints {H : Type} {enc : TypeId × Value → H} {w : World} {spare : Nat → Bool} {held : Bool} {b0 : Nat} {v : Value} {d : DataW H} {ps : List MemPlace} (hval : Value.okWide Tryz.prog w .any b0 22 v) (hd : DataW.Trod enc Tryz.prog w 0 spare held 22 v d ps) :
  ∃ (A : Option Addr) (L : List Int) (c : Nat), v = .slice A L.length c ∧ LstM w eI 1 (fun y => I64 y) A L c := by
 obtain ⟨a0, len, cap, rfl⟩ := okWide_slice Tryz.underlying22 hval
 obtain ⟨fuel, hf⟩ := hd
 obtain ⟨A, l, c, e, hl⟩ := xCq eI 1 (fun y => I64 y) xAz (by omega) Tryz.underlying22 cz1 (fun _ _ _ h => el_ij h) (show DataW.trod enc Tryz.prog w 0 spare held fuel 22 [.slice a0 len cap] = some (d, ps) from hf)
 exact ⟨A, l, c, List.head_eq_of_cons_eq e, hl⟩
theorem tame_cont {w : World} {c : Con} {m : Cm} (h : ContW w c m) (hs : c.tame = true) : Cont w c m := by
 unfold Con.tame Con.small at hs
 simp only [Bool.and_eq_true, Bool.not_eq_true', Bool.or_eq_false_iff, decide_eq_false_iff_not, decide_eq_true_eq, List.all_eq_true] at hs
 obtain ⟨⟨⟨⟨⟨⟨⟨h1, h2⟩, h3⟩, h4⟩, h5⟩, h6⟩, _⟩, _⟩ := hs
 exact h.cont (by omega) (by omega) (by omega) (by omega) (by omega) fun k hk => (by have := h6 k hk; omega)
end Go.Proofs.YtffceokjeonpcaaGreatDoor
namespace Go.Proofs.YtffceokjeonpcaaGreatDoor
open Go.ChangeShapes Go.WideShapes Go.ChangeAt Go.RowKit
theorem wrap_sh {H : Type} {enc : TypeId × Value → H} {a : Assume} {C : Checked} {os : Os} {f : FuncId} {fn : Func} {s : ChangeSpec} {conds : List PathCond} {apart fresh handsOn again : Bool} {X : World → Array Value → Prop}
  (hX : ∀ (w w' : World) (args : Array Value), w.heap = w'.heap → X w args → X w' args)
  (own : ownKnob C.prog.godebug = none) (started : os.Started) (noInit : C.prog.inits.idxOf? f = none) (hfn : C.prog.funcs[f]? = some fn)
  (witness : ∃ (w : World) (tape : Tape) (i : Input), w.os = os ∧ (w.forCall tape i).Shaped C.prog ∧ i.vars = [] ∧ Input.okWide C.prog (w.forCall tape i) .any w.heap.size f i ∧
   ((s.pre enc C.prog fn conds apart (w.forCall tape i).memory i.args ∧ X (w.forCall tape i).memory i.args) ∧ sizedMet enc C.prog fn (OpenSpec.ofChange s) apart (w.forCall tape i).memory i.args) ∧ a.holds C.prog (lone (Frame.enter C.prog f i.args .normal) [] (w.forCall tape i)))
  (contract : ∀ (W : World) (base : Nat) (args : Array Value) (ds gs : List (DataW H)) (before : List MemPlace),
   (∀ (j : Nat) t v, fn.params[j]? = some t → args[j]? = some v → Value.okWide C.prog W .any base t v) →
   DataW.Whole enc C.prog fn.params.toList s.vars apart W args.toList ds gs before → X W args → W.ShapedOpen C.prog →
   Calls C.prog f args W fun e W' => ∃ v, e = .returned v ∧ s.post enc C.prog fn apart fresh handsOn again W args v W') :
  ReturnsInHanded a C os f .any (fun w args => (s.pre enc C.prog fn conds apart w args ∧ X w args) ∧ sizedMet enc C.prog fn (OpenSpec.ofChange s) apart w args) (s.post enc C.prog fn apart fresh handsOn again) := by
 refine returnsInHanded_of_calls own started noInit witness ?_
 intro w tape i _ hsh _ hok hpre _
 obtain ⟨_, _, _, fn2, h2, _, _, _, _, hval⟩ := hok
 obtain rfl : fn2 = fn := Option.some.inj (h2.symm.trans hfn)
 obtain ⟨⟨⟨ds, gs, before, hw, _⟩, hx⟩, _⟩ := hpre
 refine (contract (w.forCall tape i) w.heap.size i.args ds gs before hval (DataW.Whole.of_heap (w' := w.forCall tape i) (by rfl) hw) (hX _ _ _ (by rfl) hx) hsh).mono fun e W' ⟨v, he, hp⟩ => ?_
 subst he
 exact ChangeSpec.post_blind hp
open Go.Deep
section
variable {H : Type} {enc : TypeId × Value → H}
theorem below_all {W W' : World} (hb : Below W.heap.size W W') {ts : List TypeId} : ∀ {vs : List Value} {ds : List (DataW H)} {ps : List MemPlace}, (ts.all fun t => Tryz.prog.readableRec t && decide (t < Tryz.prog.types.size)) = true →
  DataW.TrodAll enc Tryz.prog W 0 (fun _ => true) true ts vs ds ps → (∀ x ∈ ps, x.block < W.heap.size) → DataW.TrodAll enc Tryz.prog W' 0 (fun b => decide (b < W.heap.size)) true ts vs ds ps := by
 induction ts with
 | nil =>
  intro vs ds ps _ h _
  obtain ⟨rfl, rfl, rfl⟩ := trodAll_nil h
  simp [DataW.TrodAll]
 | cons t ts ih =>
  intro vs ds ps ht h hp
  obtain ⟨v, vs', d, ds', p, q, rfl, rfl, rfl, h1, h2⟩ := trodAll_cons h
  rw [List.all_cons, Bool.and_eq_true, Bool.and_eq_true] at ht
  exact trodAll_cons_mk (Below.trod Tryz.laidOut ht.1.1 (of_decide_eq_true ht.1.2) h1 hb fun x hx => hp x (by simp [hx])) (ih ht.2 h2 fun x hx => hp x (by simp [hx]))
end
theorem wf_u8 {n : Int} (h : (Lit.int .u8 n).wf = true) : 0 ≤ n ∧ n ≤ 255 := by
 simp [Lit.wf, IntKind.min, IntKind.max, IntKind.signed, IntKind.bits] at h
 omega
end Go.Proofs.YtffceokjeonpcaaGreatDoor
