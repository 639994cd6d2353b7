/- A portfolio as an argument, opened. -/
import Derived.Test.YteoicnhnpailiaaRows
import Derived.Test.YteoicnhnpailiaaCc4
import Derived.ProofKit
import Derived.Deep.Slices
import Derived.Below
import Derived.ChangeSame
import Derived.Carry
import Derived.OpenShut
import Derived.SizedLaws
namespace Go.Proofs.Yteoicnhnpailiaa
open Go.ChangeShapes Go.WideShapes Go.ChangeAt Go.RowKit Go.Deep

theorem Try.own : ownKnob Try.prog.godebug = none := by kernel_rfl
theorem Try.laidOut : laidOutB Try.prog = true := by kernel_rfl
theorem cells3 : Try.prog.cellsOf 3 = 1 := by kernel_rfl
theorem cellsR : Try.prog.cellsOf 44 = 2 := by kernel_rfl
theorem cellsD : Try.prog.cellsOf 55 = 4 := by kernel_rfl
theorem cellsG : Try.prog.cellsOf 63 = 3 := by kernel_rfl
theorem cellsT : Try.prog.cellsOf 74 = 2 := by kernel_rfl
theorem cellsP : Try.prog.cellsOf 27 = 6 := by kernel_rfl
theorem cellsS1 : Try.prog.cellsOf 22 = 1 := by kernel_rfl
theorem cellsS2 : Try.prog.cellsOf 23 = 1 := by kernel_rfl
theorem cellsS4 : Try.prog.cellsOf 24 = 1 := by kernel_rfl
theorem cellsS5 : Try.prog.cellsOf 25 = 1 := by kernel_rfl
def fitA (a : Int × Int) : Prop := (-9223372036854775808 ≤ a.1 ∧ a.1 ≤ 9223372036854775807) ∧ (-9223372036854775808 ≤ a.2 ∧ a.2 ≤ 9223372036854775807)
section
variable {H : Type} {enc : TypeId × Value → H} {w : World} {base : Nat} {spare : Nat → Bool} {held : Bool} {fuel : Nat} {cs : List Value} {x : DataW H × List MemPlace}
theorem wf_bd {n : Int} (h : (Lit.int .i64 n).wf = true) : -9223372036854775808 ≤ n ∧ n ≤ 9223372036854775807 := by
  exact bounds_i64 h
theorem trod_i64 (h : DataW.trod enc Try.prog w base spare held fuel 3 cs = some x) : ∃ n : Int, cs = [.int .i64 n] ∧ -9223372036854775808 ≤ n ∧ n ≤ 9223372036854775807 := by
  obtain ⟨n, h1, _, h3⟩ := DataW.trod_int Try.underlying3 h
  exact ⟨n, h1, wf_bd h3⟩
theorem trod_rat (h : DataW.trod enc Try.prog w base spare held fuel 44 cs = some x) : ∃ a : Int × Int, cs = encA a ∧ fitA a := by
  obtain ⟨xs, n, _, _, hl, hxl, hf⟩ := DataW.trod_struct Try.underlying44 h
  have h0 : DataW.trod enc Try.prog w base spare held n 3 ((cs.drop 0).take (Try.prog.cellsOf 3)) = xs[0]? := hf 0 _ rfl
  have h1 : DataW.trod enc Try.prog w base spare held n 3 ((cs.drop 1).take (Try.prog.cellsOf 3)) = xs[1]? := hf 1 _ rfl
  rw [cells3] at h0 h1
  rw [cellsR] at hl
  match cs, hl, xs, hxl with
  | [u, v], _, [y, z], _ =>
    obtain ⟨a, ha, ba⟩ := trod_i64 h0
    obtain ⟨b, hb, bb⟩ := trod_i64 h1
    simp at ha hb
    exact ⟨(a, b), by rw [ha, hb]; rfl, ba, bb⟩
theorem trod_debt (h : DataW.trod enc Try.prog w base spare held fuel 55 cs = some x) : ∃ y : Db, cs = encD y ∧ fitD y := by
  obtain ⟨xs, n, _, _, hl, hxl, hf⟩ := DataW.trod_struct Try.underlying55 h
  have h0 : DataW.trod enc Try.prog w base spare held n 3 ((cs.drop 0).take (Try.prog.cellsOf 3)) = xs[0]? := hf 0 _ rfl
  have h1 : DataW.trod enc Try.prog w base spare held n 3 ((cs.drop 1).take (Try.prog.cellsOf 3)) = xs[1]? := hf 1 _ rfl
  have h2 : DataW.trod enc Try.prog w base spare held n 44 ((cs.drop 2).take (Try.prog.cellsOf 44)) = xs[2]? := hf 2 _ rfl
  rw [cells3] at h0 h1
  rw [cellsR] at h2
  rw [cellsD] at hl
  match cs, hl, xs, hxl with
  | [u, v, p, q], _, [y, z, o], _ =>
    obtain ⟨a, ha, ba⟩ := trod_i64 h0
    obtain ⟨b, hb, bb⟩ := trod_i64 h1
    obtain ⟨⟨c, d⟩, hc, bc, bd⟩ := trod_rat h2
    simp [encA] at ha hb hc
    exact ⟨⟨a, b, c, d⟩, by rw [ha, hb, hc.1, hc.2]; rfl, ba, bb, bc, bd⟩
theorem trod_gu (h : DataW.trod enc Try.prog w base spare held fuel 63 cs = some x) : ∃ y : Gu, cs = encG y ∧ True := by
  obtain ⟨xs, n, _, _, hl, hxl, hf⟩ := DataW.trod_struct Try.underlying63 h
  have h0 : DataW.trod enc Try.prog w base spare held n 3 ((cs.drop 0).take (Try.prog.cellsOf 3)) = xs[0]? := hf 0 _ rfl
  have h1 : DataW.trod enc Try.prog w base spare held n 3 ((cs.drop 1).take (Try.prog.cellsOf 3)) = xs[1]? := hf 1 _ rfl
  have h2 : DataW.trod enc Try.prog w base spare held n 3 ((cs.drop 2).take (Try.prog.cellsOf 3)) = xs[2]? := hf 2 _ rfl
  rw [cells3] at h0 h1 h2
  rw [cellsG] at hl
  match cs, hl, xs, hxl with
  | [u, v, p], _, [y, z, o], _ =>
    obtain ⟨a, ha, _⟩ := trod_i64 h0
    obtain ⟨b, hb, _⟩ := trod_i64 h1
    obtain ⟨c, hc, _⟩ := trod_i64 h2
    simp at ha hb hc
    exact ⟨⟨a, b, c⟩, by rw [ha, hb, hc]; rfl, trivial⟩
theorem trod_tr (h : DataW.trod enc Try.prog w base spare held fuel 74 cs = some x) : ∃ y : Tr, cs = encT y ∧ True := by
  obtain ⟨xs, n, _, _, hl, hxl, hf⟩ := DataW.trod_struct Try.underlying74 h
  have h0 : DataW.trod enc Try.prog w base spare held n 3 ((cs.drop 0).take (Try.prog.cellsOf 3)) = xs[0]? := hf 0 _ rfl
  have h1 : DataW.trod enc Try.prog w base spare held n 3 ((cs.drop 1).take (Try.prog.cellsOf 3)) = xs[1]? := hf 1 _ rfl
  rw [cells3] at h0 h1
  rw [cellsT] at hl
  match cs, hl, xs, hxl with
  | [u, v], _, [y, z], _ =>
    obtain ⟨a, ha, _⟩ := trod_i64 h0
    obtain ⟨b, hb, _⟩ := trod_i64 h1
    simp at ha hb
    exact ⟨⟨a, b⟩, by rw [ha, hb]; rfl, trivial⟩
end
theorem list_of {α : Type} {P : Nat → α → Prop} : ∀ n, (∀ i, i < n → ∃ x, P i x) → ∃ l : List α, l.length = n ∧ ∀ k x, l[k]? = some x → P k x
  | 0, _ => ⟨[], rfl, fun k x h => by simp at h⟩
  | n + 1, h => by
    obtain ⟨l, hl, hP⟩ := list_of n fun i hi => h i (by omega)
    obtain ⟨x, hx⟩ := h n (by omega)
    refine ⟨l ++ [x], by simp [hl], fun k y hy => ?_⟩
    rcases Nat.lt_or_ge k n with hk | hk
    · rw [List.getElem?_append_left (by omega)] at hy; exact hP k y hy
    · rw [List.getElem?_append_right (by omega)] at hy
      have : k = n := by
        have := (List.getElem?_eq_some_iff.1 hy).1
        simp at this; omega
      subst this
      simp [hl] at hy
      subst hy; exact hx
/-- a slice, opened: its elements are of 'size' cells each, which read as 'en' says -/
theorem open_list {α : Type} (en : α → List Value) (size : Nat) (fit : α → Prop) (he : ∀ y, (en y).length = size) (hs0 : 0 < size) {H : Type} {enc : TypeId × Value → H} {w : World} {spare : Nat → Bool} {held : Bool} {fuel : Nat} {t e : TypeId} {c : Value} {x : DataW H × List MemPlace}
    (ht : Try.prog.underlying t = some (.slice e)) (hc : Try.prog.cellsOf e = size)
    (hel : ∀ (fuel : Nat) (cs : List Value) (x : DataW H × List MemPlace), DataW.trod enc Try.prog w 0 spare held fuel e cs = some x → ∃ y, cs = en y ∧ fit y)
    (hf : DataW.trod enc Try.prog w 0 spare held fuel t [c] = some x) :
    ∃ (A : Option Addr) (l : List α) (cap : Nat), c = .slice A l.length cap ∧ (l = [] ∨ ∃ es sp, x.1 = .slice es sp ∧ es.length = l.length) ∧ (∀ y ∈ l, fit y) ∧ Seg w w.heap.size size en A l := by
  rcases open_slice ht hf with ⟨h, _⟩ | ⟨a, len', cap', m, n, D, Pl, h, hb, hl, hm, hmm, hx, hi⟩
  · simp at h
    subst h
    exact ⟨none, [], 0, rfl, .inl rfl, by simp, Seg.nil _ _ _ _ _⟩
  · simp at h
    subst h
    have hlen : len' ≤ m := by rw [hmm]; split <;> omega
    rw [hc] at hi
    have h1 : ∀ i, i < len' → ∃ y : α, fit y ∧ ∀ j u, (en y)[j]? = some u → w.cell? (a.add (i * size + j)) = some u := by
      intro i hil
      obtain ⟨cs', hcc, htt⟩ := hi i (by omega)
      obtain ⟨y, rfl, hy⟩ := hel _ _ _ htt
      obtain ⟨_, _, hat⟩ := World.cells?_some hcc
      refine ⟨y, hy, fun j u hu => ?_⟩
      have hj : j < size := by rw [← he y]; exact (List.getElem?_eq_some_iff.1 hu).1
      rw [← add_add, hat j hj, hu]
    obtain ⟨l, hll, hP⟩ := list_of len' h1
    subst hll
    refine ⟨some a, l, cap', rfl, ?_, fun y hy => ?_, fun k y hk => ?_⟩
    · rw [hx]
      exact .inr ⟨_, _, rfl, by simp⟩
    · obtain ⟨k, hk, rfl⟩ := List.getElem_of_mem hy
      exact (hP k _ (List.getElem?_eq_getElem hk)).1
    · have hcs := (hP k y hk).2
      have z0 : ∃ u, (en y)[0]? = some u := ⟨_, List.getElem?_eq_getElem (by rw [he]; exact hs0)⟩
      obtain ⟨u0, hu0⟩ := z0
      have hk1 := hcs 0 u0 hu0
      obtain ⟨b, off, spot⟩ := a
      have hs : spot = none := by
        have hk0 : 0 < l.length := by have := (List.getElem?_eq_some_iff.1 hk).1; omega
        obtain ⟨y0, hy0⟩ : ∃ y, l[0]? = some y := ⟨_, List.getElem?_eq_getElem hk0⟩
        obtain ⟨u1, hu1⟩ : ∃ u, (en y0)[0]? = some u := ⟨_, List.getElem?_eq_getElem (by rw [he]; exact hs0)⟩
        have h2 := (hP 0 y0 hy0).2 0 u1 hu1
        simpa [Addr.add] using World.cell?_spot h2
      subst hs
      have norm : ∀ q v, w.cell? ((⟨b, off, none⟩ : Addr).add q) = some v → w.cell? ⟨b, off + q, none⟩ = some v := by
        intro q v h
        unfold Addr.add at h
        split at h
        · rename_i hz; subst hz; simpa using h
        · exact h
      refine ⟨b, off, rfl, block_lt_of_cell (norm _ _ hk1), fun j u hu => ?_⟩
      have := norm _ _ (hcs j u hu)
      simpa [Nat.add_assoc] using this
/-- a portfolio, opened -/
theorem open_pf {H : Type} {enc : TypeId × Value → H} {w : World} {spare : Nat → Bool} {held : Bool} {b0 : Nat} {v : Value} {d : DataW H} {ps : List MemPlace} (hval : Value.okWide Try.prog w .any b0 27 v) (hd : DataW.Trod enc Try.prog w 0 spare held 27 v d ps)
    (hsz : ∀ n ∈ d.weights Try.prog 27, n ≤ reachBytes) :
    ∃ (p : Pf) (m : Ms), v = .agg (pfA p m) ∧ Pm w p m ∧ Lp p ∧ (-9223372036854775808 ≤ p.n ∧ p.n ≤ 9223372036854775807) ∧ (∀ a ∈ p.as, fitA a) ∧ (∀ x ∈ p.du, fitD x) ∧ (∀ x ∈ p.la, fitD x) := by
  obtain ⟨cs, rfl, hcs⟩ := okWide_struct Try.underlying27 hval
  obtain ⟨fuel, hf⟩ := hd
  simp only [Value.cells] at hf
  obtain ⟨xs, n, _, ex, hl, hxl, hg⟩ := DataW.trod_struct Try.underlying27 hf
  have h0 : DataW.trod enc Try.prog w 0 spare held n 3 ((cs.toList.drop 0).take (Try.prog.cellsOf 3)) = xs[0]? := hg 0 _ rfl
  have h1 : DataW.trod enc Try.prog w 0 spare held n 22 ((cs.toList.drop 1).take (Try.prog.cellsOf 22)) = xs[1]? := hg 1 _ rfl
  have h2 : DataW.trod enc Try.prog w 0 spare held n 23 ((cs.toList.drop 2).take (Try.prog.cellsOf 23)) = xs[2]? := hg 2 _ rfl
  have h3 : DataW.trod enc Try.prog w 0 spare held n 23 ((cs.toList.drop 3).take (Try.prog.cellsOf 23)) = xs[3]? := hg 3 _ rfl
  have h4 : DataW.trod enc Try.prog w 0 spare held n 24 ((cs.toList.drop 4).take (Try.prog.cellsOf 24)) = xs[4]? := hg 4 _ rfl
  have h5 : DataW.trod enc Try.prog w 0 spare held n 25 ((cs.toList.drop 5).take (Try.prog.cellsOf 25)) = xs[5]? := hg 5 _ rfl
  rw [cells3] at h0
  rw [cellsS1] at h1
  rw [cellsS2] at h2 h3
  rw [cellsS4] at h4
  rw [cellsS5] at h5
  rw [cellsP] at hcs
  simp only [Prod.mk.injEq] at ex
  obtain ⟨rfl, rfl⟩ := ex
  obtain ⟨l⟩ := cs
  match l, hcs, xs, hxl with
  | [c0, c1, c2, c3, c4, c5], _, [y0, y1, y2, y3, y4, y5], _ =>
    obtain ⟨a, ha, ba⟩ := trod_i64 h0
    simp at ha
    subst ha
    obtain ⟨A1, l1, k1, rfl, d1, f1, s1⟩ := open_list encA 2 fitA (fun _ => rfl) (by omega) Try.underlying22 cellsR (fun _ _ _ h => trod_rat h) (show DataW.trod enc Try.prog w 0 spare held n 22 [c1] = some y1 by simpa using h1)
    obtain ⟨A2, l2, k2, rfl, d2, f2, s2⟩ := open_list encD 4 fitD (fun _ => rfl) (by omega) Try.underlying23 cellsD (fun _ _ _ h => trod_debt h) (show DataW.trod enc Try.prog w 0 spare held n 23 [c2] = some y2 by simpa using h2)
    obtain ⟨A3, l3, k3, rfl, d3, f3, s3⟩ := open_list encD 4 fitD (fun _ => rfl) (by omega) Try.underlying23 cellsD (fun _ _ _ h => trod_debt h) (show DataW.trod enc Try.prog w 0 spare held n 23 [c3] = some y3 by simpa using h3)
    obtain ⟨A4, l4, k4, rfl, d4, _, s4⟩ := open_list encG 3 (fun _ => True) (fun _ => rfl) (by omega) Try.underlying24 cellsG (fun _ _ _ h => trod_gu h) (show DataW.trod enc Try.prog w 0 spare held n 24 [c4] = some y4 by simpa using h4)
    obtain ⟨A5, l5, k5, rfl, d5, _, s5⟩ := open_list encT 2 (fun _ => True) (fun _ => rfl) (by omega) Try.underlying25 cellsT (fun _ _ _ h => trod_tr h) (show DataW.trod enc Try.prog w 0 spare held n 25 [c5] = some y5 by simpa using h5)
    refine ⟨⟨a, l1, l2, l3, l4, l5⟩, ⟨A1, k1, A2, k2, A3, k3, A4, k4, A5, k5⟩, rfl, ⟨s1, s2, s3, s4, s5⟩, ?_, ba, f1, f2, f3⟩
    have hb1 : Try.prog.bytesOf 44 = 16 := by kernel_rfl
    have hb2 : Try.prog.bytesOf 55 = 32 := by kernel_rfl
    have hb4 : Try.prog.bytesOf 63 = 24 := by kernel_rfl
    have hb5 : Try.prog.bytesOf 74 = 16 := by kernel_rfl
    simp only [DataW.weights, Try.underlying27, List.map_cons, List.map_nil, DataW.weightsEach, List.mem_append] at hsz
    refine ⟨?_, ?_, ?_, ?_, ?_⟩
    · rcases d1 with rfl | ⟨es, sp, hx, hes⟩
      · simp
      · have := hsz ((es.length + sp.length) * Try.prog.bytesOf 44) (.inr (.inl (by rw [hx]; simp [DataW.weights, Try.underlying22])))
        rw [hb1] at this; simp only [reachBytes] at this; show l1.length < _; omega
    · rcases d2 with rfl | ⟨es, sp, hx, hes⟩
      · simp
      · have := hsz ((es.length + sp.length) * Try.prog.bytesOf 55) (.inr (.inr (.inl (by rw [hx]; simp [DataW.weights, Try.underlying23]))))
        rw [hb2] at this; simp only [reachBytes] at this; show l2.length < _; omega
    · rcases d3 with rfl | ⟨es, sp, hx, hes⟩
      · simp
      · have := hsz ((es.length + sp.length) * Try.prog.bytesOf 55) (.inr (.inr (.inr (.inl (by rw [hx]; simp [DataW.weights, Try.underlying23])))))
        rw [hb2] at this; simp only [reachBytes] at this; show l3.length < _; omega
    · rcases d4 with rfl | ⟨es, sp, hx, hes⟩
      · simp
      · have := hsz ((es.length + sp.length) * Try.prog.bytesOf 63) (.inr (.inr (.inr (.inr (.inl (by rw [hx]; simp [DataW.weights, Try.underlying24]))))))
        rw [hb4] at this; simp only [reachBytes] at this; show l4.length < _; omega
    · rcases d5 with rfl | ⟨es, sp, hx, hes⟩
      · simp
      · have := hsz ((es.length + sp.length) * Try.prog.bytesOf 74) (.inr (.inr (.inr (.inr (.inr (.inl (by rw [hx]; simp [DataW.weights, Try.underlying25])))))))
        rw [hb5] at this; simp only [reachBytes] at this; show l5.length < _; omega
end Go.Proofs.Yteoicnhnpailiaa
