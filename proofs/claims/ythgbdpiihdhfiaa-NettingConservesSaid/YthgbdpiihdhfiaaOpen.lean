/- The arguments of the laws on netting, opened: an integer and a slice of debts. -/
import Derived.Test.YthgbdpiihdhfiaaRows
import Derived.Test.YthgbdpiihdhfiaaN01
import Derived.ProofKit
import Derived.Deep.Slices
import Derived.Below
import Derived.ChangeSame
import Derived.Carry
import Derived.OpenShut
import Derived.SizedLaws
namespace Go.Proofs.Ythgbdpiihdhfiaa
open Go.ChangeShapes Go.WideShapes Go.ChangeAt Go.RowKit Go.Deep

section
variable {H : Type} {enc : TypeId × Value → H} {P : Program}
theorem post_of_below {f : Func} {s : ChangeSpec} {apart fresh handsOn again : Bool} {W W' : World} {args : Array Value} {v : Value} {ds gs : List (DataW H)} {before pa pv : List MemPlace}
    (hW : DataW.Whole enc P f.params.toList s.vars apart W args.toList ds gs before)
    (hres : ∀ (b : Nat) (sp : Nat → Bool) (hd : Bool), DataW.TrodAll enc P W' b sp hd f.resultTypes.toList (v.resultList f.resultTypes.size) (s.fn H (ds ++ gs)).results [])
    (hargs : ∀ sp : Nat → Bool, (∀ p ∈ before, sp p.block = true) → DataW.TrodAll enc P W' 0 sp true f.params.toList args.toList (s.fn H (ds ++ gs)).args pa)
    (hvars : ∀ sp : Nat → Bool, (∀ p ∈ before, sp p.block = true) → DataW.TrodVars enc P W' sp s.vars (s.fn H (ds ++ gs)).vars pv)
    (hps : before = pa ++ pv) (hb : Below W.heap.size W W')
    (hok : ∀ (j : Nat) (t : TypeId) (r : Value), f.resultTypes[j]? = some t → (v.resultList f.resultTypes.size)[j]? = some r → Value.okWide P W' .any 0 t r) :
    s.post enc P f apart fresh handsOn again W args v W' := by
  have hlt : ∀ p ∈ before, p.block < W.heap.size := fun p hp => hW.lt p hp
  have hold : ∀ p ∈ before, (fun b => decide (b < W.heap.size)) p.block = true := fun p hp => by simpa using hlt p hp
  refine ⟨ds, gs, before, [], pa, pv, hW, hres _ _ _, hargs _ hold, hvars _ hold, World.keptBut_mono (fun p hp => ⟨hp, ?_⟩) (hb.frame (· ∈ before)), fun _ => ?_⟩
  · rw [hps, List.mem_append] at hp
    exact Or.inr hp
  · obtain ⟨_, _, _, _, _, hz, hn⟩ := hW
    refine ⟨hok, _, _, ([] ++ pa) ++ pv, ⟨[] ++ pa, pv, trodAll_append (hargs _ (fun _ _ => rfl)) (hres _ _ _), hvars _ (fun _ _ => rfl), rfl, ?_, ?_⟩, ?_⟩
    · intro b off hp
      have hin : MemPlace.cell b off ∈ before := by rw [hps]; simpa using hp
      rw [hb.frozen (hlt _ hin)]
      exact hz b off hin
    · intro ha
      have := hn ha
      rw [hps] at this
      simpa using this
    · intro p hp _
      rw [hps]
      simpa using hp
end

theorem Try.own : ownKnob Try.prog.godebug = none := by kernel_rfl
theorem Try.laidOut : laidOutB Try.prog = true := by kernel_rfl
theorem cells3 : Try.prog.cellsOf 3 = 1 := by kernel_rfl
theorem cells34 : Try.prog.cellsOf 34 = 2 := by kernel_rfl
theorem cells38 : Try.prog.cellsOf 38 = 4 := by kernel_rfl

section
variable {H : Type} {enc : TypeId × Value → H} {w : World} {base : Nat} {spare : Nat → Bool} {held : Bool} {fuel : Nat} {cs : List Value} {x : DataW H × List MemPlace}
theorem wf_bd {n : Int} (h : (Lit.int .i64 n).wf = true) : -9223372036854775808 ≤ n ∧ n ≤ 9223372036854775807 := by
  exact bounds_i64 h
theorem trod_i64 (h : DataW.trod enc Try.prog w base spare held fuel 3 cs = some x) : ∃ n : Int, cs = [.int .i64 n] ∧ -9223372036854775808 ≤ n ∧ n ≤ 9223372036854775807 := by
  obtain ⟨n, h1, _, h3⟩ := DataW.trod_int Try.underlying3 h
  exact ⟨n, h1, wf_bd h3⟩
theorem trod_ratio (h : DataW.trod enc Try.prog w base spare held fuel 34 cs = some x) : ∃ a b : Int, cs = [.int .i64 a, .int .i64 b] ∧ (-9223372036854775808 ≤ a ∧ a ≤ 9223372036854775807) ∧ (-9223372036854775808 ≤ b ∧ b ≤ 9223372036854775807) := by
  obtain ⟨xs, n, _, _, hl, hxl, hf⟩ := DataW.trod_struct Try.underlying34 h
  have h0 : DataW.trod enc Try.prog w base spare held n 3 ((cs.drop 0).take (Try.prog.cellsOf 3)) = xs[0]? := hf 0 _ rfl
  have h1 : DataW.trod enc Try.prog w base spare held n 3 ((cs.drop 1).take (Try.prog.cellsOf 3)) = xs[1]? := hf 1 _ rfl
  rw [cells3] at h0 h1
  rw [cells34] at hl
  match cs, hl, xs, hxl with
  | [u, v], _, [y, z], _ =>
    obtain ⟨a, ha, ba⟩ := trod_i64 h0
    obtain ⟨b, hb, bb⟩ := trod_i64 h1
    simp at ha hb
    exact ⟨a, b, by rw [ha, hb], ba, bb⟩
theorem trod_debt (h : DataW.trod enc Try.prog w base spare held fuel 38 cs = some x) : ∃ y : Db, cs = encD y ∧ fitD y := by
  obtain ⟨xs, n, _, _, hl, hxl, hf⟩ := DataW.trod_struct Try.underlying38 h
  have h0 : DataW.trod enc Try.prog w base spare held n 3 ((cs.drop 0).take (Try.prog.cellsOf 3)) = xs[0]? := hf 0 _ rfl
  have h1 : DataW.trod enc Try.prog w base spare held n 3 ((cs.drop 1).take (Try.prog.cellsOf 3)) = xs[1]? := hf 1 _ rfl
  have h2 : DataW.trod enc Try.prog w base spare held n 34 ((cs.drop 2).take (Try.prog.cellsOf 34)) = xs[2]? := hf 2 _ rfl
  rw [cells3] at h0 h1
  rw [cells34] at h2
  rw [cells38] at hl
  match cs, hl, xs, hxl with
  | [u, v, p, q], _, [y, z, o], _ =>
    obtain ⟨a, ha, ba⟩ := trod_i64 h0
    obtain ⟨b, hb, bb⟩ := trod_i64 h1
    obtain ⟨c, d, hc, bc, bd⟩ := trod_ratio h2
    simp at ha hb hc
    exact ⟨⟨a, b, c, d⟩, by rw [ha, hb, hc.1, hc.2]; rfl, ba, bb, bc, bd⟩
end

theorem list_of {α : Type} {P : Nat → α → Prop} : ∀ n, (∀ i, i < n → ∃ x, P i x) → ∃ l : List α, l.length = n ∧ ∀ k x, l[k]? = some x → P k x
  | 0, _ => ⟨[], rfl, fun k x h => by simp at h⟩
  | n + 1, h => by
    obtain ⟨l, hl, hP⟩ := list_of n fun i hi => h i (by omega)
    obtain ⟨x, hx⟩ := h n (by omega)
    refine ⟨l ++ [x], by simp [hl], fun k y hy => ?_⟩
    rcases Nat.lt_or_ge k n with hk | hk
    · rw [List.getElem?_append_left (by omega)] at hy; exact hP k y hy
    · rw [List.getElem?_append_right (by omega)] at hy
      have : k = n := by
        have := (List.getElem?_eq_some_iff.1 hy).1
        simp at this; omega
      subst this
      simp [hl] at hy
      subst hy; exact hx

/-- a slice of debts, opened -/
theorem open_debts {H : Type} {enc : TypeId × Value → H} {w : World} {spare : Nat → Bool} {held : Bool} {b0 : Nat} {v : Value} {d : DataW H} {ps : List MemPlace} (hval : Value.okWide Try.prog w .any b0 22 v) (hd : DataW.Trod enc Try.prog w 0 spare held 22 v d ps) :
    ∃ (A : Option Addr) (l : List Db) (c : Nat), v = .slice A l.length c ∧ (l = [] ∨ ∃ es sp, d = .slice es sp ∧ es.length = l.length) ∧ (∀ y ∈ l, fitD y) ∧ Seg w w.heap.size 4 encD A l := by
  obtain ⟨a0, len, cap, rfl⟩ := okWide_slice Try.underlying22 hval
  obtain ⟨fuel, hf⟩ := hd
  rcases open_slice Try.underlying22 hf with ⟨h, _⟩ | ⟨a, len', cap', m, n, D, Pl, h, hb, hl, hm, hmm, hx, hi⟩
  · simp [Value.cells] at h
    obtain ⟨rfl, rfl, rfl⟩ := h
    exact ⟨none, [], 0, rfl, .inl rfl, by simp, Seg.nil _ _ _ _ _⟩
  · simp [Value.cells] at h
    obtain ⟨rfl, rfl, rfl⟩ := h
    have hlen : len ≤ m := by rw [hmm]; split <;> omega
    rw [cells38] at hi
    have h1 : ∀ i, i < len → ∃ y : Db, fitD y ∧ ∀ j u, (encD y)[j]? = some u → w.cell? (a.add (i * 4 + j)) = some u := by
      intro i hil
      obtain ⟨cs', hc, ht⟩ := hi i (by omega)
      obtain ⟨y, rfl, hy⟩ := trod_debt ht
      obtain ⟨_, _, hat⟩ := World.cells?_some hc
      refine ⟨y, hy, fun j u hu => ?_⟩
      have hj : j < 4 := (List.getElem?_eq_some_iff.1 hu).1
      rw [← add_add, hat j hj, hu]
    obtain ⟨l, hll, hP⟩ := list_of len h1
    subst hll
    refine ⟨some a, l, cap, rfl, ?_, fun y hy => ?_, fun k y hk => ?_⟩
    · simp only [Prod.mk.injEq] at hx
      exact .inr ⟨_, _, hx.1, by simp⟩
    · obtain ⟨k, hk, rfl⟩ := List.getElem_of_mem hy
      exact (hP k _ (List.getElem?_eq_getElem hk)).1
    · have hc := (hP k y hk).2
      have h0 := hc 0 _ rfl
      have hk1 := hc 1 _ rfl
      obtain ⟨b, off, spot⟩ := a
      have hs : spot = none := by
        have h2 := (hP 0 _ (List.getElem?_eq_getElem (by have := (List.getElem?_eq_some_iff.1 hk).1; omega))).2 0 _ rfl
        simpa [Addr.add] using World.cell?_spot h2
      subst hs
      refine ⟨b, off, rfl, block_lt_of_cell (a := ⟨b, off + k * 4 + 1, none⟩) (by simpa [Addr.add, Nat.add_assoc] using hk1), fun j u hu => ?_⟩
      have := hc j u hu
      unfold Addr.add at this
      split at this
      · rename_i hz
        have e1 : k = 0 := by omega
        have e2 : j = 0 := by omega
        subst e1 e2
        simpa using this
      · simpa [Nat.add_assoc] using this
end Go.Proofs.Ythgbdpiihdhfiaa
