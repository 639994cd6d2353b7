/- The arguments of the laws on dates, opened: a date, a calendar, a number; what the listed table gives the walks. -/
import Derived.Test.YtikjjhodbijfnaaDoorRows
import Derived.Test.YtikjjhodbijfnaaDoorD10
import Derived.ProofKit
import Derived.Deep.Slices
import Derived.Deep.Strs
import Derived.Below
import Derived.ChangeSame
import Derived.Carry
import Derived.OpenShut
import Derived.SizedLaws
import Derived.LaidMore
import Derived.Lay
import Derived.Stop.Joined
namespace Go.Proofs.YtikjjhodbijfnaaDoor
open Go.ChangeShapes Go.WideShapes Go.ChangeAt Go.RowKit Go.Deep

theorem Tryd.own : ownKnob Tryd.prog.godebug = none := by kernel_rfl
theorem Tryd.laidOut : laidOutB Tryd.prog = true := by kernel_rfl
theorem cellsI : Tryd.prog.cellsOf 3 = 1 := by kernel_rfl
theorem cellsB : Tryd.prog.cellsOf 4 = 1 := by kernel_rfl
theorem cells7 : Tryd.prog.cellsOf 36 = 7 := by kernel_rfl
theorem cellsL : Tryd.prog.cellsOf 37 = 1 := by kernel_rfl
theorem cellsC : Tryd.prog.cellsOf 23 = 3 := by kernel_rfl
theorem cellsK : Tryd.prog.cellsOf 39 = 8 := by kernel_rfl
abbrev laidB : List (String × DataW Unit) := [("estoppel/date.before", Rows.laid_estoppel_date_before)]
/-- what the listed table gives the walks -/
theorem of_laid {W : World} (h : laidMetH Tryd.prog laidB W) : Tb W := by
  rw [MakeChecks.laidMetH_plain _ _ _ (by kernel_rfl)] at h
  obtain ⟨ps, ⟨g, t, cs, fuel, p, q, hg, ht, hv, hd, _, _⟩, _, _⟩ := h
  obtain rfl := Option.some.inj ((show Tryd.prog.globalNamed "estoppel/date.before" = some 0 by kernel_rfl).symm.trans hg)
  obtain rfl := Option.some.inj ((show (Tryd.prog.globals[0]?).map (·.type) = some 61 by kernel_rfl).symm.trans ht)
  obtain ⟨xs, m, _, ex, _, hl, hel⟩ := DataW.trod_array Tryd.underlying61 hd
  simp only [Prod.mk.injEq] at ex
  have e0 : Rows.laid_estoppel_date_before = DataW.agg (xs.map (·.1)) := ex.1
  simp only [Rows.laid_estoppel_date_before, DataW.agg.injEq] at e0
  intro i hi
  have hE := hel i hi
  rw [cellsI, Nat.mul_one, List.getElem?_eq_getElem (by omega)] at hE
  obtain ⟨z, e1, e2, _⟩ := DataW.trod_int Tryd.underlying3 hE
  have hx : (xs.map (·.1))[i]? = some (.lit (.int .i64 z)) := by rw [List.getElem?_map, List.getElem?_eq_getElem (by omega), e2]; rfl
  have hz : z = bef ((i : Int) + 1) := by
    rw [← e0] at hx
    rcases (show i = 0 ∨ i = 1 ∨ i = 2 ∨ i = 3 ∨ i = 4 ∨ i = 5 ∨ i = 6 ∨ i = 7 ∨ i = 8 ∨ i = 9 ∨ i = 10 ∨ i = 11 ∨ i = 12 by omega) with rfl | rfl | rfl | rfl | rfl | rfl | rfl | rfl | rfl | rfl | rfl | rfl | rfl <;> (simp at hx; rw [← hx]; decide)
  have hc := World.var?_cell hg hv i
  rw [hc, ← hz]
  have h1 : (cs.toList.drop i)[0]? = some (.int .i64 z) := by
    have := congrArg (·[0]?) e1
    simpa using this
  simpa using h1
section
variable {H : Type} {enc : TypeId × Value → H} {w : World} {base : Nat} {spare : Nat → Bool} {held : Bool} {fuel : Nat} {cs : List Value} {x : DataW H × List MemPlace}
theorem wf_bd {n : Int} (h : (Lit.int .i64 n).wf = true) : -9223372036854775808 ≤ n ∧ n ≤ 9223372036854775807 := by
  exact bounds_i64 h
theorem wf_u16 {n : Int} (h : (Lit.int .u16 n).wf = true) : 0 ≤ n ∧ n ≤ 65535 := by
  simpa [Lit.wf, IntKind.min, IntKind.max, IntKind.signed, IntKind.bits] using h
theorem trod_i64 (h : DataW.trod enc Tryd.prog w base spare held fuel 3 cs = some x) : ∃ n : Int, cs = [.int .i64 n] ∧ -9223372036854775808 ≤ n ∧ n ≤ 9223372036854775807 := by
  obtain ⟨n, h1, _, h3⟩ := DataW.trod_int Tryd.underlying3 h
  exact ⟨n, h1, wf_bd h3⟩
end
/-- a date, opened -/
theorem open_civil {H : Type} {enc : TypeId × Value → H} {w : World} {spare : Nat → Bool} {held : Bool} {b0 : Nat} {v : Value} {d : DataW H} {ps : List MemPlace} (hval : Value.okWide Tryd.prog w .any b0 23 v) (hd : DataW.Trod enc Tryd.prog w 0 spare held 23 v d ps) :
    ∃ y m k : Int, v = .agg #[.int .i64 y, .int .i64 m, .int .i64 k] := by
  obtain ⟨cs, rfl, hsz⟩ := okWide_struct Tryd.underlying23 hval
  obtain ⟨fuel, hf⟩ := hd
  simp only [Value.cells] at hf
  obtain ⟨xs, n, _, _, hl, hxl, hg⟩ := DataW.trod_struct Tryd.underlying23 hf
  have h0 : DataW.trod enc Tryd.prog w 0 spare held n 3 ((cs.toList.drop 0).take (Tryd.prog.cellsOf 3)) = xs[0]? := hg 0 _ rfl
  have h1 : DataW.trod enc Tryd.prog w 0 spare held n 3 ((cs.toList.drop 1).take (Tryd.prog.cellsOf 3)) = xs[1]? := hg 1 _ rfl
  have h2 : DataW.trod enc Tryd.prog w 0 spare held n 3 ((cs.toList.drop 2).take (Tryd.prog.cellsOf 3)) = xs[2]? := hg 2 _ rfl
  rw [cellsI] at h0 h1 h2
  rw [cellsC] at hsz
  obtain ⟨l⟩ := cs
  match l, hsz, xs, hxl with
  | [u, v, z], _, [y0, y1, y2], _ =>
    obtain ⟨a, ha, _⟩ := trod_i64 h0
    obtain ⟨b, hb, _⟩ := trod_i64 h1
    obtain ⟨c, hc, _⟩ := trod_i64 h2
    simp at ha hb hc
    exact ⟨a, b, c, by rw [ha, hb, hc]⟩
/-- a calendar, opened -/
theorem open_cal {H : Type} {enc : TypeId × Value → H} {w : World} {spare : Nat → Bool} {held : Bool} {b0 : Nat} {v : Value} {d : DataW H} {ps : List MemPlace} (hval : Value.okWide Tryd.prog w .any b0 39 v) (hd : DataW.Trod enc Tryd.prog w 0 spare held 39 v d ps)
    (hsz : ∀ n ∈ d.weights Tryd.prog 39, n ≤ reachBytes) :
    ∃ (b0 b1 b2 b3 b4 b5 b6 : Bool) (A : Option Addr) (hs : List Int) (c : Nat), v = .agg (calA b0 b1 b2 b3 b4 b5 b6 (.slice A hs.length c)) ∧ Kal w A hs c := by
  obtain ⟨cs, rfl, hcs⟩ := okWide_struct Tryd.underlying39 hval
  obtain ⟨fuel, hf⟩ := hd
  simp only [Value.cells] at hf
  obtain ⟨xs, n, _, ex, hl, hxl, hg⟩ := DataW.trod_struct Tryd.underlying39 hf
  have h0 : DataW.trod enc Tryd.prog w 0 spare held n 36 ((cs.toList.drop 0).take (Tryd.prog.cellsOf 36)) = xs[0]? := hg 0 _ rfl
  have h1 : DataW.trod enc Tryd.prog w 0 spare held n 37 ((cs.toList.drop 7).take (Tryd.prog.cellsOf 37)) = xs[1]? := hg 1 _ rfl
  rw [cells7] at h0
  rw [cellsL] at h1
  rw [cellsK] at hcs
  simp only [Prod.mk.injEq] at ex
  obtain ⟨rfl, rfl⟩ := ex
  obtain ⟨l⟩ := cs
  match l, hcs, xs, hxl with
  | [c0, c1, c2, c3, c4, c5, c6, c7], _, [y0, y1], _ =>
    obtain ⟨zs, m, _, _, _, hz, hel⟩ := DataW.trod_array Tryd.underlying36 h0
    have one : ∀ i (hi : i < 7) (c : Value), [c0, c1, c2, c3, c4, c5, c6][i]? = some c → ∃ b, c = .bool b := by
      intro i hi c hc
      have := hel i hi
      rw [cellsB, Nat.mul_one, List.getElem?_eq_getElem (by omega)] at this
      obtain ⟨b, e1, _⟩ := DataW.trod_bool Tryd.underlying4 this
      refine ⟨b, ?_⟩
      have h2 := congrArg (·[0]?) e1
      have h3 : ([c0, c1, c2, c3, c4, c5, c6] : List Value)[i]? = some (.bool b) := by
        have h4 : (List.drop i (List.take 7 (List.drop 0 [c0, c1, c2, c3, c4, c5, c6, c7])))[0]? = some (.bool b) := by simpa [List.getElem?_take] using h2
        simpa using h4
      rw [hc] at h3
      exact Option.some.inj h3
    obtain ⟨a0, rfl⟩ := one 0 (by omega) c0 rfl
    obtain ⟨a1, rfl⟩ := one 1 (by omega) c1 rfl
    obtain ⟨a2, rfl⟩ := one 2 (by omega) c2 rfl
    obtain ⟨a3, rfl⟩ := one 3 (by omega) c3 rfl
    obtain ⟨a4, rfl⟩ := one 4 (by omega) c4 rfl
    obtain ⟨a5, rfl⟩ := one 5 (by omega) c5 rfl
    obtain ⟨a6, rfl⟩ := one 6 (by omega) c6 rfl
    have h1' : DataW.trod enc Tryd.prog w 0 spare held n 37 [c7] = some y1 := by simpa using h1
    rcases open_ints Tryd.underlying37 Tryd.underlying3 cellsI h1' with ⟨h, _⟩ | ⟨a, len, cap, zs, h, _, hlc, _, hm, hx, hi, _⟩
    · simp at h
      subst h
      exact ⟨a0, a1, a2, a3, a4, a5, a6, none, [], 0, rfl, ⟨by simp, by simp, fun _ => rfl, Seg.nil _ _ _ _ _⟩⟩
    · simp at h
      subst h
      have hle : len ≤ zs.length := by rw [hm]; split <;> omega
      have htl : (zs.take len).length = len := by simp; omega
      refine ⟨a0, a1, a2, a3, a4, a5, a6, some a, zs.take len, cap, by rw [htl], ?_, by omega, by simp, ?_⟩
      · have := hsz (((zs.take len).length + (zs.drop len).length) * Tryd.prog.bytesOf 3) (by
          simp only [DataW.weights, Tryd.underlying39, List.map_cons, List.map_nil, DataW.weightsEach, hx, Tryd.underlying37, List.mem_append, List.mem_cons]
          right; left; left
          simp [lits])
        rw [show Tryd.prog.bytesOf 3 = 8 from by kernel_rfl] at this
        simp only [reachBytes] at this
        omega
      · intro k y hk
        have hk1 := (List.getElem?_eq_some_iff.1 hk).1
        have hkl : k < len := by omega
        have hc := hi k (by omega)
        have hy : zs.getD k 0 = y := by
          rw [List.getElem?_take, if_pos hkl] at hk
          simp [List.getD, hk]
        rw [hy] at hc
        obtain ⟨b, off, spot⟩ := a
        have hs : spot = none := by
          have := hi 0 (by omega)
          simpa [Addr.add] using World.cell?_spot this
        subst hs
        have hc' : w.cell? ⟨b, off + k, none⟩ = some (.int .i64 y) := by
          unfold Addr.add at hc
          split at hc
          · rename_i h0; subst h0; simpa using hc
          · simpa using hc
        refine ⟨b, off, rfl, block_lt_of_cell hc', fun j u hu => ?_⟩
        have hj : j = 0 := by
          have := (List.getElem?_eq_some_iff.1 hu).1
          simp [encI] at this; omega
        subst hj
        simp [encI] at hu
        subst hu
        simpa using hc'
end Go.Proofs.YtikjjhodbijfnaaDoor
