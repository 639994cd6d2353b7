/- Contracts of functions and plain laws, joined: Vl0, Vo2, Vo3, Vo4. -/
import Derived.Test.YtginnonjdbpamaaGreatDoorMb35
import Derived.Test.YtginnonjdbpamaaGreatDoorMb21
import Derived.Test.YtginnonjdbpamaaGreatDoorMb1
import Derived.Test.YtginnonjdbpamaaGreatDoorTie
import Derived.Test.YtginnonjdbpamaaGreatDoorRows
import Derived.Test.YtginnonjdbpamaaGreatDoorChecked
import Derived.HandedShaped
import Derived.LaidMore
import Derived.Lay
import Derived.Stop.LaidErr
import Derived.Stop.Joined
import Derived.Lib.LaidU8
import Derived.MakeChecks
import Derived.ProofKit
import Derived.Below
import Derived.ChangeSame
import Derived.Carry
import Derived.OpenShut
import Derived.SizedLaws
import Derived.ChangeMaps5
/- What the walks of the laws on validation share. -/
namespace Go.Proofs.YtginnonjdbpamaaGreatDoor
open Go.RowKit Go.Sort
theorem Rws.sl {B : Nat} {w : World} {v : Value} {rows : List (Sta × Qm)} (h : Rws B w v rows) : ∃ A cap, v = .slice A rows.length cap ∧ Stl w A rows ∧ rows.length ≤ cap := by
 rcases h.o.2 with ⟨h1, h2⟩ | ⟨g, cap, cur, hv, _⟩
 ·subst h1
  have hr : rows = [] := List.eq_nil_of_length_eq_zero (by omega)
  subst hr
  exact ⟨none, 0, rfl, ⟨Seg.nil _ _ _ _ _, fun x hx => by cases hx⟩, Nat.le_refl _⟩
 ·subst hv
  obtain ⟨h1, h2, h3⟩ := h.stl
  exact ⟨_, cap, rfl, h1, h3⟩
theorem run_sl (c : Con) (m : Cm) (l : List Int) (A : Option Addr) (cap : Nat) {w : World} (hC : Cont w c m) (hA : Seg w w.heap.size 1 eI A l) (nl : l.length ≤ 1000000) (W : World) (hb : Below w.heap.size w W) :
  Calls Tryz.prog 13 #[.agg (coA c m), .slice A l.length cap] W fun e w' => (∃ Av capv rows, e = .returned (.tuple #[.slice Av rows.length capv, .int .i64 (c.runE l)]) ∧ Hid (rows.map (·.1) = c.runS l) ∧ Stl w' Av rows ∧ Hid (rows.length ≤ capv) ∧ Hid (rows.length ≤ 1000000)) ∧ Below W.heap.size W w' := by
 refine (run_any c m l A cap W (hC.then_ hb) ((hA.below hb).more hb.size) nl).mono ?_
 rintro e w' ⟨⟨v, rows, rfl, hr, hR, hn⟩, hb2⟩
 obtain ⟨Av, capv, rfl, hS, hc⟩ := hR.sl
 exact ⟨⟨Av, capv, rows, rfl, hr, hS, hc, hn⟩, hb2⟩
theorem agr_sl (c : Con) (m : Cm) (l : List Int) (A : Option Addr) (cap : Nat) {w : World} (hC : Cont w c m) (hA : Seg w w.heap.size 1 eI A l) (nl : l.length ≤ 1000000) (Av : Option Addr) (capv : Nat) (rows : List (Sta × Qm)) (V : Int × Bool) (hV : c.agr l (rows.map (·.1)) = V) (nr : rows.length ≤ 1000000) (W : World) (hb : Below w.heap.size w W) (hS : Stl W Av rows) :
  Calls Tryz.prog 14 #[.agg (coA c m), .slice A l.length cap, .slice Av rows.length capv] W fun e w' => e = .returned (.tuple #[.int .i64 V.1, .bool V.2]) ∧ Below W.heap.size W w' := by
 subst hV
 exact agr_any c m l A cap Av capv rows W (hC.then_ hb) ((hA.below hb).more hb.size) nl hS nr
theorem runS_nil {c : Con} {l : List Int} {rows : List (Sta × Qm)} (h : rows.map (·.1) = c.runS l) : (rows.length : Int) = 0 ↔ c.runE l ≠ 0 := by
 have h1 := congrArg List.length h
 rw [List.length_map] at h1
 by_cases h0 : c.runE l = 0
 ·rw [runS_len h0] at h1
  exact ⟨fun h => by omega, fun h => absurd h0 h⟩
 ·rw [runS_no h0] at h1
  exact ⟨fun _ => h0, fun _ => by simpa using h1⟩
end Go.Proofs.YtginnonjdbpamaaGreatDoor
/- What the listed variables and the world's shape give the walks of the laws on validation. -/
namespace Go.Proofs.YtginnonjdbpamaaGreatDoor
open Go.RowKit
abbrev laidB : List (String × DataW Unit) := [("math/bits.deBruijn32tab", Rows.laid_math_bits_deBruijn32tab), ("math/bits.deBruijn64tab", Rows.laid_math_bits_deBruijn64tab), ("internal/strconv.uint64pow10", Rows.laid_internal_strconv_uint64pow10), ("strconv.ErrRange", Rows.laid_strconv_ErrRange), ("strconv.ErrSyntax", Rows.laid_strconv_ErrSyntax)]
theorem tab_of {W : World} (h : laidMet Tryz.prog laidB W) : Lib.TabIs Tryz.prog W "internal/strconv.uint64pow10" .u64 Lib.pow10Tab :=
 Lib.tabIs_of_head (g := 3) (t := 183) (e := 128) (n := 20) (by kernel_rfl) (by kernel_rfl) Tryz.underlying183 Tryz.underlying128 (by kernel_rfl) (by kernel_rfl) h.tail.tail
theorem star_ : "*" ++ "errors.errorString" = "*errors.errorString" := by decide
theorem row_err (u : TypeId) (h : Tryz.prog.typeName? 3 u = some "*errors.errorString") : u = 179 :=
 typeName_ptr_named (nm := "errors.errorString") (by rw [star_]; kernel_rfl) (by kernel_rfl) (by decide) u (by rw [star_]; exact h)
theorem rng_of {W : World} (h : laidMet Tryz.prog laidB W) : ∃ ev, W.cell? ⟨2, 0, none⟩ = some ev ∧ (ev = .nilIface ∨ ∃ te pe, ev = .iface te pe) := by
 obtain ⟨a, s, hv, _⟩ := laid_sentinel (g := 2) (ti := 92) h.tail.tail.tail (by kernel_rfl) (by kernel_rfl) Tryz.underlying92 row_err Tryz.underlying179 Tryz.underlying181 rfl rfl Tryz.underlying9 (by kernel_rfl) (by kernel_rfl)
 exact ⟨_, by simpa using World.var?_cell (by kernel_rfl) hv 0, .inr ⟨_, _, rfl⟩⟩
theorem syn_of {W : World} (h : laidMet Tryz.prog laidB W) : ∃ ev, W.cell? ⟨1, 0, none⟩ = some ev ∧ (ev = .nilIface ∨ ∃ te pe, ev = .iface te pe) := by
 obtain ⟨a, s, hv, _⟩ := laid_sentinel (g := 1) (ti := 92) h.tail.tail.tail.tail (by kernel_rfl) (by kernel_rfl) Tryz.underlying92 row_err Tryz.underlying179 Tryz.underlying181 rfl rfl Tryz.underlying9 (by kernel_rfl) (by kernel_rfl)
 exact ⟨_, by simpa using World.var?_cell (by kernel_rfl) hv 0, .inr ⟨_, _, rfl⟩⟩
theorem lw_of {W : World} (h : laidMetH Tryz.prog laidB W) (hs : W.ShapedOpen Tryz.prog) : Lw W := by
 rw [MakeChecks.laidMetH_plain _ _ _ (by kernel_rfl)] at h
 exact ⟨tab_of h, syn_of h, rng_of h, Tryz.laysM145.s1_3 W hs⟩
end Go.Proofs.YtginnonjdbpamaaGreatDoor
/- The last step of ratio's laws: the wrap with the listed variables and the world's shape; a ratio as an argument, opened. -/
namespace Go.Proofs.YtginnonjdbpamaaGreatDoor
open Go.ChangeShapes Go.WideShapes Go.ChangeAt Go.RowKit
theorem wrap_sh {H : Type} {enc : TypeId × Value → H} {a : Assume} {C : Checked} {os : Os} {f : FuncId} {fn : Func} {s : ChangeSpec} {conds : List PathCond} {apart fresh handsOn again : Bool} {X : World → Array Value → Prop}
  (hX : ∀ (w w' : World) (args : Array Value), w.heap = w'.heap → X w args → X w' args)
  (own : ownKnob C.prog.godebug = none) (started : os.Started) (noInit : C.prog.inits.idxOf? f = none) (hfn : C.prog.funcs[f]? = some fn)
  (witness : ∃ (w : World) (tape : Tape) (i : Input), w.os = os ∧ (w.forCall tape i).Shaped C.prog ∧ i.vars = [] ∧ Input.okWide C.prog (w.forCall tape i) .any w.heap.size f i ∧
   ((s.pre enc C.prog fn conds apart (w.forCall tape i).memory i.args ∧ X (w.forCall tape i).memory i.args) ∧ sizedMet enc C.prog fn (OpenSpec.ofChange s) apart (w.forCall tape i).memory i.args) ∧ a.holds C.prog (lone (Frame.enter C.prog f i.args .normal) [] (w.forCall tape i)))
  (contract : ∀ (W : World) (base : Nat) (args : Array Value) (ds gs : List (DataW H)) (before : List MemPlace),
   (∀ (j : Nat) t v, fn.params[j]? = some t → args[j]? = some v → Value.okWide C.prog W .any base t v) →
   DataW.Whole enc C.prog fn.params.toList s.vars apart W args.toList ds gs before → X W args → W.ShapedOpen C.prog →
   Calls C.prog f args W fun e W' => ∃ v, e = .returned v ∧ s.post enc C.prog fn apart fresh handsOn again W args v W') :
  ReturnsInHanded a C os f .any (fun w args => (s.pre enc C.prog fn conds apart w args ∧ X w args) ∧ sizedMet enc C.prog fn (OpenSpec.ofChange s) apart w args) (s.post enc C.prog fn apart fresh handsOn again) := by
 refine returnsInHanded_of_calls own started noInit witness ?_
 intro w tape i _ hsh _ hok hpre _
 obtain ⟨_, _, _, fn2, h2, _, _, _, _, hval⟩ := hok
 obtain rfl : fn2 = fn := Option.some.inj (h2.symm.trans hfn)
 obtain ⟨⟨⟨ds, gs, before, hw, _⟩, hx⟩, _⟩ := hpre
 refine (contract (w.forCall tape i) w.heap.size i.args ds gs before hval (DataW.Whole.of_heap (w' := w.forCall tape i) (by rfl) hw) (hX _ _ _ (by rfl) hx) hsh).mono fun e W' ⟨v, he, hp⟩ => ?_
 subst he
 exact ChangeSpec.post_blind hp
end Go.Proofs.YtginnonjdbpamaaGreatDoor
/- All arguments once more in a later world; a small number's bounds. -/
namespace Go.Proofs.YtginnonjdbpamaaGreatDoor
open Go.ChangeShapes Go.WideShapes Go.ChangeAt Go.RowKit Go.Deep
section
variable {H : Type} {enc : TypeId × Value → H}
theorem below_all {W W' : World} (hb : Below W.heap.size W W') {ts : List TypeId} : ∀ {vs : List Value} {ds : List (DataW H)} {ps : List MemPlace}, (ts.all fun t => Tryz.prog.readableRec t && decide (t < Tryz.prog.types.size)) = true →
  DataW.TrodAll enc Tryz.prog W 0 (fun _ => true) true ts vs ds ps → (∀ x ∈ ps, x.block < W.heap.size) → DataW.TrodAll enc Tryz.prog W' 0 (fun b => decide (b < W.heap.size)) true ts vs ds ps := by
 induction ts with
 | nil =>
  intro vs ds ps _ h _
  obtain ⟨rfl, rfl, rfl⟩ := trodAll_nil h
  simp [DataW.TrodAll]
 | cons t ts ih =>
  intro vs ds ps ht h hp
  obtain ⟨v, vs', d, ds', p, q, rfl, rfl, rfl, h1, h2⟩ := trodAll_cons h
  rw [List.all_cons, Bool.and_eq_true, Bool.and_eq_true] at ht
  exact trodAll_cons_mk (Below.trod Tryz.laidOut ht.1.1 (of_decide_eq_true ht.1.2) h1 hb fun x hx => hp x (by simp [hx])) (ih ht.2 h2 fun x hx => hp x (by simp [hx]))
end
end Go.Proofs.YtginnonjdbpamaaGreatDoor
