/- Contracts of functions and plain laws, joined: Krj, Ps4, Oq2, Qe1. -/
import Derived.Test.YtplommmegkdhdaaGreatDoorMb26
import Derived.Test.YtplommmegkdhdaaGreatDoorMb3
import Derived.Test.YtplommmegkdhdaaGreatDoorTie
import Derived.Test.YtplommmegkdhdaaGreatDoorRows
import Derived.Test.YtplommmegkdhdaaGreatDoorChecked
import Derived.HandedShaped
import Derived.LaidMore
import Derived.Lay
import Derived.Stop.LaidErr
import Derived.Stop.Joined
import Derived.Lib.LaidU8
import Derived.MakeChecks
/- The walk of the reference's Small at contracts. -/
namespace Go.Proofs.YtplommmegkdhdaaGreatDoor
open Go.RowKit

def Con.small (c : Con) (n : Int) : Bool := !(decide ((20 : Int) < (c.hold.length : Int)) || decide ((30 : Int) < (c.un.length : Int)) || decide ((70 : Int) < (c.ac.length : Int)) || decide ((n : Int) < (c.cl.length : Int)) || decide ((100 : Int) < (c.off.length : Int))) && c.cl.all fun k => !decide ((20 : Int) < (k.start.length : Int))
set_option maxRecDepth 100000 in
set_option maxHeartbeats 3200000 in
theorem rsmallc_any (c : Con) (m : Cm) (n : Int) (w : World) (hk : Seg w w.heap.size 16 eK m.k m.ks) (he : m.ks.map (·.k) = c.cl) (hn : n ≤ 1000000) : Calls Tryz.prog 10 #[.agg (coA c m), .int .i64 n] w fun e w' => e = .returned (.bool (c.small n)) ∧ Below w.heap.size w w' := by
  have HK := Lib.hid hk
  have HE := Lib.hid he
  obtain ⟨e0, E0⟩ : ∃ x, decide ((20 : Int) < (c.hold.length : Int)) = x := ⟨_, rfl⟩
  obtain ⟨e1, E1⟩ : ∃ x, decide ((30 : Int) < (c.un.length : Int)) = x := ⟨_, rfl⟩
  obtain ⟨e2, E2⟩ : ∃ x, decide ((70 : Int) < (c.ac.length : Int)) = x := ⟨_, rfl⟩
  obtain ⟨e3, E3⟩ : ∃ x, decide ((n : Int) < (c.cl.length : Int)) = x := ⟨_, rfl⟩
  obtain ⟨e4, E4⟩ : ∃ x, decide ((100 : Int) < (c.off.length : Int)) = x := ⟨_, rfl⟩
  have hf : Hid (c.small n = (!(e0 || e1 || e2 || e3 || e4) && c.cl.all fun k => !decide ((20 : Int) < (k.start.length : Int)))) := by unfold Hid Con.small; rw [E0, E1, E2, E3, E4]
  have h3 : Hid ((e0 || e1 || e2 || e3 || e4) = false → c.cl.length ≤ 1000000) := by
    intro h
    simp only [Bool.or_eq_false_iff] at h
    have h2 := h.1.2
    rw [← E3] at h2
    simp at h2
    omega
  have hkl : m.ks.length = c.cl.length := by have := congrArg List.length he; simpa using this
  have HKL := Lib.hid hkl
  clear hk he hkl
  go_enter Tryz.func10, Tryz.ntmps10
  go_upto_region 1 with (fail)
  refine name_wp ?_
  intro X hX
  have gbc : Blk X w.heap.size 27 (coA c m) := by rw [hX]; exact blk_at (by simp)
  have HB : Below w.heap.size w X := by rw [hX]; (repeat (first | with_reducible assumption | with_reducible exact Below.refl _ _ | with_reducible refine below_drewN ?_ _ | with_reducible refine Below.drew ?_ | with_reducible refine below_alloc ?_ _ | with_reducible refine Below.setCell ?_ (by first | omega | (simp; done) | (simp; omega)) _ | with_reducible refine below_then ?_ (by with_reducible assumption) | (refine below_then (a := World.drew _) ?_ (by with_reducible assumption))))
  clear hX
  obtain ⟨bc, ebc⟩ : ∃ b, w.heap.size = b := ⟨_, rfl⟩
  have lbc : w.heap.size ≤ bc := by omega
  rw [ebc] at gbc ⊢
  clear ebc
  have GB := Lib.hid gbc
  have HBX := Lib.hid HB
  clear HB
  go_upto_region 1 with (fail)
  go_cut [34] from 6 to 34 (fun v W => v = .bool (e0 || e1 || e2 || e3 || e4) ∧ X = W)
  case first =>
    have p1 : X.cell? ⟨bc, 1, none⟩ = some (.slice m.h c.hold.length m.hc) := gbc.cell 1
    have p2 : X.cell? ⟨bc, 2, none⟩ = some (.slice m.u c.un.length m.uc) := gbc.cell 2
    have p3 : X.cell? ⟨bc, 3, none⟩ = some (.slice m.a c.ac.length m.ac) := gbc.cell 3
    have p4 : X.cell? ⟨bc, 4, none⟩ = some (.slice m.k c.cl.length m.kc) := gbc.cell 4
    have p6 : X.cell? ⟨bc, 6, none⟩ = some (.slice m.o c.off.length m.oc) := gbc.cell 6
    clear gbc hn
    cases e0
    case true => (go_wp2; go_meet; (case rel => exact ⟨by simp, rfl⟩))
    cases e1
    case true => (go_wp2; go_meet; (case rel => exact ⟨by simp, rfl⟩))
    cases e2
    case true => (go_wp2; go_meet; (case rel => exact ⟨by simp, rfl⟩))
    cases e3
    case true => (go_wp2; go_meet; (case rel => exact ⟨by simp, rfl⟩))
    cases e4
    case true => (go_wp2; go_meet; (case rel => exact ⟨by simp, rfl⟩))
    case false => (go_wp2; go_meet; (case rel => exact ⟨by simp, rfl⟩))
  obtain ⟨rfl, rfl⟩ := hcut
  cases hb0 : (e0 || e1 || e2 || e3 || e4) with
  | true =>
    have hr : Hid (c.small n = false) := by unfold Hid; rw [hf.out, hb0]; rfl
    clear hb0 hf h3 gbc E0 E1 E2 E3 E4
    go_wp2
    go_ret
    exact ⟨ret_bool hr.out.symm, HBX.out⟩
  | false =>
  have hl := h3.out hb0
  have hr : Hid (c.small n = c.cl.all fun k => !decide ((20 : Int) < (k.start.length : Int))) := by unfold Hid; rw [hf.out, hb0]; rfl
  clear hb0 hf h3 gbc E0 E1 E2 E3 E4
  go_upto_region 4 with (fail)
  go_loopw [5] (fun y WR => ∃ (i : Nat), i ≤ c.cl.length ∧ y = .int .i64 i ∧ Hid (∀ j k, j < i → c.cl[j]? = some k → decide ((20 : Int) < (k.start.length : Int)) = false) ∧ Hid (Below X.heap.size X WR)) (fun y _ => 2000000 - (intOf y).toNat)
  case atStart => exact ⟨0, by omega, rfl, (fun j k hj => by omega), Below.refl _ _⟩
  case round =>
    obtain ⟨i, hi', rfl, hpre, hB⟩ := hrel
    have p4 : wr.cell? ⟨bc, 4, none⟩ = some (.slice m.k c.cl.length m.kc) := (GB.out.then_ hB.out).cell 4
    by_cases hlt : i < c.cl.length
    · have tn : decide ((i : Int) < (c.cl.length : Int)) = true := decide_eq_true (by omega)
      obtain ⟨k0, hk0⟩ : ∃ k, c.cl[i]? = some k := ⟨_, List.getElem?_eq_getElem hlt⟩
      obtain ⟨x, hx, hxk⟩ := km_at HE.out hk0
      obtain ⟨b0, o0, eA0, hb0, hc0⟩ := segAt (HK.out.below (below_then HBX.out hB.out)) hx
      have x4 : wr.cell? ⟨b0, o0 + i * 16 + 4, none⟩ = some (.slice x.A x.k.start.length x.cap) := hc0 4 _ rfl
      have hix := fun W => idx_at (t := 25) (size := 16) (cap := m.kc) (len := c.cl.length) eA0 hlt (by kernel_rfl) (fun W => by kernel_rfl) W
      have HX0 := Lib.hid hk0
      have HXK := Lib.hid hxk
      clear hc0 hx hk0 hxk eA0
      have hwr := wrap_small (n := i) (by omega)
      cases ht : decide ((20 : Int) < (x.k.start.length : Int)) with
      | true =>
        have hq : Hid (c.small n = false) := by
          unfold Hid
          rw [hr.out]
          refine Bool.eq_false_iff.2 fun h => ?_
          have := List.all_eq_true.1 h k0 (List.mem_of_getElem? HX0.out)
          rw [← HXK.out, ht] at this
          cases this
        clear hpre
        go_wp2
        go_ret
        exact ⟨ret_bool hq.out.symm, below_then HBX.out hB.out⟩
      | false =>
        have hp2 : Hid (∀ j k, j < i + 1 → c.cl[j]? = some k → decide ((20 : Int) < (k.start.length : Int)) = false) := by
          intro j k hj hk
          by_cases q : j = i
          · rw [q, HX0.out] at hk
            cases hk
            rw [← HXK.out]
            exact ht
          · exact hpre.out j k (by omega) hk
        clear hpre
        go_wp2
        go_roundw
        case rel => exact ⟨i + 1, by omega, by simp, hp2, hB.out⟩
        case measure => simp [intOf]; omega
    · have tn : decide ((i : Int) < (c.cl.length : Int)) = false := decide_eq_false (by omega)
      have hq : Hid (c.small n = true) := by
        unfold Hid
        rw [hr.out]
        refine List.all_eq_true.2 fun k hk => ?_
        obtain ⟨j, hj, e⟩ := List.getElem_of_mem hk
        rw [hpre.out j k (by omega) (by rw [← e]; exact List.getElem?_eq_getElem hj)]
        rfl
      clear hpre
      go_wp2
      go_ret
      exact ⟨ret_bool hq.out.symm, below_then HBX.out hB.out⟩
end Go.Proofs.YtplommmegkdhdaaGreatDoor
/- What the laws on patches have in common: what small contracts and patches give; contracts of the calls with written results. -/
namespace Go.Proofs.YtplommmegkdhdaaGreatDoor
open Go.RowKit

theorem smallC {c : Con} {n : Nat} (h : c.small n = true) : c.hold.length ≤ 20 ∧ c.un.length ≤ 30 ∧ c.ac.length ≤ 70 ∧ c.cl.length ≤ n ∧ c.off.length ≤ 100 ∧ ∀ k ∈ c.cl, k.start.length ≤ 20 := by
  unfold Con.small at h
  simp only [Bool.and_eq_true, Bool.not_eq_true', Bool.or_eq_false_iff, decide_eq_false_iff_not, List.all_eq_true] at h
  obtain ⟨⟨⟨⟨⟨h1, h2⟩, h3⟩, h4⟩, h5⟩, h6⟩ := h
  refine ⟨by omega, by omega, by omega, by omega, by omega, fun k hk => ?_⟩
  have := h6 k hk
  omega
theorem small_cont {w : World} {c : Con} {m : Cm} (h : ContW w c m) (hs : c.small 40 = true) : Cont w c m ∧ c.cl.length ≤ 40 := by
  obtain ⟨h1, h2, h3, h4, h5, h6⟩ := smallC (n := 40) hs
  exact ⟨h.cont (by omega) (by omega) (by omega) (by omega) (by omega) (fun k hk => Nat.le_trans (h6 k hk) (by decide)), h4⟩
theorem small_patM {w : World} {x : Pk} (h : fitP w x) (hs : x.p.small = true) : PatM w x.p x.m ∧ x.p.cls.length ≤ 500 ∧ x.p.new.start.length ≤ 20 := by
  unfold Pat.small at hs
  simp only [Bool.and_eq_true, decide_eq_true_eq] at hs
  exact ⟨h.patM (by omega) (by omega), by omega, by omega⟩
theorem smallc_at {w : World} (c : Con) (m : Cm) (B : Bool) (h : ContW w c m) (hB : c.small 40 = B) (W : World) (hb : Below w.heap.size w W) :
    Calls Tryz.prog 10 #[.agg (coA c m), .int .i64 40] W fun e w' => e = .returned (.bool B) ∧ Below W.heap.size W w' := by
  subst hB
  exact rsmallc_any c m 40 W ((h.k.2.2.2.below hb).more hb.size) h.e (by decide)
theorem smallp_at (p : Pat) (pm : Pm) (B : Bool) (hB : p.small = B) (W : World) :
    Calls Tryz.prog 11 #[.agg (pL p pm)] W fun e w' => e = .returned (.bool B) ∧ Below W.heap.size W w' := by
  subst hB
  exact rsmallp_any p pm W
theorem apC_yes {c : Con} {p : Pat} (h : c.apE p = 0) : c.apC p = c.ap p := by unfold Con.apC; rw [if_pos h]
theorem apC_not {c : Con} {p : Pat} (h : c.apE p ≠ 0) : c.apC p = Con.zero := by unfold Con.apC; rw [if_neg h]
theorem scla_to (x y : Km) (B : Bool) (w : World) (hx : KOk w x) (hy : KOk w y) (h : decide (x.k = y.k) = B) : Calls Tryz.prog 14 #[.agg (kA x), .agg (kA y)] w fun e w' => e = .returned (.bool B) ∧ Below w.heap.size w w' := by
  subst h
  exact rsame_any x y w hx hy
end Go.Proofs.YtplommmegkdhdaaGreatDoor
/- All arguments once more in a later world; a small number's bounds. -/
namespace Go.Proofs.YtplommmegkdhdaaGreatDoor
open Go.ChangeShapes Go.WideShapes Go.ChangeAt Go.RowKit Go.Deep

section
variable {H : Type} {enc : TypeId × Value → H}
theorem below_all {W W' : World} (hb : Below W.heap.size W W') {ts : List TypeId} : ∀ {vs : List Value} {ds : List (DataW H)} {ps : List MemPlace}, (ts.all fun t => Tryz.prog.readableRec t && decide (t < Tryz.prog.types.size)) = true →
    DataW.TrodAll enc Tryz.prog W 0 (fun _ => true) true ts vs ds ps → (∀ x ∈ ps, x.block < W.heap.size) → DataW.TrodAll enc Tryz.prog W' 0 (fun b => decide (b < W.heap.size)) true ts vs ds ps := by
  induction ts with
  | nil =>
    intro vs ds ps _ h _
    obtain ⟨rfl, rfl, rfl⟩ := trodAll_nil h
    simp [DataW.TrodAll]
  | cons t ts ih =>
    intro vs ds ps ht h hp
    obtain ⟨v, vs', d, ds', p, q, rfl, rfl, rfl, h1, h2⟩ := trodAll_cons h
    rw [List.all_cons, Bool.and_eq_true, Bool.and_eq_true] at ht
    exact trodAll_cons_mk (Below.trod Tryz.laidOut ht.1.1 (of_decide_eq_true ht.1.2) h1 hb fun x hx => hp x (by simp [hx])) (ih ht.2 h2 fun x hx => hp x (by simp [hx]))
end
theorem wf_u16 {n : Int} (h : (Lit.int .u16 n).wf = true) : 0 ≤ n ∧ n ≤ 65535 := by
  simp [Lit.wf, IntKind.min, IntKind.max, IntKind.signed, IntKind.bits] at h
  omega
end Go.Proofs.YtplommmegkdhdaaGreatDoor
/- What the listed variables and the world's shape give the walks of the laws on patches. -/
namespace Go.Proofs.YtplommmegkdhdaaGreatDoor
open Go.RowKit

abbrev laidB : List (String × DataW Unit) := [("math/bits.deBruijn32tab", Rows.laid_math_bits_deBruijn32tab), ("math/bits.deBruijn64tab", Rows.laid_math_bits_deBruijn64tab), ("internal/strconv.uint64pow10", Rows.laid_internal_strconv_uint64pow10), ("strconv.ErrRange", Rows.laid_strconv_ErrRange), ("strconv.ErrSyntax", Rows.laid_strconv_ErrSyntax)]
theorem tab_of {W : World} (h : laidMet Tryz.prog laidB W) : Lib.TabIs Tryz.prog W "internal/strconv.uint64pow10" .u64 Lib.pow10Tab :=
  Lib.tabIs_of_head (g := 3) (t := 156) (e := 122) (n := 20) (by kernel_rfl) (by kernel_rfl) Tryz.underlying156 Tryz.underlying122 (by kernel_rfl) (by kernel_rfl) h.tail.tail
theorem star_ : "*" ++ "errors.errorString" = "*errors.errorString" := by decide
theorem row_err (u : TypeId) (h : Tryz.prog.typeName? 3 u = some "*errors.errorString") : u = 162 :=
  typeName_ptr_named (nm := "errors.errorString") (by rw [star_]; kernel_rfl) (by kernel_rfl) (by decide) u (by rw [star_]; exact h)
theorem rng_of {W : World} (h : laidMet Tryz.prog laidB W) : ∃ ev, W.cell? ⟨2, 0, none⟩ = some ev ∧ (ev = .nilIface ∨ ∃ te pe, ev = .iface te pe) := by
  obtain ⟨a, s, hv, _⟩ := laid_sentinel (g := 2) (ti := 101) h.tail.tail.tail (by kernel_rfl) (by kernel_rfl) Tryz.underlying101 row_err Tryz.underlying162 Tryz.underlying164 rfl rfl Tryz.underlying9 (by kernel_rfl) (by kernel_rfl)
  exact ⟨_, by simpa using World.var?_cell (by kernel_rfl) hv 0, .inr ⟨_, _, rfl⟩⟩
theorem syn_of {W : World} (h : laidMet Tryz.prog laidB W) : ∃ ev, W.cell? ⟨1, 0, none⟩ = some ev ∧ (ev = .nilIface ∨ ∃ te pe, ev = .iface te pe) := by
  obtain ⟨a, s, hv, _⟩ := laid_sentinel (g := 1) (ti := 101) h.tail.tail.tail.tail (by kernel_rfl) (by kernel_rfl) Tryz.underlying101 row_err Tryz.underlying162 Tryz.underlying164 rfl rfl Tryz.underlying9 (by kernel_rfl) (by kernel_rfl)
  exact ⟨_, by simpa using World.var?_cell (by kernel_rfl) hv 0, .inr ⟨_, _, rfl⟩⟩
theorem lw_of {W : World} (h : laidMetH Tryz.prog laidB W) : Lw W := by
  rw [MakeChecks.laidMetH_plain _ _ _ (by kernel_rfl)] at h
  exact ⟨tab_of h, syn_of h, rng_of h⟩
end Go.Proofs.YtplommmegkdhdaaGreatDoor
