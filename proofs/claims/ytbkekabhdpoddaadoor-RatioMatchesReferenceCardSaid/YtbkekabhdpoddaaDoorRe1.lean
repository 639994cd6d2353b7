/- What the listed variables and the world's shape give the walks of ratio's laws. -/
import Derived.Test.YtbkekabhdpoddaaDoorRc1
import Derived.Test.YtbkekabhdpoddaaDoorTie
import Derived.Test.YtbkekabhdpoddaaDoorRows
import Derived.Test.YtbkekabhdpoddaaDoorChecked
import Derived.HandedShaped
import Derived.LaidMore
import Derived.Lay
import Derived.Stop.LaidErr
import Derived.Stop.Joined
import Derived.Lib.LaidU8
import Derived.MakeChecks
namespace Go.Proofs.YtbkekabhdpoddaaDoor
open Go.RowKit

abbrev laidB : List (String × DataW Unit) := [("math/bits.deBruijn32tab", Rows.laid_math_bits_deBruijn32tab), ("math/bits.deBruijn64tab", Rows.laid_math_bits_deBruijn64tab), ("internal/strconv.uint64pow10", Rows.laid_internal_strconv_uint64pow10), ("strconv.ErrRange", Rows.laid_strconv_ErrRange), ("strconv.ErrSyntax", Rows.laid_strconv_ErrSyntax)]
theorem tab_of {W : World} (h : laidMet Tryd.prog laidB W) : Lib.TabIs Tryd.prog W "internal/strconv.uint64pow10" .u64 Lib.pow10Tab :=
  Lib.tabIs_of_head (g := 3) (t := 90) (e := 29) (n := 20) (by kernel_rfl) (by kernel_rfl) Tryd.underlying90 Tryd.underlying29 (by kernel_rfl) (by kernel_rfl) h.tail.tail
theorem star_ : "*" ++ "errors.errorString" = "*errors.errorString" := by decide
theorem row_err (u : TypeId) (h : Tryd.prog.typeName? 3 u = some "*errors.errorString") : u = 100 :=
  typeName_ptr_named (nm := "errors.errorString") (by rw [star_]; kernel_rfl) (by kernel_rfl) (by decide) u (by rw [star_]; exact h)
theorem rng_of {W : World} (h : laidMet Tryd.prog laidB W) : ∃ ev, W.cell? ⟨2, 0, none⟩ = some ev ∧ (ev = .nilIface ∨ ∃ te pe, ev = .iface te pe) := by
  obtain ⟨a, s, hv, _⟩ := laid_sentinel (g := 2) (ti := 60) h.tail.tail.tail (by kernel_rfl) (by kernel_rfl) Tryd.underlying60 row_err Tryd.underlying100 Tryd.underlying102 rfl rfl Tryd.underlying9 (by kernel_rfl) (by kernel_rfl)
  exact ⟨_, by simpa using World.var?_cell (by kernel_rfl) hv 0, .inr ⟨_, _, rfl⟩⟩
theorem syn_of {W : World} (h : laidMet Tryd.prog laidB W) : ∃ ev, W.cell? ⟨1, 0, none⟩ = some ev ∧ (ev = .nilIface ∨ ∃ te pe, ev = .iface te pe) := by
  obtain ⟨a, s, hv, _⟩ := laid_sentinel (g := 1) (ti := 60) h.tail.tail.tail.tail (by kernel_rfl) (by kernel_rfl) Tryd.underlying60 row_err Tryd.underlying100 Tryd.underlying102 rfl rfl Tryd.underlying9 (by kernel_rfl) (by kernel_rfl)
  exact ⟨_, by simpa using World.var?_cell (by kernel_rfl) hv 0, .inr ⟨_, _, rfl⟩⟩
theorem lw_of {W : World} (h : laidMetH Tryd.prog laidB W) (hs : W.ShapedOpen Tryd.prog) : Lw W := by
  rw [MakeChecks.laidMetH_plain _ _ _ (by kernel_rfl)] at h
  exact ⟨tab_of h, syn_of h, rng_of h, Tryd.laysM145.s1_3 W hs⟩
end Go.Proofs.YtbkekabhdpoddaaDoor
