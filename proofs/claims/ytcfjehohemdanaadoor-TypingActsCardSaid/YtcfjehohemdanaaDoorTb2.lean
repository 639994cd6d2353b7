/- Whether an act type and the spans of a clause are well-formed. -/
import Derived.Test.YtcfjehohemdanaaDoorTb1
namespace Go.Proofs.YtcfjehohemdanaaDoor
open Go.RowKit Go.Sort

/-- the ratio 0 of the package -/
structure Nr (w : World) : Prop where
  n : w.cell? ⟨0, 0, none⟩ = some (.int .i64 0)
  d : w.cell? ⟨0, 1, none⟩ = some (.int .i64 1)
theorem Nr.below {w w' : World} (h : Nr w) (hb : Below w.heap.size w w') : Nr w' := ⟨(hb.cell (block_lt_of_cell h.n)).trans h.n, (hb.cell (block_lt_of_cell h.d)).trans h.d⟩
abbrev acA (a : Ac) : Array Value := #[.int .i64 a.kind, .int .i64 a.role, .int .i64 a.give, .int .i64 a.to_, .int .i64 a.unit, .int .i64 a.lot.1, .int .i64 a.lot.2]
set_option maxRecDepth 100000 in
set_option maxHeartbeats 3200000 in
theorem fmA_any (s : Sy) (m : Sm) (a : Ac) (w : World) (hn : Nr w) : Calls Tryd.prog 39 #[.agg (syA s m), .agg (acA a)] w fun e w' => e = .returned (.bool (fmA s.sz a)) ∧ Below w.heap.size w w' := by
  have n0 := hn.n
  have n1 := hn.d
  have ln : 0 < w.heap.size := block_lt_of_cell hn.n
  clear hn
  go_enter Tryd.func39, Tryd.ntmps39
  go_upto_region 1 with (fail)
  go_wp2_with (go_at_call 38; (with_reducible refine (isIx_any _ _ _).mono ?_); rintro e w' ⟨rfl, rfl⟩)
  all_goals go_ret
  all_goals exact ⟨ret_bool (by simp_all [fmA, Sy.sz, zero?]), (wa1 _ _).alloc (by simp) _⟩
end Go.Proofs.YtcfjehohemdanaaDoor
