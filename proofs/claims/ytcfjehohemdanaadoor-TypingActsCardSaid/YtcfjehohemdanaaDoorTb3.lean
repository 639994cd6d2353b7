/- Whether the spans of a clause are well-formed. -/
import Derived.Test.YtcfjehohemdanaaDoorTb1
namespace Go.Proofs.YtcfjehohemdanaaDoor
open Go.RowKit Go.Sort

/-- a clause's value -/
abbrev csA (x : Cm) : Array Value := #[.string x.c.nm, .int .i64 x.c.pos, .int .i64 x.c.wi.d, .bool x.c.wi.b, .string x.c.wi.nm, .int .i64 x.c.gr.d, .bool x.c.gr.b, .string x.c.gr.nm,
  .int .i64 x.c.c.kind, .int .i64 x.c.c.role, .int .i64 x.c.c.act, .int .i64 x.c.c.need, .slice x.A x.c.c.start.length x.cap, .int .i64 x.c.c.aft, .int .i64 x.c.c.grace, .bool x.c.c.bus, .bool x.c.c.fin, .int .i64 x.c.c.pause, .int .i64 x.c.c.resume, .int .i64 x.c.c.v.1, .int .i64 x.c.c.v.2, .int .i64 x.c.c.unit, .int .i64 x.c.c.to_, .bool x.c.c.waived]
/-- a clause's own part as a value -/
abbrev ccA (x : Cm) : Array Value := #[.int .i64 x.c.c.kind, .int .i64 x.c.c.role, .int .i64 x.c.c.act, .int .i64 x.c.c.need, .slice x.A x.c.c.start.length x.cap, .int .i64 x.c.c.aft, .int .i64 x.c.c.grace, .bool x.c.c.bus, .bool x.c.c.fin, .int .i64 x.c.c.pause, .int .i64 x.c.c.resume, .int .i64 x.c.c.v.1, .int .i64 x.c.c.v.2, .int .i64 x.c.c.unit, .int .i64 x.c.c.to_, .bool x.c.c.waived]
set_option maxRecDepth 100000 in
set_option maxHeartbeats 3200000 in
theorem fmS_any (x : Cm) (w : World) : Calls Tryd.prog 41 #[.agg (csA x)] w fun e w' => e = .returned (.bool (fmS x.c)) ∧ Below w.heap.size w w' := by
  go_enter Tryd.func41, Tryd.ntmps41
  go_wp2
  all_goals go_ret
  all_goals exact ⟨ret_bool (by simp_all [fmS, noS, emp]), (wa1 _ _).alloc (by simp) _⟩
end Go.Proofs.YtcfjehohemdanaaDoor
