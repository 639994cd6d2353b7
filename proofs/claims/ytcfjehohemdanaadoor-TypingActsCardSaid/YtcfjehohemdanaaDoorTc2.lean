/- The checks badNumbers at a subject. -/
import Derived.Test.YtcfjehohemdanaaDoorTb6
import Derived.Test.YtcfjehohemdanaaDoorTb7
import Derived.Test.YtcfjehohemdanaaDoorTb3
import Derived.Test.YtcfjehohemdanaaDoorPk
import Derived.Deep.CutRange
namespace Go.Proofs.YtcfjehohemdanaaDoor
open Go.RowKit Go.Sort

theorem el24 : ElT Tryd.prog 51 24 := ⟨⟨_, Tryd.underlying51⟩, by kernel_rfl, ⟨.agg #[.string ⟨#[]⟩, .int .i64 0, .int .i64 0, .bool false, .string ⟨#[]⟩, .int .i64 0, .bool false, .string ⟨#[]⟩, .int .i64 0, .int .i64 0, .int .i64 0, .int .i64 0, .slice none 0 0, .int .i64 0, .int .i64 0, .bool false, .bool false, .int .i64 0, .int .i64 0, .int .i64 0, .int .i64 0, .int .i64 0, .int .i64 0, .bool false], rfl, fun w => by kernel_rfl⟩⟩
set_option maxRecDepth 100000 in
/-- The loads of a check at a clause: the clause whole, the index. -/
theorem cl_load {w X : World} {s : Sy} {m : Sm} {k : Nat} {x : Cm} {b o : Nat} (hX : X = w.alloc (.cells #[.string s.nm, .int .i64 s.y, .int .i64 s.mo, .int .i64 s.dd, .int .i64 s.days, .bool s.wk.1, .bool s.wk.2.1, .bool s.wk.2.2.1, .bool s.wk.2.2.2.1, .bool s.wk.2.2.2.2.1, .bool s.wk.2.2.2.2.2.1, .bool s.wk.2.2.2.2.2.2,
  .slice m.h s.hol.length m.hc, .slice m.p s.par.length m.pc, .slice m.r s.ro.length m.rc, .slice m.u s.un.length m.uc, .slice m.a s.ac.length m.ac, .slice (some ⟨b, o, none⟩) s.cl.length m.cc, .int .i64 k] 72)) (hb : b < w.heap.size) (hc : ∀ j u, (encCl x)[j]? = some u → w.cell? ⟨b, o + k * 24 + j, none⟩ = some u) :
    X.rangeAt b (o + k * 24) [.string x.c.nm, .int .i64 x.c.pos, .int .i64 x.c.wi.d, .bool x.c.wi.b, .string x.c.wi.nm, .int .i64 x.c.gr.d, .bool x.c.gr.b, .string x.c.gr.nm, .int .i64 x.c.c.kind, .int .i64 x.c.c.role, .int .i64 x.c.c.act, .int .i64 x.c.c.need, .slice x.A x.c.c.start.length x.cap, .int .i64 x.c.c.aft, .int .i64 x.c.c.grace, .bool x.c.c.bus, .bool x.c.c.fin, .int .i64 x.c.c.pause, .int .i64 x.c.c.resume, .int .i64 x.c.c.v.1, .int .i64 x.c.c.v.2, .int .i64 x.c.c.unit, .int .i64 x.c.c.to_, .bool x.c.c.waived] ∧ X.cell? ⟨w.heap.size, 17, none⟩ = some (.slice (some ⟨b, o, none⟩) s.cl.length m.cc) ∧ X.cell? ⟨w.heap.size, 18, none⟩ = some (.int .i64 k) ∧ Below w.heap.size w X ∧ X.heap.size = w.heap.size + 1 := by
  subst hX
  refine ⟨fun j v hv => ((wa1 w _).cell (p := ⟨b, o + k * 24 + j, none⟩) hb).trans (hc j v hv), (Blk.new _ _ _).cell 17, (Blk.new _ _ _).cell 18, wa1 _ _, by simp⟩
set_option maxRecDepth 100000 in
set_option maxHeartbeats 3200000 in
theorem badNu_any (s : Sy) (m : Sm) (k : Nat) (x : Cm) (w : World) (hk : m.cs[k]? = some x) (hl : m.cs.length = s.cl.length) (h1 : b64 x.c.c.v.1) (h2 : b64 x.c.c.v.2) (hs : Seg w w.heap.size 24 encCl m.c m.cs) :
    Calls Tryd.prog 28 #[.agg (sbA s m k)] w fun e w' => e = .returned (.bool (badNu x.c)) ∧ Below w.heap.size w w' := by
  obtain ⟨b, o, ea, hb, hc⟩ := segCl hs hk
  have hlt : k < s.cl.length := by rw [← hl]; exact (List.getElem?_eq_some_iff.1 hk).1
  have HP : Hid (∀ W, Calls Tryd.prog 43 #[.agg #[.int .i64 x.c.c.v.1, .int .i64 x.c.c.v.2]] W fun e w' => e = .returned (.bool (psv x.c.c.v)) ∧ Below W.heap.size W w') := fun W => isPos_any _ _ W h1 h2
  clear hk hs hl h1 h2
  have hN : Hid (badNu x.c = (!(inn x.c.wi.d 1 400) || !(inn x.c.gr.d 0 400) || !(inn x.c.c.need 1 9) || (x.c.c.unit != -1 && !(psv x.c.c.v)))) := rfl
  unfold sbA
  rw [ea]
  go_enter Tryd.func28, Tryd.ntmps28
  go_upto_region 1 with (fail)
  refine name_wp ?_
  intro X hX
  obtain ⟨hld, s17, s18, hbX, szX⟩ := cl_load hX hb hc
  have hlw : w.heap.size < X.heap.size := by omega
  obtain ⟨B0, hB0⟩ : ∃ B0, w.heap.size = B0 := ⟨_, rfl⟩
  have HB0 := Lib.hid hB0
  have HBX := Lib.hid hbX
  rw [hB0] at s17 s18 hlw
  rw [hB0]
  clear hX hbX szX hB0 hc hb
  go_upto_region 2 with ((refine wpList_elem 51 el24 _ _ _ rfl rfl rfl rfl rfl rfl rfl rfl rfl b _ rfl [.string x.c.nm, .int .i64 x.c.pos, .int .i64 x.c.wi.d, .bool x.c.wi.b, .string x.c.wi.nm, .int .i64 x.c.gr.d, .bool x.c.gr.b, .string x.c.gr.nm, .int .i64 x.c.c.kind, .int .i64 x.c.c.role, .int .i64 x.c.c.act, .int .i64 x.c.c.need, .slice x.A x.c.c.start.length x.cap, .int .i64 x.c.c.aft, .int .i64 x.c.c.grace, .bool x.c.c.bus, .bool x.c.c.fin, .int .i64 x.c.c.pause, .int .i64 x.c.c.resume, .int .i64 x.c.c.v.1, .int .i64 x.c.c.v.2, .int .i64 x.c.c.unit, .int .i64 x.c.c.to_, .bool x.c.c.waived] rfl hld (by simp [Value.oneCell']) (by decide) (by simp) (by simp) ?_; simp only [Act.put, List.setIfInBounds_toArray, List.set_cons_succ, List.set_cons_zero]))
  go_cut [22] from 11 to 22 (fun v W => v = .bool (!(inn x.c.wi.d 1 400) || !(inn x.c.gr.d 0 400)) ∧ W = X.alloc (.cells (csA x) 51))
  case first =>
    go_wp2_with (go_at_call 42; (with_reducible refine (inn_any _ _ _ _).mono ?_); rintro e w1 ⟨rfl, rfl⟩)
    all_goals go_meet
    all_goals (case rel => exact ⟨congrArg Value.bool (by simp_all), rfl⟩)
  case rest =>
    obtain ⟨hv, hw⟩ := hcut
    subst hv
    subst hw
    cases hz1 : (!(inn x.c.wi.d 1 400) || !(inn x.c.gr.d 0 400)) with
    | true =>
      have hf : Hid (badNu x.c = true) := by unfold Hid; rw [hN.out, hz1]; simp
      go_wp2
      go_ret
      exact ⟨ret_bool hf.out.symm, HB0.out ▸ below_alloc HBX.out _⟩
    | false =>
      have HN : Hid (badNu x.c = (!(inn x.c.c.need 1 9) || (x.c.c.unit != -1 && !(psv x.c.c.v)))) := by unfold Hid; rw [hN.out, hz1]; simp
      clear hz1
      go_upto_region 4 with (fail)
      go_wp2_with (first | (go_at_call 42; (with_reducible refine (inn_any _ _ _ _).mono ?_); rintro e w1 ⟨rfl, rfl⟩) | (go_at_call 43; (with_reducible refine (HP.out _).mono ?_); rintro e w1 ⟨rfl, hb⟩))
      all_goals go_ret
      all_goals first | exact ⟨ret_bool (by rw [HN.out]; simp_all), HB0.out ▸ below_alloc HBX.out _⟩ | exact ⟨ret_bool (by rw [HN.out]; simp_all), HB0.out ▸ below_then (below_alloc HBX.out _) (by assumption)⟩
end Go.Proofs.YtcfjehohemdanaaDoor
