/- The walk of w11Private. -/
import Derived.Test.YtffceokjeonpcaaGreatDoorMb14
import Derived.Test.YtffceokjeonpcaaGreatDoorMb1
set_option maxHeartbeats 12800000
set_option maxRecDepth 100000
namespace Go.Proofs.YtffceokjeonpcaaGreatDoor
open Go.RowKit
theorem xIs (w : World) : Calls Tryz.prog 19 #[] w fun e w' => (∃ m, e = .returned (.agg (coA wC m)) ∧ Cont w' wC m) ∧ Below w.heap.size w w' := by
 go_enter Tryz.func19, Tryz.ntmps19
 go_upto_region 1 with (fail)
 go_wp2
 obtain ⟨m0, hm0⟩ : ∃ m : Cm, m = ⟨some ⟨w.heap.size + 1 + 1 + 1 + 1, 0, none⟩, 3, none, 0, some ⟨w.heap.size + 1 + 1 + 1 + 1 + 1, 0, none⟩, 1, some ⟨w.heap.size + 1 + 1 + 1 + 1 + 1 + 1, 0, none⟩, 1, none, 0, wC.cl.map fun k => ⟨k, none, 0⟩⟩ := ⟨_, rfl⟩
 refine bodyPost_ret (ret_row (cs := coA wC m0) rfl rfl ?_ ⟨_, Tryz.underlying27⟩ (by kernel_rfl)) rfl ?_
 ·subst hm0
  exact ((((((Blk.new w _ _).alloc _).alloc _).alloc _).alloc _).alloc _).alloc _
 ·refine ⟨⟨m0, rfl, ?_⟩, by (repeat (first | (with_reducible first | assumption | exact Below.refl _ _ | refine xAk ?_ _ | refine Below.drew ?_ | refine xAc ?_ _ | refine Below.setCell ?_ (by first | omega | (simp; done) | (simp; omega)) _ | refine xAa ?_ (by assumption)) | (refine xAa (a := World.drew _) ?_ (by with_reducible assumption))))⟩
  subst hm0
  exact ⟨xEu xAz (((xA0 (by simp)).alloc _).alloc _), Seg.nil _ _ _ _ _, xEu eA_len ((xA0 (by simp)).alloc _), xEu eK_len (xA0 (by simp)), Seg.nil _ _ _ _ _, rfl, (fun x hx => by
   have e := List.mem_singleton.1 (show x ∈ [(⟨⟨4, -1, 0, 1, [], 2, 0, false, false, -1, -1, (0, 1), -1, -1, false⟩, none, 0⟩ : Km)] from hx)
   subst e
   exact ⟨Seg.nil _ _ _ _ _, by decide, by decide, by decide⟩), (fun x hx => by cases hx), (fun x hx => by
   have e := List.mem_singleton.1 (show x ∈ [(⟨1, 0, 0, 1, -1, (0, 1)⟩ : Atc)] from hx)
   subst e
   decide), by decide, by decide, by decide, by decide, by decide, Nat.le_refl 3, Nat.le_refl 0, Nat.le_refl 1, Nat.le_refl 1, Nat.le_refl 0⟩
end Go.Proofs.YtffceokjeonpcaaGreatDoor
