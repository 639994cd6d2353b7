/- The walks of the laws' helpers: few, week. -/
import Derived.Test.YtikjjhodbijfnaaDoorD11
namespace Go.Proofs.YtikjjhodbijfnaaDoor
open Go.RowKit Go.Sort

theorem few_any (b0 b1 b2 b3 b4 b5 b6 : Bool) (A : Option Addr) (hs : List Int) (c : Nat) (w : World) (hl : hs.length < 100000000000000) :
    Calls Tryd.prog 15 #[.agg (calA b0 b1 b2 b3 b4 b5 b6 (.slice A hs.length c))] w fun e w' => e = .returned (.bool (decide (hs.length ≤ 500))) ∧ Below w.heap.size w w' := by
  go_enter Tryd.func15, Tryd.ntmps15
  go_upto_region 1 with (fail)
  refine name_wp ?_
  intro X hX
  have gX : Blk X w.heap.size 39 (calA b0 b1 b2 b3 b4 b5 b6 (.slice A hs.length c)) := by rw [hX]; exact Blk.new _ _ _
  have hbX : Below w.heap.size w X := by rw [hX]; exact below_alloc (Below.refl _ _) _
  have d7 : X.cell? ⟨w.heap.size, 7, none⟩ = some (.slice A hs.length c) := gX.cell 7
  clear hX gX
  by_cases h5 : hs.length ≤ 500
  · go_wp2
    go_ret
    exact ⟨ret_bool (by simp [h5]; omega), hbX⟩
  · go_wp2
    go_ret
    exact ⟨ret_bool (by simp [h5]; omega), hbX⟩
theorem ret_cal {fn : Func} {a : Act} {w : World} {r g : Nat} {b0 b1 b2 b3 b4 b5 b6 : Bool} {s : Value} (hres : fn.results = #[.cell r 39]) (hp : a.tmps.getD r undef = .pointer (some ⟨g, 0, none⟩)) (hk : Blk w g 39 (calA b0 b1 b2 b3 b4 b5 b6 s)) :
    (results fn a.tmps).run Tryd.prog w = .ok (.agg (calA b0 b1 b2 b3 b4 b5 b6 s)) w := by
  obtain ⟨e0, e1, e2, e3, e4, e5, e6, e7⟩ := calCells hk
  rw [Array.getD_eq_getD_getElem?] at hp
  simp [results, hres, hp, go_sem, e0, e1, e2, e3, e4, e5, e6, e7]
theorem week_any (A : Option Addr) (n c : Nat) (w : World) :
    Calls Tryd.prog 19 #[.slice A n c] w fun e w' => e = .returned (.agg (calA false false false false false true true (.slice A n c))) ∧ Below w.heap.size w w' := by
  go_enter Tryd.func19, Tryd.ntmps19
  go_wp2
  refine bodyPost_ret (ret_cal rfl rfl (Blk.new _ _ _)) rfl ⟨rfl, wa1 _ _⟩
end Go.Proofs.YtikjjhodbijfnaaDoor
