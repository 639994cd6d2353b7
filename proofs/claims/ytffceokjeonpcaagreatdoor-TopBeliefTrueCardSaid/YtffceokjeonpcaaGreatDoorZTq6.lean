/- The walks of project.Joint and project.View. -/
import Derived.Test.YtffceokjeonpcaaGreatDoorMb15
import Derived.Test.YtffceokjeonpcaaGreatDoorMb1
set_option maxHeartbeats 6400000
set_option maxRecDepth 100000
namespace Go.Proofs.YtffceokjeonpcaaGreatDoor
open Go.RowKit
def grpOk (c : Con) (ps : List Int) : Bool := decide (0 < ps.length) && decide (ps.length ≤ 12) && ps.all fun p => !noP c p
theorem blk_segI {w : World} {g : Nat} {p : Int} (h : Blk w g 3 #[.int .i64 p]) : Seg w w.heap.size 1 eI (some ⟨g, 0, none⟩) [p] := fun k x hx => by
 cases k with
 | zero =>
  cases hx
  exact ⟨g, 0, rfl, h.lt, fun j v hv => by rw [h.cell]; simpa [eI] using hv⟩
 | succ k => simp at hx
theorem pjoint_any (c : Con) (m : Cm) (l : List Int) (A : Option Addr) (cap : Nat) (ps : List Int) (AP : Option Addr) (capP : Nat) (w : World) (hC : Cont w c m) (hA : Seg w w.heap.size 1 eI A l) (hE : c.runE l = 0) (hP : Seg w w.heap.size 1 eI AP ps) (hg : grpOk c ps = true) (hK : ∀ i, i ≤ l.length → SOk c (stAt c l i)) :
  Calls Tryz.prog 10 #[.agg (coA c m), .slice A l.length cap, .slice AP ps.length capP] w fun e w' => (∃ v, e = .returned (.tuple #[v, .int .i64 0]) ∧ Own w' w.heap.size 3 1 eI v (xBk c (xB2 ps) c.first l)) ∧ Below w.heap.size w w' := by
 obtain ⟨hok, hl, _⟩ := xCz hE
 unfold grpOk at hg
 simp only [Bool.and_eq_true, decide_eq_true_eq] at hg
 obtain ⟨⟨g1, g2⟩, g3⟩ := hg
 have np : ps.length ≤ 1000000 := by omega
 have g4 : ps.any (noP c) = false := by
  rw [List.any_eq_false]
  intro x hx
  have := List.all_eq_true.1 g3 x hx
  simpa using this
 have hst : c.startE = 0 ∧ c.startS = c.first := by unfold Con.startE Con.startS; rw [hok]; exact ⟨rfl, rfl⟩
 have HST : Hid (∀ W, Below w.heap.size w W → Calls Tryz.prog 21 #[.agg (coA c m)] W fun e w' => RetS W c.first 0 e w') := fun W hb => by
  have h := xCm c m W (hC.then_ hb)
  rw [hst.1, hst.2] at h
  exact h
 have HCF : Hid (∀ bc W, Below w.heap.size w W → Blk W bc 27 (coA c m) → Calls Tryz.prog 24 #[.slice AP ps.length capP, .func (.func 23) #[] #[.pointer (some ⟨bc, 0, none⟩)]] W fun e w' => e = .returned (.bool false) ∧ Below W.heap.size W w') := fun bc W hb gc => by
  have h := xIm c m bc ps AP capP W ((hP.below hb).more hb.size) np gc
  rw [g4] at h
  exact h
 have HSE : Hid (∀ bp bc W, Below w.heap.size w W → Blk W bp 22 #[.slice AP ps.length capP] → Blk W bc 27 (coA c m) → Calls Tryz.prog 25 #[.agg (coA c m), .slice A l.length cap, .func (.func 26) #[] #[.pointer (some ⟨bp, 0, none⟩), .pointer (some ⟨bc, 0, none⟩)]] W fun e w' => (∃ v, e = .returned (.tuple #[v, .int .i64 0]) ∧ Own w' W.heap.size 3 1 eI v (xBk c (xB2 ps) c.first l)) ∧ Below W.heap.size W w') := fun bp bc W hb gp gc =>
  seen_any c m l A cap ps AP capP bp bc W (hC.then_ hb) ((hA.below hb).more hb.size) hE ((hP.below hb).more hb.size) np gp gc hK
 have t0 : decide ((4000 : Int) < (l.length : Int)) = false := qzN (by omega)
 have t1 : (((ps.length : Nat) : Int) == 0) = false := beq_eq_false_iff_ne.2 (by omega)
 have t2 : decide ((12 : Int) < (ps.length : Int)) = false := qzN (by omega)
 clear hC hA hE hP g3 g4 hok hK hst hl
 go_enter Tryz.func10, Tryz.ntmps10
 go_upto_region 1 with (fail)
 refine xAi ?_
 intro X hX
 have ga : Blk X w.heap.size 27 (coA c m) := by rw [hX]; exact (Blk.new _ _ _).alloc _
 have gp : Blk X (w.heap.size + 1) 22 #[.slice AP ps.length capP] := by rw [hX]; exact xA0 (by simp)
 have HB : Hid (Below w.heap.size w X) := by unfold Hid; rw [hX]; (repeat first | exact Below.refl _ _ | refine xAc ?_ _)
 obtain ⟨bp, ebp⟩ : ∃ b, w.heap.size + 1 = b := ⟨_, rfl⟩
 obtain ⟨ba, eba⟩ : ∃ b, w.heap.size = b := ⟨_, rfl⟩
 rw [ebp] at gp ⊢
 rw [eba] at ga ⊢
 clear hX ebp eba
 go_upto_region 2 with (first | (refine xAf (by rfl) 27 _ rfl ba rfl 27 _ ga ⟨_, Tryz.underlying27⟩ (by kernel_rfl) ?_; simp only [Act.put, qzG, qzH, qzI]) | (go_at_call 21; (with_reducible refine (HST.out X HB.out).mono ?_); rintro e w1 ⟨⟨q0, rfl, hs0, ho0, ht0⟩, hb1⟩) | (refine xAh rfl 47 _ _ rfl w1.heap.size 47 [] zS.toList [] (stA c.first q0).toList rfl rfl (Blk.new _ _ _) rfl (by kernel_rfl) (by simp [Value.oneCell']) ?_; intro w2 g2' u2))
 have h12 : Below X.heap.size X w2 := (xAc hb1 _).trans (u2.b _ hb1.size)
 have ga2 := qzL (ga.then_ h12)
 have gp2 := qzL (gp.then_ h12)
 have HB2 := qzL (xAa HB.out h12)
 have p0 : w2.cell? ⟨bp, 0, none⟩ = some (.slice AP ps.length capP) := gp2.out.cell 0
 have HC2 := qzL (HCF.out ba w2 HB2.out ga2.out)
 clear HST HCF ga gp hb1 hs0 ho0 ht0 g2' u2 h12
 go_upto_region 7 with (go_at_call 24; (with_reducible refine HC2.out.mono ?_); rintro e w3 ⟨rfl, hb3⟩)
 have ga3 := ga2.out.then_ hb3
 have HS3 := qzL (HSE.out bp ba w3 (xAa HB2.out hb3) (gp2.out.then_ hb3) ga3)
 have HB3 := qzL (xAa HB2.out hb3)
 clear p0 HC2 HSE hb3
 go_wp2_with (first | (refine xAf (by rfl) 27 _ rfl ba rfl 27 _ ga3 ⟨_, Tryz.underlying27⟩ (by kernel_rfl) ?_; simp only [Act.put, qzG, qzH, qzI]) | (go_at_call 25; (with_reducible refine HS3.out.mono ?_); rintro e w4 ⟨⟨v, rfl, hO⟩, hb4⟩; have HO := qzL hO; clear hO))
 go_ret2
 exact ⟨⟨v, rfl, HO.out.more HB3.out.size⟩, xAa HB3.out hb4⟩
theorem stAt_ok {c : Con} {l : List Int} (hE : c.runE l = 0) : ∀ i, i ≤ l.length → SOk c (stAt c l i)
 | 0, _ => xDe (xCz hE).1
 | i + 1, h => by
  obtain ⟨x, hx⟩ : ∃ x, l[i]? = some x := ⟨_, qzJ (by omega)⟩
  rw [xG7 hx]
  exact xCo (stAt_ok hE i (by omega)) (xGg (xCz hE).2.2 hx)
theorem grpSee_one (p : Int) : xB2 [p] = fun hol a => xBo hol p a := by
 funext hol a
 unfold xB2
 simp
theorem xHf (c : Con) (m : Cm) (l : List Int) (A : Option Addr) (cap : Nat) (p : Int) (w : World) (hC : Cont w c m) (hA : Seg w w.heap.size 1 eI A l) (hE : c.runE l = 0) (hp : 0 ≤ p ∧ p < c.par) :
  Calls Tryz.prog 9 #[.agg (coA c m), .slice A l.length cap, .int .i64 p] w fun e w' => (∃ v, e = .returned (.tuple #[v, .int .i64 0]) ∧ Own w' w.heap.size 3 1 eI v (xBk c (fun hol a => xBo hol p a) c.first l)) ∧ Below w.heap.size w w' := by
 have hg : grpOk c [p] = true := by
  unfold grpOk noP
  simp
  omega
 have HJ : Hid (∀ g W, Below w.heap.size w W → Blk W g 3 #[.int .i64 p] → Calls Tryz.prog 10 #[.agg (coA c m), .slice A l.length cap, .slice (some ⟨g, 0, none⟩) 1 1] W fun e w' => (∃ v, e = .returned (.tuple #[v, .int .i64 0]) ∧ Own w' W.heap.size 3 1 eI v (xBk c (fun hol a => xBo hol p a) c.first l)) ∧ Below W.heap.size W w') := fun g W hb hgb => by
  have hs : Seg W W.heap.size 1 eI (some ⟨g, 0, none⟩) [p] := blk_segI hgb
  have h := pjoint_any c m l A cap [p] (some ⟨g, 0, none⟩) 1 W (hC.then_ hb) ((hA.below hb).more hb.size) hE hs hg (stAt_ok hE)
  rw [grpSee_one] at h
  exact h
 clear hC hA hE hp hg
 go_enter Tryz.func9, Tryz.ntmps9
 go_upto_region 1 with (fail)
 refine xAi ?_
 intro X hX
 have ga : Blk X w.heap.size 27 (coA c m) := by rw [hX]; exact Blk.new _ _ _
 have HB : Hid (Below w.heap.size w X) := by unfold Hid; rw [hX]; (repeat first | exact Below.refl _ _ | refine xAc ?_ _)
 obtain ⟨ba, eba⟩ : ∃ b, w.heap.size = b := ⟨_, rfl⟩
 rw [eba] at ga ⊢
 clear hX eba
 go_wp2_with (first | (refine xAf (by rfl) 27 _ rfl ba rfl 27 _ ga ⟨_, Tryz.underlying27⟩ (by kernel_rfl) ?_; simp only [Act.put, qzG, qzH, qzI]) | (go_at_call 10; (with_reducible refine (HJ.out X.heap.size _ (HB.out.alloc HB.out.size _) (Blk.new _ _ _)).mono ?_); rintro e w1 ⟨⟨v, rfl, hO⟩, hb1⟩; have HO := qzL hO; have HB1 := qzL hb1; clear hO hb1))
 go_ret2
 exact ⟨⟨v, rfl, HO.out.more (HB.out.alloc HB.out.size _).size⟩, xAa (HB.out.alloc HB.out.size _) HB1.out⟩
end Go.Proofs.YtffceokjeonpcaaGreatDoor
