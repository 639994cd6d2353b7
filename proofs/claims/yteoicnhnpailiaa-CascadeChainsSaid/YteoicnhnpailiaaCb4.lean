/- The walk of cascade.owed: what a party has to pay for a set. -/
import Derived.Test.YteoicnhnpailiaaCb3
namespace Go.Proofs.Yteoicnhnpailiaa
open Go.RowKit Go.Sort

theorem flat_take {α β : Type} {f : α → List β} {l : List α} {k : Nat} {x : α} (hx : l[k]? = some x) : (l.take (k + 1)).flatMap f = (l.take k).flatMap f ++ f x := by
  obtain ⟨hk, rfl⟩ := List.getElem?_eq_some_iff.1 hx
  rw [List.take_succ_eq_append_getElem hk, List.flatMap_append]; simp
theorem tower6 (w : World) (c0 c1 c2 c3 c4 c5 : Array Value) (t0 t1 t2 t3 t4 t5 : TypeId) (X : World) (hX : X = (((((w.alloc (.cells c0 t0)).alloc (.cells c1 t1)).alloc (.cells c2 t2)).alloc (.cells c3 t3)).alloc (.cells c4 t4)).alloc (.cells c5 t5)) :
    Blk X w.heap.size t0 c0 ∧ Blk X (w.heap.size + 1) t1 c1 ∧ Blk X (w.heap.size + 1 + 1) t2 c2 ∧ Blk X (w.heap.size + 1 + 1 + 1) t3 c3 ∧ Blk X (w.heap.size + 1 + 1 + 1 + 1) t4 c4 ∧ Blk X (w.heap.size + 1 + 1 + 1 + 1 + 1) t5 c5 ∧ Below w.heap.size w X ∧ X.heap.size = w.heap.size + 6 := by
  subst hX
  refine ⟨(((((Blk.new _ _ _).alloc _).alloc _).alloc _).alloc _).alloc _, ?_, ?_, ?_, ?_, ?_, ?_, by simp⟩
  · have := ((((Blk.new (w.alloc (.cells c0 t0)) t1 c1).alloc (.cells c2 t2)).alloc (.cells c3 t3)).alloc (.cells c4 t4)).alloc (.cells c5 t5)
    simpa using this
  · have := (((Blk.new ((w.alloc (.cells c0 t0)).alloc (.cells c1 t1)) t2 c2).alloc (.cells c3 t3)).alloc (.cells c4 t4)).alloc (.cells c5 t5)
    simpa using this
  · have := ((Blk.new (((w.alloc (.cells c0 t0)).alloc (.cells c1 t1)).alloc (.cells c2 t2)) t3 c3).alloc (.cells c4 t4)).alloc (.cells c5 t5)
    simpa using this
  · have := (Blk.new ((((w.alloc (.cells c0 t0)).alloc (.cells c1 t1)).alloc (.cells c2 t2)).alloc (.cells c3 t3)) t4 c4).alloc (.cells c5 t5)
    simpa using this
  · have := Blk.new (((((w.alloc (.cells c0 t0)).alloc (.cells c1 t1)).alloc (.cells c2 t2)).alloc (.cells c3 t3)).alloc (.cells c4 t4)) t5 c5
    simpa using this
  · exact below_alloc (below_alloc (below_alloc (below_alloc (below_alloc (below_alloc (Below.refl _ _) _) _) _) _) _) _
/-- what a party has to pay, as the code gives it -/
def OwE (o : Option Rat) : Ending := .returned (.tuple #[.agg #[.int .i64 (stN o), .int .i64 (stD o)], .int .i64 (stE o)])
set_option maxRecDepth 100000 in
set_option maxHeartbeats 3200000 in
theorem owed_any (p : Pf) (m : Ms) (S : List Bool) (i : Int) (w : World) (hv : VP p) (hm : Pm w p m) (hS : S.length = 12) :
    Calls Try.prog 35 #[.agg (pfA p m), .int .i64 i, .agg (setA S)] w fun e w' => e = OwE (ow p S i) ∧ Below w.heap.size w w' := by
  have hmf : ∀ (fn : Fn) (first cap : Array Value) (w : World), (Instr.makeFunc fn first cap).run Try.prog w = .ok (.func fn first cap) w := fun _ _ _ _ => rfl
  have hst := fun (f : Fn) (a b : Array Value) (W : World) (x : Addr) => run_store Try.prog W x (.func f a b) .plain rfl
  have HV := Lib.hid hv
  have HM := Lib.hid hm
  have HS := Lib.hid hS
  have HGet := Lib.hid (fun (i : Int) => @setA_get S hS i)
  clear hv hm hS
  go_enter Try.func35, Try.ntmps35
  go_upto_region 4 with (fail)
  refine name_wp ?_
  intro X hX
  obtain ⟨gP, gS, gR, gT, gE, gF, hbX, hsz⟩ := tower6 w _ _ _ _ _ _ _ _ _ _ _ _ X hX
  clear hX
  obtain ⟨bS, e1⟩ : ∃ b, w.heap.size + 1 = b := ⟨_, rfl⟩
  rw [e1] at gS gR gT gE gF ⊢
  obtain ⟨bR, e2⟩ : ∃ b, bS + 1 = b := ⟨_, rfl⟩
  rw [e2] at gR gT gE gF ⊢
  obtain ⟨bT, e3⟩ : ∃ b, bR + 1 = b := ⟨_, rfl⟩
  rw [e3] at gT gE gF ⊢
  obtain ⟨bE, e4⟩ : ∃ b, bT + 1 = b := ⟨_, rfl⟩
  rw [e4] at gE gF ⊢
  obtain ⟨bF, e5⟩ : ∃ b, bE + 1 = b := ⟨_, rfl⟩
  rw [e5] at gF ⊢
  obtain ⟨bP, e0⟩ : ∃ b, w.heap.size = b := ⟨_, rfl⟩
  have NE := Lib.hid (show bE ≠ bT ∧ (bP ≠ bE ∧ bP ≠ bT) ∧ (bS ≠ bE ∧ bS ≠ bT) ∧ (bF ≠ bE ∧ bF ≠ bT) ∧ (bR ≠ bE ∧ bR ≠ bT) ∧ (w.heap.size ≤ bE ∧ w.heap.size ≤ bT) ∧ w.heap.size ≤ bR by omega)
  have HSX := Lib.hid (show St X bE bT (some 0) from ⟨gE, gT, fun q hq => by cases hq; decide⟩)
  have lw : w.heap.size ≤ X.heap.size := hbX.size
  have lP : bP < X.heap.size := by omega
  have lS : bS < X.heap.size := by omega
  have lR : bR < X.heap.size := by omega
  have lT : bT < X.heap.size := by omega
  have lE : bE < X.heap.size := by omega
  have E0 := Lib.hid e0
  rw [e0] at gP ⊢
  obtain ⟨_, _, _, _, c4, _⟩ := pfCells gP
  have GP := Lib.hid gP
  have GS := Lib.hid gS
  have GR := Lib.hid gR
  have GF := Lib.hid gF
  have HBX := Lib.hid hbX
  clear hsz hbX gP gS gR gT gE gF e0 e1 e2 e3 e4 e5
  have HE : Hid (∀ (j to_ : Int) (s : Option Rat) (W : World), St W bE bT s → Kp bE bT X W → Calls Try.prog 51 #[.int .i64 j, .int .i64 to_, .pointer (some ⟨bP, 0, none⟩), .pointer (some ⟨bS, 0, none⟩), .pointer (some ⟨bF, 0, none⟩)] W fun e w' => e = .returned (.tuple #[]) ∧ St w' bE bT (sumE s (eachL p S j to_)) ∧ Kp bE bT W w') := fun j to_ s W hs hk =>
    each_any p m S j to_ s bP bS bF bE bT w W HV.out HM.out HS.out (HBX.out.trans (hk.below NE.out.2.2.2.2.2.1.1 NE.out.2.2.2.2.2.1.2 lw)) (hk.blk GP.out NE.out.2.1.1 NE.out.2.1.2) (hk.blk GS.out NE.out.2.2.1.1 NE.out.2.2.1.2) (hk.blk GF.out NE.out.2.2.2.1.1 NE.out.2.2.2.1.2) hs NE.out.1 NE.out.2.1 NE.out.2.2.1 NE.out.2.2.2.1 NE.out.2.2.2.2.2.1
  go_upto_region 5 with (go_at_call 51; with_reducible refine (HE.out _ _ _ _ HSX.out (Kp.refl _ _ _)).mono ?_; rintro e V ⟨rfl, hs, hk⟩)
  have HS1 := Lib.hid hs
  have HK1 := Lib.hid hk
  clear c4
  obtain ⟨_, _, _, _, c4, _⟩ := pfCells (hk.blk GP.out NE.out.2.1.1 NE.out.2.1.2)
  have lP' : bP < V.heap.size := Nat.lt_of_lt_of_le lP hk.size
  have hlg : p.gu.length ≤ 400 := HV.out.lgu
  clear hs hk HSX
  go_upto_region 6 with (fail)
  go_loopw [23] (fun x wr => ∃ k : Nat, k ≤ p.gu.length ∧ x = .int .i64 k ∧ St wr bE bT (sumE (some 0) (eachL p S i (-1) ++ (p.gu.take k).flatMap (gOf p S i))) ∧ Kp bE bT X wr) (fun x _ => p.gu.length - (intOf x).toNat)
  case atStart => exact ⟨0, by omega, rfl, by simpa using HS1.out, HK1.out⟩
  case round =>
    obtain ⟨k, hk, rfl, hst, hkp⟩ := hrel
    have HST := Lib.hid hst
    have HKP := Lib.hid hkp
    by_cases hlt : k < p.gu.length
    · obtain ⟨g, hg⟩ : ∃ g, p.gu[k]? = some g := ⟨_, List.getElem?_eq_getElem hlt⟩
      have hbw := HBX.out.trans (hkp.below NE.out.2.2.2.2.2.1.1 NE.out.2.2.2.2.2.1.2 lw)
      obtain ⟨b, off, ea, hb, g0, g1, g2⟩ := segG (HM.out.s4.below hbw) hg
      have hbl : b < wr.heap.size := Nat.lt_of_lt_of_le hb hbw.size
      obtain ⟨⟨x0, x1⟩, ⟨y0, y1⟩, _⟩ := HV.out.gu g (List.mem_of_getElem? hg)
      have n12 := HV.out.n12
      have gs := (hkp.blk GS.out NE.out.2.2.1.1 NE.out.2.2.1.2)
      have lSr := gs.lt
      have cs : wr.cell? ⟨bS, g.x.toNat, none⟩ = some (.bool (has S g.x)) := by rw [gs.cell]; exact HGet.out g.x x0 (by omega)
      have HT := Lib.hid (flat_take (f := gOf p S i) hg)
      rw [ea]
      clear hst hkp hbw ea gs hg
      by_cases hf : g.b = i
      · have hf' : (g.b == i) = true := by simpa using hf
        rcases hbb (has S g.x) with hh | hh
        · have HG := Lib.hid (show gOf p S i g = eachL p S g.x g.t by unfold gOf; rw [hf', hh]; rfl)
          rw [hh] at cs
          go_wp2_with (go_at_call 51; with_reducible refine (HE.out _ _ _ _ (HST.out.then_ (wa1 _ _)) (HKP.out.trans (Kp.of (wa1 _ _)))).mono ?_; rintro e w6 ⟨rfl, hs6, hk6⟩)
          go_roundw
          case rel => exact ⟨k + 1, by omega, by go_num, by rw [HT.out, HG.out, ← List.append_assoc, sumE_app _ _ (eachL p S g.x g.t)]; exact hs6, (HKP.out.trans (Kp.of (wa1 _ _))).trans hk6⟩
          case measure => simp [intOf]; omega
        · have HG := Lib.hid (show gOf p S i g = [] by unfold gOf; rw [hf', hh]; rfl)
          rw [hh] at cs
          go_wp2
          go_roundw
          case rel => exact ⟨k + 1, by omega, by go_num, by rw [HT.out, HG.out, List.append_nil]; exact HST.out.then_ (wa1 _ _), HKP.out.trans (Kp.of (wa1 _ _))⟩
          case measure => simp [intOf]; omega
      · have hf' : (g.b == i) = false := by simpa using hf
        have HG := Lib.hid (show gOf p S i g = [] by unfold gOf; rw [hf']; rfl)
        go_wp2
        go_roundw
        case rel => exact ⟨k + 1, by omega, by go_num, by rw [HT.out, HG.out, List.append_nil]; exact HST.out.then_ (wa1 _ _), HKP.out.trans (Kp.of (wa1 _ _))⟩
        case measure => simp [intOf]; omega
    · obtain rfl : k = p.gu.length := by omega
      have ho : St wr bE bT (ow p S i) := by
        have := HST.out
        rw [List.take_length] at this
        exact this
      have grr := HKP.out.blk GR.out NE.out.2.2.2.2.1.1 NE.out.2.2.2.2.1.2
      have GRR := Lib.hid grr
      have lRr := grr.lt
      have hbw := HBX.out.trans (HKP.out.below NE.out.2.2.2.2.2.1.1 NE.out.2.2.2.2.2.1.2 lw)
      have HBW := Lib.hid hbw
      obtain ⟨r0, r1, fr0, fr1⟩ := grr.two
      have HO := Lib.hid ho
      have lEr := ho.e.lt
      have lTr := ho.t.lt
      obtain ⟨ce, _⟩ := ho.e.one
      obtain ⟨t0, t1, _, _⟩ := ho.t.two
      obtain ⟨o, hoo⟩ : ∃ o, ow p S i = o := ⟨_, rfl⟩
      have HOO := Lib.hid hoo
      have nr := NE.out.2.2.2.2.1
      have nw := NE.out.2.2.2.2.2.2
      rw [hoo] at ce t0 t1
      clear hst hkp grr hbw ho hoo HST
      cases o with
      | none =>
        simp only [stE, stN, stD] at ce t0 t1
        go_upto_region 12 with (fail)
        have nr1 : bE ≠ bR := nr.1.symm
        go_region
        go_wp2
        refine bodyPost_ret (ret_rat rfl rfl ((GRR.out.setT0.setT1).drew)) rfl ⟨?_, ?_⟩
        · rw [HOO.out]; rfl
        · exact Below.drew ((HBW.out.setCell nw _).setCell nw _)
      | some q =>
        simp only [stE, stN, stD] at ce t0 t1
        go_wp2
        refine bodyPost_ret (ret_rat rfl rfl (GRR.out.setT0.setT1)) rfl ⟨?_, ?_⟩
        · rw [HOO.out]; rfl
        · exact (HBW.out.setCell nw _).setCell nw _
end Go.Proofs.Yteoicnhnpailiaa
