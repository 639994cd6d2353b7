/- Contracts of functions and plain laws, joined: Wa3, Wh2, Wh3. -/
import Derived.Test.YtginnonjdbpamaaGreatDoorMb33
import Derived.Test.YtginnonjdbpamaaGreatDoorMb21
import Derived.Test.YtginnonjdbpamaaGreatDoorMb28
/- The walk of validate.Agrees, whole. -/
import Derived.Test.YtginnonjdbpamaaGreatDoorMb1
set_option maxHeartbeats 12800000
set_option maxRecDepth 100000
namespace Go.Proofs.YtginnonjdbpamaaGreatDoor
open Go.RowKit Go.Sort
attribute [local go_sem] Oper.semAt_some
theorem AJ.next {w W : World} {c : Con} {m : Cm} {l : List Int} {A : Option Addr} {cap : Nat} {Av : Option Addr} {capv : Nat} {rows : List (Sta × Qm)} {ba bl bv r0 r1 s10 d11 ca cl j : Nat} (h : AJ w W c m l A cap Av capv rows ba bl bv r0 r1 s10 d11 ca cl j)
  (hf : bl ≠ s10 ∧ bv ≠ s10 ∧ r0 ≠ s10 ∧ r1 ≠ s10 ∧ ca ≠ s10 ∧ cl ≠ s10 ∧ bl ≠ d11 ∧ bv ≠ d11 ∧ r0 ≠ d11 ∧ r1 ≠ d11 ∧ ca ≠ d11 ∧ cl ≠ d11 ∧ w.heap.size ≤ s10 ∧ w.heap.size ≤ d11) (hne : d11 ≠ s10)
  (hg : agL (j + 1) ((rows.map (·.1)).drop (j + 1)) ((reads c c.read0 l).drop (j + 1)) = agL 0 (rows.map (·.1)) (reads c c.read0 l)) (hd : (rdAt c l (j + 1)).day = (rdAt c l j).day) :
  AJ w (W.setCell ⟨s10, 0, none⟩ (.int .i64 ((j : Int) + 1))) c m l A cap Av capv rows ba bl bv r0 r1 s10 d11 ca cl (j + 1) := by
 obtain ⟨n1, n2, n3, n4, n5, n6, n7, n8, n9, n10, n11, n12, n13, n14⟩ := hf
 refine ⟨h.e.setCell (p := ⟨s10, 0, none⟩) n13 _, h.gl.far (p := ⟨s10, 0, none⟩) n1 _, h.gv.far (p := ⟨s10, 0, none⟩) n2 _, h.g0.far (p := ⟨s10, 0, none⟩) n3 _, h.g1.far (p := ⟨s10, 0, none⟩) n4 _, ?_, ?_, h.ca_.far (p := ⟨s10, 0, none⟩) n5 _, h.cl_.far (p := ⟨s10, 0, none⟩) n6 _, hg⟩
 ·have h2 := h.gs.set_ 0 (.int .i64 ((j : Int) + 1))
  simpa using h2
 ·rw [hd]
  exact h.gd.far (p := ⟨s10, 0, none⟩) hne _
theorem AJ.next2 {w W : World} {c : Con} {m : Cm} {l : List Int} {A : Option Addr} {cap : Nat} {Av : Option Addr} {capv : Nat} {rows : List (Sta × Qm)} {ba bl bv r0 r1 s10 d11 ca cl j : Nat} (h : AJ w W c m l A cap Av capv rows ba bl bv r0 r1 s10 d11 ca cl j)
  (hf : bl ≠ s10 ∧ bv ≠ s10 ∧ r0 ≠ s10 ∧ r1 ≠ s10 ∧ ca ≠ s10 ∧ cl ≠ s10 ∧ bl ≠ d11 ∧ bv ≠ d11 ∧ r0 ≠ d11 ∧ r1 ≠ d11 ∧ ca ≠ d11 ∧ cl ≠ d11 ∧ w.heap.size ≤ s10 ∧ w.heap.size ≤ d11) (hne : d11 ≠ s10) (hne2 : s10 ≠ d11)
  (hg : agL (j + 1) ((rows.map (·.1)).drop (j + 1)) ((reads c c.read0 l).drop (j + 1)) = agL 0 (rows.map (·.1)) (reads c c.read0 l)) (hd : (rdAt c l (j + 1)).day = (rdAt c l j).day + 1) :
  AJ w ((W.setCell ⟨d11, 0, none⟩ (.int .i64 ((rdAt c l j).day + 1))).setCell ⟨s10, 0, none⟩ (.int .i64 ((j : Int) + 1))) c m l A cap Av capv rows ba bl bv r0 r1 s10 d11 ca cl (j + 1) := by
 obtain ⟨n1, n2, n3, n4, n5, n6, n7, n8, n9, n10, n11, n12, n13, n14⟩ := hf
 refine ⟨(h.e.setCell (p := ⟨d11, 0, none⟩) n14 _).setCell (p := ⟨s10, 0, none⟩) n13 _, (h.gl.far (p := ⟨d11, 0, none⟩) n7 _).far (p := ⟨s10, 0, none⟩) n1 _, (h.gv.far (p := ⟨d11, 0, none⟩) n8 _).far (p := ⟨s10, 0, none⟩) n2 _, (h.g0.far (p := ⟨d11, 0, none⟩) n9 _).far (p := ⟨s10, 0, none⟩) n3 _, (h.g1.far (p := ⟨d11, 0, none⟩) n10 _).far (p := ⟨s10, 0, none⟩) n4 _, ?_, ?_, (h.ca_.far (p := ⟨d11, 0, none⟩) n11 _).far (p := ⟨s10, 0, none⟩) n5 _, (h.cl_.far (p := ⟨d11, 0, none⟩) n12 _).far (p := ⟨s10, 0, none⟩) n6 _, hg⟩
 ·have h2 := (h.gs.far (p := ⟨d11, 0, none⟩) hne2 (.int .i64 ((rdAt c l j).day + 1))).set_ 0 (.int .i64 ((j : Int) + 1))
  simpa using h2
 ·have h2 := (h.gd.set_ 0 (.int .i64 ((rdAt c l j).day + 1))).far (p := ⟨s10, 0, none⟩) hne (.int .i64 ((j : Int) + 1))
  rw [hd]
  simpa using h2
structure AX (w W : World) (V : Int × Bool) (r0 r1 : Nat) : Prop where
 e : Below w.heap.size w W
 g0 : Blk W r0 3 #[.int .i64 V.1]
 g1 : Blk W r1 4 #[.bool V.2]
theorem AX.leave {w W : World} {V : Int × Bool} {r0 r1 : Nat} (h : AX w W V r0 r1) {a : Act} (h0 : a.tmps.getD 6 undef = .pointer (some ⟨r0, 0, none⟩)) (h1 : a.tmps.getD 7 undef = .pointer (some ⟨r1, 0, none⟩)) :
  LeavesInM Fence.wide 6 Tryz.prog Tryz.f14 a.tmps (fun e w' => e = .returned (.tuple #[.int .i64 V.1, .bool V.2]) ∧ Below w.heap.size w w') [] .returning W :=
 ⟨_, res_ib rfl h0 h1 (h.g0.cell 0) (h.g1.cell 0), rfl, h.e⟩
theorem agr_any (c : Con) (m : Cm) (l : List Int) (A : Option Addr) (cap : Nat) (Av : Option Addr) (capv : Nat) (rows : List (Sta × Qm)) (w : World) (hC : Cont w c m) (hA : Seg w w.heap.size 1 eI A l) (nl : l.length ≤ 1000000) (hS : Stl w Av rows) (_nr : rows.length ≤ 1000000) :
  Calls Tryz.prog 14 #[.agg (coA c m), .slice A l.length cap, .slice Av rows.length capv] w fun e w' => e = .returned (.tuple #[.int .i64 (c.agr l (rows.map (·.1))).1, .bool (c.agr l (rows.map (·.1))).2]) ∧ Below w.heap.size w w' := by
 obtain ⟨V, hV⟩ : ∃ V, c.agr l (rows.map (·.1)) = V := ⟨_, rfl⟩
 rw [hV]
 have HV : Hid (V = if rows.length ≠ l.length + 1 ∨ c.chk l ≠ 0 then (-1, false) else agL 0 (rows.map (·.1)) (reads c c.read0 l)) := by
  unfold Hid; rw [← hV]; unfold Con.agr; rw [List.length_map]
 have HC := Lib.hid hC
 have HA := Lib.hid hA
 have HS := Lib.hid hS
 have HOU := Lib.hid (fun W (hb : Below w.heap.size w W) => outcomes_any c m l A cap W (hC.then_ hb) ((hA.below hb).more hb.size) nl)
 clear hC hA hS hV
 refine (callsIn_wide (n := 6)).1 ?_
 refine callsIn_of_wp_marks Tryz.func14 rfl trivial ?_
 simp only [Tryz.ntmps14, List.size_toArray, List.length_cons, List.length_nil, Nat.reduceAdd, Nat.reduceSub, Array.replicate_succ, Array.replicate_zero, List.push_toArray, List.append_toArray, qzF, qzE]
 refine wpIn_wide.2 ?_
 refine wp_qs ?_
 go_upto_region 1 with (fail)
 refine name_wp ?_
 intro X hX
 have ga : Blk X w.heap.size 27 (coA c m) := by rw [hX]; exact (((((Blk.new _ _ _).alloc _).alloc _).alloc _).alloc _)
 have gl : Blk X (w.heap.size + 1) 22 #[.slice A l.length cap] := by rw [hX]; exact ((((blk_at (by simp)).alloc _).alloc _).alloc _)
 have gv : Blk X (w.heap.size + 1 + 1) 30 #[.slice Av rows.length capv] := by rw [hX]; exact (((blk_at (by simp)).alloc _).alloc _)
 have g0 : Blk X (w.heap.size + 1 + 1 + 1) 3 #[.int .i64 0] := by rw [hX]; exact ((blk_at (by simp)).alloc _)
 have g1 : Blk X (w.heap.size + 1 + 1 + 1 + 1) 4 #[.bool false] := by rw [hX]; exact (blk_at (by simp))
 have HB : Hid (Below w.heap.size w X) := by rw [hX]; unfold Hid; (repeat (first | (with_reducible first | assumption | exact Below.refl _ _ | refine below_drewN ?_ _ | refine Below.drew ?_ | refine below_alloc ?_ _ | refine Below.setCell ?_ (by first | omega | (simp; done) | (simp; omega)) _ | refine below_then ?_ (by assumption)) | (refine below_then (a := World.drew _) ?_ (by with_reducible assumption))))
 obtain ⟨r1, er1⟩ : ∃ b, w.heap.size + 1 + 1 + 1 + 1 = b := ⟨_, rfl⟩
 obtain ⟨r0, er0⟩ : ∃ b, w.heap.size + 1 + 1 + 1 = b := ⟨_, rfl⟩
 obtain ⟨bv, ebv⟩ : ∃ b, w.heap.size + 1 + 1 = b := ⟨_, rfl⟩
 obtain ⟨bl, ebl⟩ : ∃ b, w.heap.size + 1 = b := ⟨_, rfl⟩
 obtain ⟨ba, eba⟩ : ∃ b, w.heap.size = b := ⟨_, rfl⟩
 have lts : Hid (w.heap.size ≤ ba ∧ ba < bl ∧ bl < bv ∧ bv < r0 ∧ r0 < r1) := by unfold Hid; omega
 rw [er1] at g1 ⊢
 rw [er0] at g0 ⊢
 rw [ebv] at gv ⊢
 rw [ebl] at gl ⊢
 rw [eba] at ga ⊢
 have GA := Lib.hid ga
 have GL := Lib.hid gl
 have GV := Lib.hid gv
 have G0 := Lib.hid g0
 have G1 := Lib.hid g1
 clear hX er1 er0 ebv ebl eba ga gl gv g0 g1
 have n01 : r0 ≠ r1 := by have := lts.out; omega
 have n10 : r1 ≠ r0 := by have := lts.out; omega
 have kl : X.cell? ⟨bl, 0, none⟩ = some (.slice A l.length cap) := GL.out.cell 0
 have kv : X.cell? ⟨bv, 0, none⟩ = some (.slice Av rows.length capv) := GV.out.cell 0
 have f0 : X.frozen? ⟨r0, 0, none⟩ = false := G0.out.frozen 0
 have f1 : X.frozen? ⟨r1, 0, none⟩ = false := G1.out.frozen 0
 have c0 : X.cell? ⟨r0, 0, none⟩ = some (.int .i64 0) := G0.out.cell 0
 have c1 : X.cell? ⟨r1, 0, none⟩ = some (.bool false) := G1.out.cell 0
 by_cases e1 : rows.length = l.length + 1
 case neg =>
  have t1 : (((rows.length : Nat) : Int) == ((l.length : Nat) : Int) + 1) = false := beq_eq_false_iff_ne.2 (by omega)
  have t1' : (((rows.length : Nat) : Int) != ((l.length : Nat) : Int) + 1) = true := bne_iff_ne.2 (by omega)
  have hv : Hid (V = (-1, false)) := by unfold Hid; rw [HV.out, if_pos (.inl e1)]
  clear e1
  go_wp2
  refine qs_ret ?_
  rw [hv.out]
  have lt := lts.out
  refine AX.leave (r0 := r0) (r1 := r1) ⟨(HB.out.setCell (p := ⟨r0, 0, none⟩) (by show _ ≤ r0; omega) _).setCell (p := ⟨r1, 0, none⟩) (by show _ ≤ r1; omega) _, ?_, ?_⟩ rfl rfl
  ·exact (G0.out.set_ 0 _).far (p := ⟨r1, 0, none⟩) (by show r0 ≠ r1; omega) _
  ·exact (G1.out.far (p := ⟨r0, 0, none⟩) (by show r1 ≠ r0; omega) _).set_ 0 _
 have t1 : (((rows.length : Nat) : Int) == ((l.length : Nat) : Int) + 1) = true := by simp [e1]
 have t1' : (((rows.length : Nat) : Int) != ((l.length : Nat) : Int) + 1) = false := by simp [e1]
 have HE1 := Lib.hid e1
 clear e1
 have ga := GA.out
 obtain ⟨E, hE⟩ : ∃ E, c.chk l = E := ⟨_, rfl⟩
 have HO := Lib.hid (HOU.out X HB.out)
 rw [hE] at HO HV
 have HE := Lib.hid hE
 clear HOU hE
 go_upto_region 4 with (first | (refine wpList_row_w (by rfl) 27 _ rfl ba rfl 27 _ ga ⟨_, Tryz.underlying27⟩ (by kernel_rfl) ?_; simp only [Act.put, qzG, qzH, qzI]) | (go_at_call 16; (with_reducible refine HO.out.mono ?_); rintro e w1 ⟨⟨Ao, n, co, rfl, hz⟩, hb1⟩; have HZ := Lib.hid hz; clear hz))
 have HB1 := Lib.hid (below_then HB.out hb1)
 have GA1 := Lib.hid (GA.out.then_ hb1)
 have GL1 := Lib.hid (GL.out.then_ hb1)
 have GV1 := Lib.hid (GV.out.then_ hb1)
 have G01 := Lib.hid (G0.out.then_ hb1)
 have G11 := Lib.hid (G1.out.then_ hb1)
 clear t1 t1' kl kv f0 f1 c0 c1 GA GL GV G0 G1 HB hb1 ga HO
 have f0 : w1.frozen? ⟨r0, 0, none⟩ = false := G01.out.frozen 0
 have f1 : w1.frozen? ⟨r1, 0, none⟩ = false := G11.out.frozen 0
 have c0 : w1.cell? ⟨r0, 0, none⟩ = some (.int .i64 0) := G01.out.cell 0
 have c1 : w1.cell? ⟨r1, 0, none⟩ = some (.bool false) := G11.out.cell 0
 by_cases e2 : E = 0
 case neg =>
  have t2 : (E != 0) = true := by simpa using e2
  have t2' : (E == 0) = false := by simpa using e2
  have hv : Hid (V = (-1, false)) := by unfold Hid; rw [HV.out, if_pos (.inr e2)]
  clear e2
  go_wp2
  refine qs_ret ?_
  rw [hv.out]
  have lt := lts.out
  refine AX.leave (r0 := r0) (r1 := r1) ⟨(HB1.out.setCell (p := ⟨r0, 0, none⟩) (by show _ ≤ r0; omega) _).setCell (p := ⟨r1, 0, none⟩) (by show _ ≤ r1; omega) _, ?_, ?_⟩ rfl rfl
  ·exact (G01.out.set_ 0 _).far (p := ⟨r1, 0, none⟩) (by show r0 ≠ r1; omega) _
  ·exact (G11.out.far (p := ⟨r0, 0, none⟩) (by show r1 ≠ r0; omega) _).set_ 0 _
 have t2 : (E != 0) = false := by simpa using e2
 have t2' : (E == 0) = true := by simpa using e2
 have HCK : Hid (c.chk l = 0) := by unfold Hid; rw [HE.out, e2]
 have HV2 : Hid (V = agL 0 (rows.map (·.1)) (reads c c.read0 l)) := by unfold Hid; rw [HV.out, if_neg (by rw [HE1.out, e2]; simp)]
 clear HV HE e2
 go_upto_region 7 with (fail)
 refine name_wp ?_
 intro Y hY
 have gs : Blk Y w1.heap.size 3 #[.int .i64 0] := by rw [hY]; exact (Blk.new _ _ _).alloc _
 have gd : Blk Y (w1.heap.size + 1) 3 #[.int .i64 0] := by rw [hY]; exact blk_at (w := w1.alloc (.cells #[.int .i64 0] 3)) (by simp)
 have hbY : Below w1.heap.size w1 Y := by rw [hY]; (repeat (first | (with_reducible first | assumption | exact Below.refl _ _ | refine below_drewN ?_ _ | refine Below.drew ?_ | refine below_alloc ?_ _ | refine Below.setCell ?_ (by first | omega | (simp; done) | (simp; omega)) _ | refine below_then ?_ (by assumption)) | (refine below_then (a := World.drew _) ?_ (by with_reducible assumption))))
 obtain ⟨d11, ed⟩ : ∃ b, w1.heap.size + 1 = b := ⟨_, rfl⟩
 obtain ⟨s10, es⟩ : ∃ b, w1.heap.size = b := ⟨_, rfl⟩
 have lt2 : Hid (r1 < s10 ∧ s10 < d11) := by have := G11.out.lt; unfold Hid; omega
 rw [ed] at gd ⊢
 rw [es] at gs ⊢
 have HBY := Lib.hid (below_then HB1.out hbY)
 have GAY := Lib.hid (GA1.out.then_ hbY)
 have GLY := Lib.hid (GL1.out.then_ hbY)
 have GVY := Lib.hid (GV1.out.then_ hbY)
 have G0Y := Lib.hid (G01.out.then_ hbY)
 have G1Y := Lib.hid (G11.out.then_ hbY)
 have GSY := Lib.hid gs
 have GDY := Lib.hid gd
 clear hY hbY ed es t2 t2' f0 f1 c0 c1 GA1 GL1 GV1 G01 G11 HB1 gs gd
 have ga := GAY.out
 have kl : Y.cell? ⟨bl, 0, none⟩ = some (.slice A l.length cap) := GLY.out.cell 0
 go_wp2_with (first | (refine wpList_row_w (by rfl) 27 _ rfl ba rfl 27 _ ga ⟨_, Tryz.underlying27⟩ (by kernel_rfl) ?_; simp only [Act.put, qzG, qzH, qzI]) | (go_at_call 30; (with_reducible refine (course_any c m A l.length cap Y).mono ?_); rintro e Z ⟨ca, cl, rfl, gca, gcl, hbZ, lca, lcl⟩))
 have hdayb : ∀ j, j ≤ l.length → 0 ≤ (rdAt c l j).day ∧ (rdAt c l j).day ≤ 1000000 := by
  obtain ⟨_, hl4, hrg⟩ := chk_zero HCK.out
  have key : ∀ j, j ≤ l.length → 0 ≤ (rdAt c l j).day ∧ (rdAt c l j).day ≤ j := by
   intro j
   induction j with
   | zero => intro _; exact ⟨Int.le_refl _, Int.le_refl _⟩
   | succ j ih =>
    intro hj
    obtain ⟨y, hy⟩ : ∃ y, l[j]? = some y := ⟨_, qzJ (by omega)⟩
    have h1 := (step_cnt (c := c) (r := rdAt c l j) (hrg y (qzK hy))).2
    rw [rdAt_succ hy, h1]
    have h2 := ih (by omega)
    split <;> omega
  intro j hj
  have := key j hj
  omega
 have ltc : Hid (d11 < ca ∧ d11 < cl) := by have := GDY.out.lt; unfold Hid; omega
 have HBZ := Lib.hid (below_then HBY.out hbZ)
 have lZ : Hid (ca < Z.heap.size ∧ cl < Z.heap.size) := ⟨gca.lt, gcl.lt⟩
 have hA0 : AJ w Z c m l A cap Av capv rows ba bl bv r0 r1 s10 d11 ca cl 0 :=
  ⟨HBZ.out, GLY.out.then_ hbZ, GVY.out.then_ hbZ, G0Y.out.then_ hbZ, G1Y.out.then_ hbZ, GSY.out.then_ hbZ, GDY.out.then_ hbZ, gca, gcl, rfl⟩
 clear gca gcl hbZ ga kl GAY GLY GVY G0Y G1Y GSY GDY HBY lca lcl
 refine course_range (ca := ca) (cl := cl) (w := w) 31 32 12 13 8 9 _ _ rfl rfl rfl rfl rfl rfl rfl rfl rfl (by simp) (by simp) (by decide) (by decide) HCK.out HC.out HA.out 0 (fun x => x = r0 ∨ x = r1 ∨ x = s10 ∨ x = d11)
  (by have h1 := lts.out; have h2 := lt2.out; have h3 := ltc.out; have h4 := lZ.out; rintro x (rfl | rfl | rfl | rfl) <;> omega)
  (fun j W => AJ w W c m l A cap Av capv rows ba bl bv r0 r1 s10 d11 ca cl j) (fun W => AX w W V r0 r1) ?_ ?_ (fun j W h => ⟨h.ca_, h.cl_⟩) (fun j W h => h.e) HBZ.out.size hA0 ?_ ?_ ?_
 ·intro j W W' h hb
  have h1 := lts.out; have h2 := lt2.out; have h3 := ltc.out; have h4 := lZ.out
  exact h.below hb (by omega) HBZ.out.size
 ·intro W W' h hb
  have h1 := lts.out; have h2 := lt2.out; have h3 := ltc.out; have h4 := lZ.out
  exact ⟨h.e.trans (hb.mono HBZ.out.size), h.g0.below hb (by omega), h.g1.below hb (by omega)⟩
 ·intro lp j W r gh ch go co hj hJ hlW hr hln sh so
  simp only [Act.put, qzG, qzH, qzI]
  have hr2 : r = rdAt c l j := hr
  have k5 : W.cell? ⟨bv, 0, none⟩ = some (.slice Av rows.length capv) := hJ.gv.cell 0
  have ks : W.cell? ⟨s10, 0, none⟩ = some (.int .i64 (j : Nat)) := hJ.gs.cell 0
  have kd : W.cell? ⟨d11, 0, none⟩ = some (.int .i64 r.day) := by rw [hr2]; exact hJ.gd.cell 0
  have hjr : j < rows.length := by have := HE1.out; omega
  obtain ⟨x, hx⟩ : ∃ x, rows[j]? = some x := ⟨_, qzJ hjr⟩
  have hSW := HS.out.then_ hJ.e
  obtain ⟨b0, o0, eA0, hb0, hc0⟩ := segAt hSW.s hx
  have q0 : W.cell? ⟨b0, o0 + j * 4, none⟩ = some (.int .i64 x.1.day) := by simpa using hc0 0 _ rfl
  have q1 : W.cell? ⟨b0, o0 + j * 4 + 1, none⟩ = some (.slice x.2.h x.1.hol.length x.2.hc) := hc0 1 _ rfl
  have q2 : W.cell? ⟨b0, o0 + j * 4 + 2, none⟩ = some (.slice x.2.u x.1.used.length x.2.uc) := hc0 2 _ rfl
  have q3 : W.cell? ⟨b0, o0 + j * 4 + 3, none⟩ = some (.slice x.2.m x.1.marks.length x.2.mc) := hc0 3 _ rfl
  have hix := fun W => idx_at (t := 30) (size := 4) (cap := capv) eA0 hjr (by kernel_rfl) (fun W => by kernel_rfl) W
  obtain ⟨B, hB⟩ : ∃ B, agrR x.1 r = B := ⟨_, rfl⟩
  have HAG : Hid (∀ W', Below W.heap.size W W' → Calls Tryz.prog 31 #[.agg #[.int .i64 x.1.day, .slice x.2.h x.1.hol.length x.2.hc, .slice x.2.u x.1.used.length x.2.uc, .slice x.2.m x.1.marks.length x.2.mc], .int .i64 r.day, .slice (some ⟨gh, 0, none⟩) r.hol.length ch, .slice (some ⟨go, 0, none⟩) r.oc.length co] W' fun e w' => e = .returned (.bool B) ∧ Below W'.heap.size W' w') := fun W' hb => by
   have h1 := agrees_any x.1 x.2 r.day r.hol (r.oc.map (·.1)) (some ⟨gh, 0, none⟩) ch (some ⟨go, 0, none⟩) co W' ((hSW.r x (qzK hx)).then_ hb) ((sh.below hb).more hb.size) ((so.below hb).more hb.size) (by rw [hln.1]; exact HC.out.nh) (by rw [List.length_map, hln.2]; exact HC.out.nk)
   rw [List.length_map] at h1
   rw [← hB]
   exact h1
  have HX := Lib.hid hx
  have HJ := Lib.hid hJ
  have HR2 := Lib.hid hr2
  have HBB := Lib.hid hB
  have hst : Hid (V = if B = true then agL (j + 1) ((rows.map (·.1)).drop (j + 1)) ((reads c c.read0 l).drop (j + 1)) else ((j : Int), false)) := by
   unfold Hid
   have h1 := agL_step (S := rows.map (·.1)) (R := reads c c.read0 l) (j := j) (s := x.1) (r := r) (by rw [List.getElem?_map, hx]; rfl) (by rw [hr2]; exact reads_at c l _ j hj)
   rw [HV2.out, ← hJ.g, h1, hB]
  clear hc0 eA0 hx hJ hSW sh so hr hr2 hB hln
  gi_step
  gi_step
  gi_step
  gi_step
  cases B with
  | false =>
   have rg0 := cR k5
   have rg1 := cR ks
   have rg2 := cR kd
   have rg3 := cR q0
   have rg4 := cR q1
   have rg5 := cR q2
   have rg6 := cR q3
   refine regionIn_qp [5, 6] [0, 1, 2, 3, 4, 7, 8] [] (by kernel_rfl) nO (by kernel_rfl) (by kernel_rfl) pO ?_
   simp only [opsAt, qzA, qzB, qzC, qzD, qzE, qzF]
   repeat (go_big_quiet_step ((go_at_call 31; with_reducible exact qt_call (fun W' hW' => HAG.out W' hW') _ _)))
   refine wpQuiet_nil ?_
   intro U hw2
   have hbU := qt_world hw2
   clear hw2 rg0 rg1 rg2 rg3 rg4 rg5 rg6
   refine wpList_done ?_
   have HJU := Lib.hid (HJ.out.below hbU (by have := HJ.out.gl.lt; have := HJ.out.gv.lt; have := HJ.out.g0.lt; have := HJ.out.g1.lt; have := HJ.out.gs.lt; have := HJ.out.gd.lt; have := HJ.out.ca_.lt; have := HJ.out.cl_.lt; omega) HJ.out.e.size)
   clear k5 ks kd q0 q1 q2 q3
   have f0 : U.frozen? ⟨r0, 0, none⟩ = false := HJU.out.g0.frozen 0
   have f1 : U.frozen? ⟨r1, 0, none⟩ = false := HJU.out.g1.frozen 0
   have c0 : U.cell? ⟨r0, 0, none⟩ = some (.int .i64 0) := HJU.out.g0.cell 0
   have c1 : U.cell? ⟨r1, 0, none⟩ = some (.bool false) := HJU.out.g1.cell 0
   have ks : U.cell? ⟨s10, 0, none⟩ = some (.int .i64 (j : Nat)) := HJU.out.gs.cell 0
   gi_wp2
   have lt := lts.out
   have lt2 := lt2.out
   have hw : w.heap.size ≤ r0 ∧ w.heap.size ≤ r1 := by omega
   refine ⟨((Kept.of_below hbU).setCell (.inl rfl)).setCell (.inr (.inl rfl)), ⟨(HJU.out.e.setCell (p := ⟨r0, 0, none⟩) hw.1 _).setCell (p := ⟨r1, 0, none⟩) hw.2 _, ?_, ?_⟩⟩
   ·rw [hst.out]
    exact (HJU.out.g0.set_ 0 _).far (p := ⟨r1, 0, none⟩) n01 _
   ·rw [hst.out]
    exact (HJU.out.g1.far (p := ⟨r0, 0, none⟩) n10 _).set_ 0 _
  | true =>
   have rg0 := cR k5
   have rg1 := cR ks
   have rg2 := cR kd
   have rg3 := cR q0
   have rg4 := cR q1
   have rg5 := cR q2
   have rg6 := cR q3
   refine regionIn_qp [5, 6] [0, 1, 2, 3, 4, 7, 8] [] (by kernel_rfl) nO (by kernel_rfl) (by kernel_rfl) pO ?_
   simp only [opsAt, qzA, qzB, qzC, qzD, qzE, qzF]
   repeat (go_big_quiet_step ((go_at_call 31; with_reducible exact qt_call (fun W' hW' => HAG.out W' hW') _ _)))
   refine wpQuiet_nil ?_
   intro U hw2
   have hbU := qt_world hw2
   clear hw2 rg0 rg1 rg2 rg3 rg4 rg5 rg6
   refine wpList_done ?_
   have HJU := Lib.hid (HJ.out.below hbU (by have := HJ.out.gl.lt; have := HJ.out.gv.lt; have := HJ.out.g0.lt; have := HJ.out.g1.lt; have := HJ.out.gs.lt; have := HJ.out.gd.lt; have := HJ.out.ca_.lt; have := HJ.out.cl_.lt; omega) HJ.out.e.size)
   clear k5 ks kd q0 q1 q2 q3
   have hgn : Hid (agL (j + 1) ((rows.map (·.1)).drop (j + 1)) ((reads c c.read0 l).drop (j + 1)) = agL 0 (rows.map (·.1)) (reads c c.read0 l)) := by
    unfold Hid
    rw [← HV2.out]
    have h1 := hst.out
    rw [if_pos rfl] at h1
    exact h1.symm
   have nsd : s10 ≠ d11 := by have := lt2.out; omega
   have nds : d11 ≠ s10 := by have := lt2.out; omega
   have hfar : Hid (bl ≠ s10 ∧ bv ≠ s10 ∧ r0 ≠ s10 ∧ r1 ≠ s10 ∧ ca ≠ s10 ∧ cl ≠ s10 ∧ bl ≠ d11 ∧ bv ≠ d11 ∧ r0 ≠ d11 ∧ r1 ≠ d11 ∧ ca ≠ d11 ∧ cl ≠ d11 ∧ w.heap.size ≤ s10 ∧ w.heap.size ≤ d11) := by
    have h1 := lts.out; have h2 := lt2.out; have h3 := ltc.out
    unfold Hid; omega
   have fs : U.frozen? ⟨s10, 0, none⟩ = false := HJU.out.gs.frozen 0
   have fd : U.frozen? ⟨d11, 0, none⟩ = false := HJU.out.gd.frozen 0
   have ks : U.cell? ⟨s10, 0, none⟩ = some (.int .i64 (j : Nat)) := HJU.out.gs.cell 0
   have kd : U.cell? ⟨d11, 0, none⟩ = some (.int .i64 (rdAt c l j).day) := HJU.out.gd.cell 0
   have kl : U.cell? ⟨bl, 0, none⟩ = some (.slice A l.length cap) := HJU.out.gl.cell 0
   have hday : (rdAt c l j).day = r.day := by rw [HR2.out]
   clear HAG hix hst
   by_cases hjl : j < l.length
   case neg =>
    have tj : decide ((j : Int) < (l.length : Int)) = false := decide_eq_false (by omega)
    have hend : Hid (rdAt c l (j + 1) = rdAt c l j) := rdAt_end (by omega)
    gi_wp2
    exact ⟨(Kept.of_below hbU).setCell (.inr (.inr (.inl rfl))), HJU.out.next hfar.out nds hgn.out (by rw [hend.out])⟩
   have tj : decide ((j : Int) < (l.length : Int)) = true := decide_eq_true (by omega)
   obtain ⟨y, hy⟩ : ∃ y, l[j]? = some y := ⟨_, qzJ hjl⟩
   obtain ⟨b1, o1, eA1, hb1, hc1⟩ := segAt ((HA.out.below HJU.out.e).more HJU.out.e.size) hy
   have hiy := fun W => idx_at (t := 22) (size := 1) (cap := cap) eA1 hjl (by kernel_rfl) (fun W => by kernel_rfl) W
   have dy : U.cell? ⟨b1, o1 + j, none⟩ = some (.int .i64 y) := by simpa using hc1 0 _ rfl
   simp only [Nat.mul_one] at hiy
   have hstp := step_cnt (c := c) (r := rdAt c l j) ((chk_zero HCK.out).2.2 y (qzK hy))
   rw [← rdAt_succ hy] at hstp
   have HST := Lib.hid hstp.2
   have hdb : Hid (0 ≤ (rdAt c l j).day ∧ (rdAt c l j).day ≤ 1000000) := hdayb j hj
   have hdb2 := hdb.out
   clear hc1 eA1 hy hstp
   cases ty : (y == -1) with
   | true =>
    have hnd : Hid ((rdAt c l (j + 1)).day = (rdAt c l j).day + 1) := by unfold Hid; rw [HST.out, if_pos (by simpa using ty)]
    obtain ⟨dd, hdd⟩ : ∃ d, (rdAt c l j).day = d := ⟨_, rfl⟩
    have HDD := Lib.hid hdd
    rw [hdd] at kd hdb2
    clear hdd hday
    gi_wp2
    have := HJU.out.next2 hfar.out nds nsd hgn.out hnd.out
    rw [HDD.out] at this
    exact ⟨((Kept.of_below hbU).setCell (.inr (.inr (.inr rfl)))).setCell (.inr (.inr (.inl rfl))), this⟩
   | false =>
    have hnd : Hid ((rdAt c l (j + 1)).day = (rdAt c l j).day) := by unfold Hid; rw [HST.out, if_neg (by simpa using ty)]
    clear hday
    gi_wp2
    exact ⟨(Kept.of_below hbU).setCell (.inr (.inr (.inl rfl))), HJU.out.next hfar.out nds hgn.out hnd.out⟩
 ·intro D W hD hJ hK
  have hv : Hid (V = (-1, true)) := by
   unfold Hid
   rw [HV2.out, ← hJ.g, agL_over (by rw [List.length_map]; have := HE1.out; omega)]
  have f0 : W.frozen? ⟨r0, 0, none⟩ = false := hJ.g0.frozen 0
  have f1 : W.frozen? ⟨r1, 0, none⟩ = false := hJ.g1.frozen 0
  have c0 : W.cell? ⟨r0, 0, none⟩ = some (.int .i64 0) := hJ.g0.cell 0
  have c1 : W.cell? ⟨r1, 0, none⟩ = some (.bool false) := hJ.g1.cell 0
  have HJ := Lib.hid hJ
  have HK := Lib.hid hK
  clear hJ hK
  go_wp2
  have hw : w.heap.size ≤ r0 ∧ w.heap.size ≤ r1 := by have := lts.out; omega
  have hnD : r0 ≠ D ∧ r1 ≠ D ∧ w.heap.size ≤ D := by have := lts.out; have := lt2.out; have := ltc.out; have := lZ.out; omega
  have uD : Upd ((W.setCell ⟨r0, 0, none⟩ (.int .i64 (-1))).setCell ⟨r1, 0, none⟩ (.bool true)) (((W.setCell ⟨r0, 0, none⟩ (.int .i64 (-1))).setCell ⟨r1, 0, none⟩ (.bool true)).putObj D (.deferred none)) D := Upd.putObj _ (by rw [World.size_setCell, World.size_setCell]; exact (Array.getElem?_eq_some_iff.1 HK.out).1)
  refine qs_ret (leaveD ?_ ?_)
  ·have h1 := (((Upd.refl W r0).setCell 0 (.int .i64 (-1))).f D hnD.1.symm).trans HK.out
   exact (((Upd.refl _ r1).setCell 0 (.bool true)).f D hnD.2.1.symm).trans h1
  ·rw [hv.out]
   refine AX.leave (r0 := r0) (r1 := r1) ⟨((HJ.out.e.setCell (p := ⟨r0, 0, none⟩) hw.1 _).setCell (p := ⟨r1, 0, none⟩) hw.2 _).trans (uD.b _ hnD.2.2), ?_, ?_⟩ rfl rfl
   ·exact ((HJ.out.g0.set_ 0 _).far (p := ⟨r1, 0, none⟩) n01 _).upd uD hnD.1
   ·exact ((HJ.out.g1.far (p := ⟨r0, 0, none⟩) n10 _).set_ 0 _).upd uD hnD.2.1
 ·intro D W hD hX hK
  have HX := Lib.hid hX
  have HK := Lib.hid hK
  clear hX hK
  go_wp2
  have hnD : r0 ≠ D ∧ r1 ≠ D ∧ w.heap.size ≤ D := by have := lts.out; have := lt2.out; have := ltc.out; have := lZ.out; omega
  have uD : Upd W (W.putObj D (.deferred none)) D := Upd.putObj _ (Array.getElem?_eq_some_iff.1 HK.out).1
  refine qs_ret (leaveD HK.out ?_)
  exact AX.leave (r0 := r0) (r1 := r1) ⟨HX.out.e.trans (uD.b _ hnD.2.2), HX.out.g0.upd uD hnD.1, HX.out.g1.upd uD hnD.2.1⟩ rfl rfl
end Go.Proofs.YtginnonjdbpamaaGreatDoor
/- The examples of head: what the functions compute at them. -/
namespace Go.Proofs.YtginnonjdbpamaaGreatDoor
open Go.RowKit
def sX0 : Sta := ⟨0, [0, 1], [false, false], [⟨1, 2, 0, 0, false⟩, ⟨0, 0, 0, -1, false⟩]⟩
def sX1 : Sta := ⟨1, [0, 1], [false, false], [⟨1, 1, 0, 0, false⟩, ⟨0, 0, 0, -1, false⟩]⟩
def sX2 : Sta := ⟨1, [0, 1], [false, false], [⟨3, 0, 1, 0, false⟩, ⟨1, 3, 0, 1, false⟩]⟩
theorem hx1 : Con.ex.runE [-1, 0] = 0 := by kernel_rfl
theorem hx2 : Con.ex.runS [-1, 0] = [sX0, sX1, sX2] := by kernel_rfl
theorem hx3 : Con.ex.runE [2] = 1 := by kernel_rfl
theorem hx4 : Con.ex.agr [-1, 0] [sX0, sX1, sX2] = (-1, true) := by kernel_rfl
theorem hx5 : Con.ex.agr [-1, 0] [sX0, { sX1 with day := 0 }, sX2] = (1, false) := by kernel_rfl
theorem hx6 : decV [48, 59, 59, 59] = some ⟨0, [], [], []⟩ := by kernel_rfl
theorem hx7 : decV [48, 48, 59, 59, 59] = none := by kernel_rfl
theorem hx8 : sX0.text = [48, 59, 48, 44, 49, 44, 59, 48, 48, 59, 49, 46, 50, 46, 48, 46, 48, 44, 48, 46, 48, 46, 48, 46, 45, 49, 44] := by kernel_rfl
end Go.Proofs.YtginnonjdbpamaaGreatDoor
/- The walk of head. -/
namespace Go.Proofs.YtginnonjdbpamaaGreatDoor
open Go.RowKit Go.Sort
theorem Rws.stl {B : Nat} {w : World} {g n cap : Nat} {rows : List (Sta × Qm)} (h : Rws B w (.slice (some ⟨g, 0, none⟩) n cap) rows) : Stl w (some ⟨g, 0, none⟩) rows ∧ n = rows.length ∧ rows.length ≤ cap := by
 obtain ⟨h1, h2, h3⟩ := Own.seg_ eQ_len h.o
 exact ⟨⟨h1, fun x hx => (h.r x hx).m⟩, h2.symm, by omega⟩
theorem rows3 {rows : List (Sta × Qm)} {a b c : Sta} (h : rows.map (·.1) = [a, b, c]) : ∃ q0 q1 q2, rows = [(a, q0), (b, q1), (c, q2)] := by
 match rows, h with
 | [x, y, z], h =>
  simp only [List.map_cons, List.map_nil, List.cons.injEq, and_true] at h
  obtain ⟨rfl, rfl, rfl⟩ := h
  exact ⟨x.2, y.2, z.2, rfl⟩
theorem own_sl {α : Type} {w : World} {B : Nat} {T : TypeId} {size : Nat} {enc : α → List Value} {v : Value} {xs : List α} (h : Own w B T size enc v xs) (hn : 0 < xs.length) : ∃ g cap, v = .slice (some ⟨g, 0, none⟩) xs.length cap := by
 rcases h.2 with ⟨_, h0⟩ | ⟨g, cap, cur, hv, _⟩
 ·omega
 ·exact ⟨g, cap, hv⟩
theorem runX (m : Cm) (g c : Nat) (W : World) (hC : Cont W Con.ex m) (hA : Blk W g 3 #[.int .i64 (-1), .int .i64 0]) :
  Calls Tryz.prog 13 #[.agg (coA Con.ex m), .slice (some ⟨g, 0, none⟩) 2 c] W fun e w' => (∃ gs cap q0 q1 q2, e = .returned (.tuple #[.slice (some ⟨gs, 0, none⟩) 3 cap, .int .i64 0]) ∧ Rws W.heap.size w' (.slice (some ⟨gs, 0, none⟩) 3 cap) [(sX0, q0), (sX1, q1), (sX2, q2)]) ∧ Below W.heap.size W w' := by
 have hs : Seg W W.heap.size 1 eI (some ⟨g, 0, none⟩) [-1, 0] := blk_seg (xs := [-1, 0]) eI_len hA
 refine (run_any Con.ex m [-1, 0] (some ⟨g, 0, none⟩) c W hC hs (by simp)).mono ?_
 rintro e w' ⟨⟨v, rows, rfl, hr, hR, _⟩, hb⟩
 rw [hx2] at hr
 obtain ⟨q0, q1, q2, rfl⟩ := rows3 hr
 obtain ⟨gs, cap, rfl⟩ := own_sl hR.o (by simp)
 rw [hx1]
 exact ⟨⟨gs, cap, q0, q1, q2, rfl, hR⟩, hb⟩
theorem runY (m : Cm) (g c : Nat) (W : World) (hC : Cont W Con.ex m) (hA : Blk W g 3 #[.int .i64 2]) :
  Calls Tryz.prog 13 #[.agg (coA Con.ex m), .slice (some ⟨g, 0, none⟩) 1 c] W fun e w' => (∃ v, e = .returned (.tuple #[v, .int .i64 1])) ∧ Below W.heap.size W w' := by
 have hs : Seg W W.heap.size 1 eI (some ⟨g, 0, none⟩) [2] := blk_seg (xs := [2]) eI_len hA
 refine (run_any Con.ex m [2] (some ⟨g, 0, none⟩) c W hC hs (by simp)).mono ?_
 rintro e w' ⟨⟨v, rows, rfl, hr, hR, _⟩, hb⟩
 rw [hx3]
 exact ⟨⟨v, rfl⟩, hb⟩
theorem agrX (m : Cm) (g c gs cap : Nat) (a0 a1 a2 : Sta) (q0 q1 q2 : Qm) (V : Int × Bool) (W : World) (hC : Cont W Con.ex m) (hA : Blk W g 3 #[.int .i64 (-1), .int .i64 0]) (hS : Stl W (some ⟨gs, 0, none⟩) [(a0, q0), (a1, q1), (a2, q2)]) (hV : Con.ex.agr [-1, 0] [a0, a1, a2] = V) :
  Calls Tryz.prog 14 #[.agg (coA Con.ex m), .slice (some ⟨g, 0, none⟩) 2 c, .slice (some ⟨gs, 0, none⟩) 3 cap] W fun e w' => e = .returned (.tuple #[.int .i64 V.1, .bool V.2]) ∧ Below W.heap.size W w' := by
 have hs : Seg W W.heap.size 1 eI (some ⟨g, 0, none⟩) [-1, 0] := blk_seg (xs := [-1, 0]) eI_len hA
 rw [← hV]
 exact agr_any Con.ex m [-1, 0] (some ⟨g, 0, none⟩) c (some ⟨gs, 0, none⟩) cap [(a0, q0), (a1, q1), (a2, q2)] W hC hs (by simp) hS (by simp)
theorem decX (W : World) (hL : Lw W) : Calls Tryz.prog 19 #[.string ⟨#[48, 59, 59, 59]⟩] W fun e w' => (∃ q, e = .returned (.tuple #[.agg (stA ⟨0, [], [], []⟩ q), .int .i64 0])) ∧ Below W.heap.size W w' := by
 refine (decode_any [48, 59, 59, 59] W hL (by simp)).mono ?_
 rintro e w' ⟨⟨q, rfl, _⟩, hb⟩
 refine ⟨⟨q, ?_⟩, hb⟩
 unfold decS decE
 rw [hx6]
 rfl
theorem decY (W : World) (hL : Lw W) : Calls Tryz.prog 19 #[.string ⟨#[48, 48, 59, 59, 59]⟩] W fun e w' => (∃ q, e = .returned (.tuple #[.agg (stA ⟨0, [], [], []⟩ q), .int .i64 20])) ∧ Below W.heap.size W w' := by
 refine (decode_any [48, 48, 59, 59, 59] W hL (by simp)).mono ?_
 rintro e w' ⟨⟨q, rfl, _⟩, hb⟩
 refine ⟨⟨q, ?_⟩, hb⟩
 unfold decS decE
 rw [hx7]
 rfl
theorem sX0_I : sX0.I64 := ⟨⟨by decide, by decide⟩, by
 intro h hh
 simp only [sX0, List.mem_cons, List.not_mem_nil, or_false] at hh
 rcases hh with rfl | rfl <;> exact ⟨by decide, by decide⟩, by
 intro m hm
 simp only [sX0, List.mem_cons, List.not_mem_nil, or_false] at hm
 rcases hm with rfl | rfl <;> exact ⟨⟨by decide, by decide⟩, ⟨by decide, by decide⟩, ⟨by decide, by decide⟩, ⟨by decide, by decide⟩⟩⟩
theorem encX (q : Qm) (W : World) (hL : Lw W) (hS : Stm W sX0 q) : Calls Tryz.prog 21 #[.agg #[.int .i64 0, .slice q.h 2 q.hc, .slice q.u 2 q.uc, .slice q.m 2 q.mc]] W fun e w' => e = .returned (.string (tBy [48, 59, 48, 44, 49, 44, 59, 48, 48, 59, 49, 46, 50, 46, 48, 46, 48, 44, 48, 46, 48, 46, 48, 46, 45, 49, 44])) ∧ Below W.heap.size W w' := by
 have := encode_any sX0 q W (Lib.tabBelow_of_tabIs hL.tab) hS sX0_I (by simp [sX0]) (by simp [sX0]) (by simp [sX0])
 rw [hx8] at this
 exact this
theorem txtX : ((tBy [48, 59, 48, 44, 49, 44, 59, 48, 48, 59, 49, 46, 50, 46, 48, 46, 48, 44, 48, 46, 48, 46, 48, 46, 45, 49, 44]).toList == [48, 59, 48, 44, 49, 44, 59, 48, 48, 59, 49, 46, 50, 46, 48, 46, 48, 44, 48, 46, 48, 46, 48, 46, 45, 49, 44]) = true := by rw [ByteArray.toList_eq]; rfl
theorem head_any (w : World) (hL : Lw w) : Calls Tryz.prog 11 #[] w fun e w' => e = .returned (.bool true) ∧ Below w.heap.size w w' := by
 have HL := Lib.hid hL
 clear hL
 go_enter Tryz.func11, Tryz.ntmps11
 go_upto_region 2 with (first | (go_at_call 29; (with_reducible refine (example_any _).mono ?_); rintro e wC ⟨⟨m, rfl, hC⟩, hbC⟩) | (refine wpList_store_all rfl 27 _ _ rfl wC.heap.size 27 [] coZ0.toList [] (coA Con.ex m).toList rfl rfl (Blk.new _ _ _) rfl (by kernel_rfl) (by simp [Value.oneCell']) ?_; intro V gV uV))
 have hbV : Below wC.heap.size wC V := (wa1 _ _).trans (uV.b _ (Nat.le_refl _))
 have HB := Lib.hid (below_then hbC hbV)
 have HC := Lib.hid (hC.then_ hbV)
 have gV : Blk V wC.heap.size 27 (coA Con.ex m) := gV
 obtain ⟨bC, eC⟩ : ∃ b, wC.heap.size = b := ⟨_, rfl⟩
 rw [eC] at gV ⊢
 clear eC hbC hbV hC uV
 go_upto_region 3 with (fail)
 refine name_wp ?_
 intro X hX
 have gL : Blk X V.heap.size 3 #[.int .i64 (-1), .int .i64 0] := by rw [hX]; exact Blk.new _ _ _
 have hbX : Below V.heap.size V X := by rw [hX]; exact wa1 _ _
 have gX := gV.then_ hbX
 have HBX := Lib.hid (below_then HB.out hbX)
 have HCX := Lib.hid (HC.out.then_ hbX)
 obtain ⟨bL, eL⟩ : ∃ b, V.heap.size = b := ⟨_, rfl⟩
 rw [eL] at gL ⊢
 clear hX eL hbX gV HB HC
 go_upto_region 4 with (first | (refine wpList_row_w (by rfl) 27 _ rfl bC rfl 27 _ gX ⟨_, Tryz.underlying27⟩ (by kernel_rfl) ?_; simp only [Act.put, qzG, qzH, qzI]) | (go_at_call 13; (with_reducible refine (runX m bL 2 X HCX.out gL).mono ?_); rintro e w1 ⟨⟨gs, cap, q0, q1, q2, rfl, hR⟩, hb1⟩))
 have HR1 := Lib.hid hR
 have HB1 := Lib.hid (below_then HBX.out hb1)
 have HC1 := Lib.hid (HCX.out.then_ hb1)
 have gC1 := gX.then_ hb1
 have gL1 := Lib.hid (gL.then_ hb1)
 clear hR hb1 gX gL HBX HCX
 have gC1a := gC1.alloc (.cells #[.int .i64 2] 3)
 have HRY := Lib.hid (runY m w1.heap.size 1 (w1.alloc (.cells #[.int .i64 2] 3)) (HC1.out.then_ (wa1 _ _)) (Blk.new w1 3 #[.int .i64 2]))
 go_upto_region 5 with (first | (refine wpList_row_w (by rfl) 27 _ rfl bC rfl 27 _ gC1 ⟨_, Tryz.underlying27⟩ (by kernel_rfl) ?_; simp only [Act.put, qzG, qzH, qzI]) | (go_at_call 13; (with_reducible refine HRY.out.mono ?_); rintro e w2 ⟨⟨v2, rfl⟩, hb2'⟩))
 have hb2 : Below w1.heap.size w1 w2 := (wa1 _ _).trans (hb2'.mono (by simp))
 have HR2 := Lib.hid (HR1.out.then_ hb2)
 have HB2 := Lib.hid (below_then HB1.out hb2)
 have HC2 := Lib.hid (HC1.out.then_ hb2)
 have gC2 := gC1.then_ hb2
 have gL2 := Lib.hid (gL1.out.then_ hb2)
 clear hb2 hb2' HR1 HB1 HC1 gC1 gL1 gC1a HRY
 have HAG := Lib.hid (agrX m bL 2 gs cap sX0 sX1 sX2 q0 q1 q2 (-1, true) w2 HC2.out gL2.out HR2.out.stl.1 hx4)
 go_upto_region 6 with (first | (refine wpList_row_w (by rfl) 27 _ rfl bC rfl 27 _ gC2 ⟨_, Tryz.underlying27⟩ (by kernel_rfl) ?_; simp only [Act.put, qzG, qzH, qzI]) | (go_at_call 14; (with_reducible refine HAG.out.mono ?_); rintro e w3 ⟨rfl, hb3⟩))
 have HR3 := Lib.hid (HR2.out.then_ hb3)
 have HB3 := Lib.hid (below_then HB2.out hb3)
 have HC3 := Lib.hid (HC2.out.then_ hb3)
 have gC3 := gC2.then_ hb3
 have gL3 := Lib.hid (gL2.out.then_ hb3)
 clear hb3 HR2 HB2 HC2 gC2 gL2 HAG
 have HD1 := Lib.hid (decX w3 (HL.out.below HB3.out))
 go_upto_region 7 with (first | (go_at_call 19; (with_reducible refine HD1.out.mono ?_); rintro e w4 ⟨⟨qd, rfl⟩, hb4⟩) | (refine wpList_store_all rfl 43 _ _ rfl w4.heap.size 43 [] zS.toList [] (stA ⟨0, [], [], []⟩ qd).toList rfl rfl (Blk.new _ _ _) rfl (by kernel_rfl) (by simp [Value.oneCell']) ?_; intro w5 g5 u5))
 have hb5 : Below w3.heap.size w3 w5 := below_then hb4 ((wa1 _ _).trans (u5.b _ (Nat.le_refl _)))
 have g9 : Blk w5 w4.heap.size 43 (stA ⟨0, [], [], []⟩ qd) := g5
 obtain ⟨b9, e9⟩ : ∃ b, w4.heap.size = b := ⟨_, rfl⟩
 rw [e9] at g9 ⊢
 have HR5 := Lib.hid (HR3.out.then_ hb5)
 have HB5 := Lib.hid (below_then HB3.out hb5)
 have HC5 := Lib.hid (HC3.out.then_ hb5)
 have gC5 := gC3.then_ hb5
 have gL5 := Lib.hid (gL3.out.then_ hb5)
 clear hb5 hb4 g5 u5 e9 HR3 HB3 HC3 gC3 gL3 HD1
 have HD2 := Lib.hid (decY w5 (HL.out.below HB5.out))
 go_upto_region 8 with (first | (go_at_call 19; (with_reducible refine HD2.out.mono ?_); rintro e w6 ⟨⟨qe, rfl⟩, hb6⟩) | (refine wpList_store_all rfl 43 _ _ rfl w6.heap.size 43 [] zS.toList [] (stA ⟨0, [], [], []⟩ qe).toList rfl rfl (Blk.new _ _ _) rfl (by kernel_rfl) (by simp [Value.oneCell']) ?_; intro w7 g7 u7))
 have hb7 : Below w5.heap.size w5 w7 := below_then hb6 ((wa1 _ _).trans (u7.b _ (Nat.le_refl _)))
 have g97 := g9.then_ hb7
 have HR7 := Lib.hid (HR5.out.then_ hb7)
 have HB7 := Lib.hid (below_then HB5.out hb7)
 have HC7 := Lib.hid (HC5.out.then_ hb7)
 have gC7 := gC5.then_ hb7
 have gL7 := Lib.hid (gL5.out.then_ hb7)
 clear hb7 hb6 g7 u7 HR5 HB5 HC5 gC5 gL5 HD2 g9
 obtain ⟨ri, hi, hz0, hz1, hz2⟩ := info_parts (show (Tryz.prog.info? 43).map (fun i => (i.zero, i.size, i.bytes)) = some (some (.agg #[.int .i64 0, .slice none 0 0, .slice none 0 0, .slice none 0 0]), 4, 80) by kernel_rfl)
 go_upto_region 11 with (at_builtin; go_loud (refine wpList_copy rfl (.tmp 49) (.tmp 50) _ rfl w7.heap.size 43 ri _ 4 80 Tryz.underlying30 hi hz0 hz1 hz2 rfl (by omega) (by omega) eQ eQ_len one_sta w7.heap.size rfl (Blk.new _ _ _) (Nat.le_refl _) (some ⟨gs, 0, none⟩) [(sX0, q0), (sX1, q1), (sX2, q2)] cap 3 rfl rfl (by simp) w7.heap.size (HR7.out.stl.1.s.below (wa1 _ _)) (fun h => by cases h) ?_); intro gt ct w8 hown hgrow hg)
 have hb8 : Below w7.heap.size w7 w8 := (wa1 _ _).trans hgrow
 obtain ⟨cz, fz⟩ := hown.getAt eQ_len rfl (k := 1) (j := 0) (x := (sX1, q1)) rfl (by decide)
 have cz : w8.cell? ⟨gt, 4, none⟩ = some (.int .i64 1) := cz
 have fz : w8.frozen? ⟨gt, 4, none⟩ = false := fz
 have hi1 : ∀ W : World, (Instr.indexAt 30 (.slice (some ⟨gt, 0, none⟩) 3 ct) (.int .i64 1)).run Tryz.prog W = .ok (.pointer (some ⟨gt, 4, none⟩)) W := fun W => idx_own (t := 30) (size := 4) (g := gt) (n := 3) (cap := ct) (i := 1) (by decide) (by kernel_rfl) (fun W => by kernel_rfl) W
 go_upto_region 12 with (fail)
 refine name_wp ?_
 intro U hU
 have hown2 : Own U w7.heap.size 43 4 eQ (.slice (some ⟨gt, 0, none⟩) 3 ct) [(sX0, q0), ({ sX1 with day := 0 }, q1), (sX2, q2)] := by
  have h1 := hown.setAt eQ_len rfl (k := 1) (j := 0) (x := (sX1, q1)) (y := ({ sX1 with day := 0 }, q1)) (u := .int .i64 0) rfl (by decide) rfl
  rw [hU]
  exact h1
 have hbU : Below w7.heap.size w7 U := by rw [hU]; exact hb8.setCell (p := ⟨gt, 4, none⟩) hg.1 _
 have hS1 : Stl U (some ⟨gt, 0, none⟩) [(sX0, q0), ({ sX1 with day := 0 }, q1), (sX2, q2)] := by
  have hr := fun x hx => ((HR7.out.then_ hbU).r x hx).m
  refine ⟨(Own.seg_ eQ_len hown2).1, fun x hx => ?_⟩
  simp only [List.mem_cons, List.not_mem_nil, or_false] at hx
  rcases hx with rfl | rfl | rfl
  ·exact hr (sX0, q0) (by simp)
  ·have h2 := hr (sX1, q1) (by simp)
   exact ⟨h2.h, h2.u, h2.m, h2.nh, h2.nu, h2.nm, h2.ch, h2.cu, h2.cm⟩
  ·exact hr (sX2, q2) (by simp)
 have HRU := Lib.hid (HR7.out.then_ hbU)
 have HBU := Lib.hid (below_then HB7.out hbU)
 have gCU := gC7.then_ hbU
 have gLU := Lib.hid (gL7.out.then_ hbU)
 have g9U := g97.then_ hbU
 have HAG := Lib.hid (agrX m bL 2 gt ct sX0 { sX1 with day := 0 } sX2 q0 q1 q2 (1, false) U (HC7.out.then_ hbU) gLU.out hS1 hx5)
 clear hU hown hown2 hgrow hg hb8 cz fz hi1 hS1 hbU HR7 HB7 HC7 gC7 gL7 g97 hi hz0 hz1 hz2
 go_upto_region 13 with (first | (refine wpList_row_w (by rfl) 27 _ rfl bC rfl 27 _ gCU ⟨_, Tryz.underlying27⟩ (by kernel_rfl) ?_; simp only [Act.put, qzG, qzH, qzI]) | (go_at_call 14; (with_reducible refine HAG.out.mono ?_); rintro e w9 ⟨rfl, hb9⟩))
 have HR9 := HRU.out.then_ hb9
 have HB9 := Lib.hid (below_then HBU.out hb9)
 have g99 := g9U.then_ hb9
 have z0 : w9.cell? ⟨b9, 0, none⟩ = some (.int .i64 0) := g99.cell 0
 have z3 : w9.cell? ⟨b9, 3, none⟩ = some (.slice qd.m 0 qd.mc) := g99.cell 3
 have x00 : w9.cell? ⟨gs, 0, none⟩ = some (.int .i64 0) := (HR9.o.getAt eQ_len rfl (k := 0) (j := 0) (x := (sX0, q0)) rfl (by decide)).1
 have x01 : w9.cell? ⟨gs, 1, none⟩ = some (.slice q0.h 2 q0.hc) := (HR9.o.getAt eQ_len rfl (k := 0) (j := 1) (x := (sX0, q0)) rfl (by decide)).1
 have x02 : w9.cell? ⟨gs, 2, none⟩ = some (.slice q0.u 2 q0.uc) := (HR9.o.getAt eQ_len rfl (k := 0) (j := 2) (x := (sX0, q0)) rfl (by decide)).1
 have x03 : w9.cell? ⟨gs, 3, none⟩ = some (.slice q0.m 2 q0.mc) := (HR9.o.getAt eQ_len rfl (k := 0) (j := 3) (x := (sX0, q0)) rfl (by decide)).1
 have HEN := Lib.hid (encX q0 w9 (HL.out.below HB9.out) (HR9.r (sX0, q0) (by simp)).m)
 have HR := Lib.hid HR9
 clear hb9 HRU HBU gCU gLU g9U HAG g99 HR9
 have hj0 : ∀ W : World, (Instr.indexAt 30 (.slice (some ⟨gs, 0, none⟩) 3 cap) (.int .i64 0)).run Tryz.prog W = .ok (.pointer (some ⟨gs, 0, none⟩)) W := fun W => idx_own (t := 30) (size := 4) (g := gs) (n := 3) (cap := cap) (i := 0) (by decide) (by kernel_rfl) (fun W => by kernel_rfl) W
 have hj2 : ∀ W : World, (Instr.indexAt 30 (.slice (some ⟨gs, 0, none⟩) 3 cap) (.int .i64 2)).run Tryz.prog W = .ok (.pointer (some ⟨gs, 8, none⟩)) W := fun W => idx_own (t := 30) (size := 4) (g := gs) (n := 3) (cap := cap) (i := 2) (by decide) (by kernel_rfl) (fun W => by kernel_rfl) W
 have htx := txtX
 go_wp2_with (fail)
 go_at_call 21
 with_reducible refine HEN.out.mono ?_
 rintro e wE ⟨rfl, hbE⟩
 have HRE := HR.out.then_ hbE
 have y3 : wE.cell? ⟨gs, 11, none⟩ = some (.slice q2.m 2 q2.mc) := (HRE.o.getAt eQ_len rfl (k := 2) (j := 3) (x := (sX2, q2)) rfl (by decide)).1
 have hm : Seg wE wE.heap.size 5 eM q2.m [⟨3, 0, 1, 0, false⟩, ⟨1, 3, 0, 1, false⟩] := (HRE.r (sX2, q2) (by simp)).m.m
 obtain ⟨bm, om, em, _, hm0⟩ := segAt hm (k := 0) (x := ⟨3, 0, 1, 0, false⟩) rfl
 obtain ⟨bm', om', em', _, hm1⟩ := segAt hm (k := 1) (x := ⟨1, 3, 0, 1, false⟩) rfl
 have k0 : ∀ W : World, (Instr.indexAt 41 (.slice q2.m 2 q2.mc) (.int .i64 0)).run Tryz.prog W = .ok (.pointer (some ⟨bm, om, none⟩)) W := fun W => idx_at (t := 41) (size := 5) (cap := q2.mc) (len := 2) (k := 0) em (by decide) (by kernel_rfl) (fun W => by kernel_rfl) W
 have k1 : ∀ W : World, (Instr.indexAt 41 (.slice q2.m 2 q2.mc) (.int .i64 1)).run Tryz.prog W = .ok (.pointer (some ⟨bm', om' + 5, none⟩)) W := fun W => idx_at (t := 41) (size := 5) (cap := q2.mc) (len := 2) (k := 1) em' (by decide) (by kernel_rfl) (fun W => by kernel_rfl) W
 have n0 : wE.cell? ⟨bm, om, none⟩ = some (.int .i64 3) := by simpa using hm0 0 _ rfl
 have n1 : wE.cell? ⟨bm', om' + 5, none⟩ = some (.int .i64 1) := by simpa using hm1 0 _ rfl
 have n2 : wE.cell? ⟨bm', om' + 5 + 1, none⟩ = some (.int .i64 3) := by simpa using hm1 1 _ rfl
 clear hm0 hm1 em em' HRE hm
 go_wp2
 go_ret
 exact ⟨rfl, below_then HB9.out hbE⟩
end Go.Proofs.YtginnonjdbpamaaGreatDoor
