/- Contracts of functions and plain laws, joined: Wh3, Wf1. -/
import Derived.Test.YtginnonjdbpamaaGreatDoorMc33
/- The walk of head. -/
import Derived.Test.YtginnonjdbpamaaGreatDoorMc1
set_option maxHeartbeats 12800000
set_option maxRecDepth 100000
namespace Go.Proofs.YtginnonjdbpamaaGreatDoor
open Go.RowKit Go.Sort
theorem Rws.stl {B : Nat} {w : World} {g n cap : Nat} {rows : List (Sta × Qm)} (h : Rws B w (.slice (some ⟨g, 0, none⟩) n cap) rows) : Stl w (some ⟨g, 0, none⟩) rows ∧ n = rows.length ∧ rows.length ≤ cap := by
 obtain ⟨h1, h2, h3⟩ := Own.seg_ xC6 h.o
 exact ⟨⟨h1, fun x hx => (h.r x hx).m⟩, h2.symm, by omega⟩
theorem rows3 {rows : List (Sta × Qm)} {a b c : Sta} (h : rows.map (·.1) = [a, b, c]) : ∃ q0 q1 q2, rows = [(a, q0), (b, q1), (c, q2)] := by
 match rows, h with
 | [x, y, z], h =>
  simp only [List.map_cons, List.map_nil, List.cons.injEq, and_true] at h
  obtain ⟨rfl, rfl, rfl⟩ := h
  exact ⟨x.2, y.2, z.2, rfl⟩
theorem own_sl {α : Type} {w : World} {B : Nat} {T : TypeId} {size : Nat} {enc : α → List Value} {v : Value} {xs : List α} (h : Own w B T size enc v xs) (hn : 0 < xs.length) : ∃ g cap, v = .slice (some ⟨g, 0, none⟩) xs.length cap := by
 rcases h.2 with ⟨_, h0⟩ | ⟨g, cap, cur, hv, _⟩
 ·omega
 ·exact ⟨g, cap, hv⟩
theorem runX (m : Cm) (g c : Nat) (W : World) (hC : Cont W Con.ex m) (hA : Blk W g 3 #[.int .i64 (-1), .int .i64 0]) :
  Calls Tryz.prog 13 #[.agg (coA Con.ex m), .slice (some ⟨g, 0, none⟩) 2 c] W fun e w' => (∃ gs cap q0 q1 q2, e = .returned (.tuple #[.slice (some ⟨gs, 0, none⟩) 3 cap, .int .i64 0]) ∧ Rws W.heap.size w' (.slice (some ⟨gs, 0, none⟩) 3 cap) [(sX0, q0), (sX1, q1), (sX2, q2)]) ∧ Below W.heap.size W w' := by
 have hs : Seg W W.heap.size 1 eI (some ⟨g, 0, none⟩) [-1, 0] := xC4 (xs := [-1, 0]) xAz hA
 refine (xIu Con.ex m [-1, 0] (some ⟨g, 0, none⟩) c W hC hs (by simp)).mono ?_
 rintro e w' ⟨⟨v, rows, rfl, hr, hR, _⟩, hb⟩
 rw [hx2] at hr
 obtain ⟨q0, q1, q2, rfl⟩ := rows3 hr
 obtain ⟨gs, cap, rfl⟩ := own_sl hR.o (by simp)
 rw [hx1]
 exact ⟨⟨gs, cap, q0, q1, q2, rfl, hR⟩, hb⟩
theorem runY (m : Cm) (g c : Nat) (W : World) (hC : Cont W Con.ex m) (hA : Blk W g 3 #[.int .i64 2]) :
  Calls Tryz.prog 13 #[.agg (coA Con.ex m), .slice (some ⟨g, 0, none⟩) 1 c] W fun e w' => (∃ v, e = .returned (.tuple #[v, .int .i64 1])) ∧ Below W.heap.size W w' := by
 have hs : Seg W W.heap.size 1 eI (some ⟨g, 0, none⟩) [2] := xC4 (xs := [2]) xAz hA
 refine (xIu Con.ex m [2] (some ⟨g, 0, none⟩) c W hC hs (by simp)).mono ?_
 rintro e w' ⟨⟨v, rows, rfl, hr, hR, _⟩, hb⟩
 rw [hx3]
 exact ⟨⟨v, rfl⟩, hb⟩
theorem agrX (m : Cm) (g c gs cap : Nat) (a0 a1 a2 : Sta) (q0 q1 q2 : Qm) (V : Int × Bool) (W : World) (hC : Cont W Con.ex m) (hA : Blk W g 3 #[.int .i64 (-1), .int .i64 0]) (hS : Stl W (some ⟨gs, 0, none⟩) [(a0, q0), (a1, q1), (a2, q2)]) (hV : Con.ex.agr [-1, 0] [a0, a1, a2] = V) :
  Calls Tryz.prog 14 #[.agg (coA Con.ex m), .slice (some ⟨g, 0, none⟩) 2 c, .slice (some ⟨gs, 0, none⟩) 3 cap] W fun e w' => e = .returned (.tuple #[.int .i64 V.1, .bool V.2]) ∧ Below W.heap.size W w' := by
 have hs : Seg W W.heap.size 1 eI (some ⟨g, 0, none⟩) [-1, 0] := xC4 (xs := [-1, 0]) xAz hA
 rw [← hV]
 exact agr_any Con.ex m [-1, 0] (some ⟨g, 0, none⟩) c (some ⟨gs, 0, none⟩) cap [(a0, q0), (a1, q1), (a2, q2)] W hC hs (by simp) hS (by simp)
theorem decX (W : World) (hL : Lw W) : Calls Tryz.prog 19 #[.string ⟨#[48, 59, 59, 59]⟩] W fun e w' => (∃ q, e = .returned (.tuple #[.agg (stA ⟨0, [], [], []⟩ q), .int .i64 0])) ∧ Below W.heap.size W w' := by
 refine (xEh [48, 59, 59, 59] W hL (by simp)).mono ?_
 rintro e w' ⟨⟨q, rfl, _⟩, hb⟩
 refine ⟨⟨q, ?_⟩, hb⟩
 unfold decS decE
 rw [hx6]
 rfl
theorem decY (W : World) (hL : Lw W) : Calls Tryz.prog 19 #[.string ⟨#[48, 48, 59, 59, 59]⟩] W fun e w' => (∃ q, e = .returned (.tuple #[.agg (stA ⟨0, [], [], []⟩ q), .int .i64 20])) ∧ Below W.heap.size W w' := by
 refine (xEh [48, 48, 59, 59, 59] W hL (by simp)).mono ?_
 rintro e w' ⟨⟨q, rfl, _⟩, hb⟩
 refine ⟨⟨q, ?_⟩, hb⟩
 unfold decS decE
 rw [hx7]
 rfl
theorem sX0_I : sX0.I64 := ⟨⟨by decide, by decide⟩, by
 intro h hh
 simp only [sX0, List.mem_cons, List.not_mem_nil, or_false] at hh
 rcases hh with rfl | rfl <;> exact ⟨by decide, by decide⟩, by
 intro m hm
 simp only [sX0, List.mem_cons, List.not_mem_nil, or_false] at hm
 rcases hm with rfl | rfl <;> exact ⟨⟨by decide, by decide⟩, ⟨by decide, by decide⟩, ⟨by decide, by decide⟩, ⟨by decide, by decide⟩⟩⟩
theorem encX (q : Qm) (W : World) (hL : Lw W) (hS : Stm W sX0 q) : Calls Tryz.prog 21 #[.agg #[.int .i64 0, .slice q.h 2 q.hc, .slice q.u 2 q.uc, .slice q.m 2 q.mc]] W fun e w' => e = .returned (.string (tBy [48, 59, 48, 44, 49, 44, 59, 48, 48, 59, 49, 46, 50, 46, 48, 46, 48, 44, 48, 46, 48, 46, 48, 46, 45, 49, 44])) ∧ Below W.heap.size W w' := by
 have := xGf sX0 q W (Lib.tabBelow_of_tabIs hL.tab) hS sX0_I (by simp [sX0]) (by simp [sX0]) (by simp [sX0])
 rw [hx8] at this
 exact this
theorem txtX : ((tBy [48, 59, 48, 44, 49, 44, 59, 48, 48, 59, 49, 46, 50, 46, 48, 46, 48, 44, 48, 46, 48, 46, 48, 46, 45, 49, 44]).toList == [48, 59, 48, 44, 49, 44, 59, 48, 48, 59, 49, 46, 50, 46, 48, 46, 48, 44, 48, 46, 48, 46, 48, 46, 45, 49, 44]) = true := by rw [ByteArray.toList_eq]; rfl
theorem head_any (w : World) (hL : Lw w) : Calls Tryz.prog 11 #[] w fun e w' => e = .returned (.bool true) ∧ Below w.heap.size w w' := by
 have HL := qzL hL
 clear hL
 go_enter Tryz.func11, Tryz.ntmps11
 go_upto_region 2 with (first | (go_at_call 29; (with_reducible refine (xI7 _).mono ?_); rintro e wC ⟨⟨m, rfl, hC⟩, hbC⟩) | (refine xAg rfl 27 _ _ rfl wC.heap.size 27 [] coZ0.toList [] (coA Con.ex m).toList rfl rfl (Blk.new _ _ _) rfl (by kernel_rfl) (by simp [Value.oneCell']) ?_; intro V gV uV))
 have hbV : Below wC.heap.size wC V := (wa1 _ _).trans (uV.b _ (Nat.le_refl _))
 have HB := qzL (xAa hbC hbV)
 have HC := qzL (hC.then_ hbV)
 have gV : Blk V wC.heap.size 27 (coA Con.ex m) := gV
 obtain ⟨bC, eC⟩ : ∃ b, wC.heap.size = b := ⟨_, rfl⟩
 rw [eC] at gV ⊢
 clear eC hbC hbV hC uV
 go_upto_region 3 with (fail)
 refine xAf ?_
 intro X hX
 have gL : Blk X V.heap.size 3 #[.int .i64 (-1), .int .i64 0] := by rw [hX]; exact Blk.new _ _ _
 have hbX : Below V.heap.size V X := by rw [hX]; exact wa1 _ _
 have gX := gV.then_ hbX
 have HBX := qzL (xAa HB.out hbX)
 have HCX := qzL (HC.out.then_ hbX)
 obtain ⟨bL, eL⟩ : ∃ b, V.heap.size = b := ⟨_, rfl⟩
 rw [eL] at gL ⊢
 clear hX eL hbX gV HB HC
 go_upto_region 4 with (first | (refine xAi (by rfl) 27 _ rfl bC rfl 27 _ gX ⟨_, Tryz.underlying27⟩ (by kernel_rfl) ?_; simp only [Act.put, qzG, qzH, qzI]) | (go_at_call 13; (with_reducible refine (runX m bL 2 X HCX.out gL).mono ?_); rintro e w1 ⟨⟨gs, cap, q0, q1, q2, rfl, hR⟩, hb1⟩))
 have HR1 := qzL hR
 have HB1 := qzL (xAa HBX.out hb1)
 have HC1 := qzL (HCX.out.then_ hb1)
 have gC1 := gX.then_ hb1
 have gL1 := qzL (gL.then_ hb1)
 clear hR hb1 gX gL HBX HCX
 have gC1a := gC1.alloc (.cells #[.int .i64 2] 3)
 have HRY := qzL (runY m w1.heap.size 1 (w1.alloc (.cells #[.int .i64 2] 3)) (HC1.out.then_ (wa1 _ _)) (Blk.new w1 3 #[.int .i64 2]))
 go_upto_region 5 with (first | (refine xAi (by rfl) 27 _ rfl bC rfl 27 _ gC1 ⟨_, Tryz.underlying27⟩ (by kernel_rfl) ?_; simp only [Act.put, qzG, qzH, qzI]) | (go_at_call 13; (with_reducible refine HRY.out.mono ?_); rintro e w2 ⟨⟨v2, rfl⟩, hb2'⟩))
 have hb2 : Below w1.heap.size w1 w2 := (wa1 _ _).trans (hb2'.mono (by simp))
 have HR2 := qzL (HR1.out.then_ hb2)
 have HB2 := qzL (xAa HB1.out hb2)
 have HC2 := qzL (HC1.out.then_ hb2)
 have gC2 := gC1.then_ hb2
 have gL2 := qzL (gL1.out.then_ hb2)
 clear hb2 hb2' HR1 HB1 HC1 gC1 gL1 gC1a HRY
 have HAG := qzL (agrX m bL 2 gs cap sX0 sX1 sX2 q0 q1 q2 (-1, true) w2 HC2.out gL2.out HR2.out.stl.1 hx4)
 go_upto_region 6 with (first | (refine xAi (by rfl) 27 _ rfl bC rfl 27 _ gC2 ⟨_, Tryz.underlying27⟩ (by kernel_rfl) ?_; simp only [Act.put, qzG, qzH, qzI]) | (go_at_call 14; (with_reducible refine HAG.out.mono ?_); rintro e w3 ⟨rfl, hb3⟩))
 have HR3 := qzL (HR2.out.then_ hb3)
 have HB3 := qzL (xAa HB2.out hb3)
 have HC3 := qzL (HC2.out.then_ hb3)
 have gC3 := gC2.then_ hb3
 have gL3 := qzL (gL2.out.then_ hb3)
 clear hb3 HR2 HB2 HC2 gC2 gL2 HAG
 have HD1 := qzL (decX w3 (HL.out.below HB3.out))
 go_upto_region 7 with (first | (go_at_call 19; (with_reducible refine HD1.out.mono ?_); rintro e w4 ⟨⟨qd, rfl⟩, hb4⟩) | (refine xAg rfl 43 _ _ rfl w4.heap.size 43 [] zS.toList [] (stA ⟨0, [], [], []⟩ qd).toList rfl rfl (Blk.new _ _ _) rfl (by kernel_rfl) (by simp [Value.oneCell']) ?_; intro w5 g5 u5))
 have hb5 : Below w3.heap.size w3 w5 := xAa hb4 ((wa1 _ _).trans (u5.b _ (Nat.le_refl _)))
 have g9 : Blk w5 w4.heap.size 43 (stA ⟨0, [], [], []⟩ qd) := g5
 obtain ⟨b9, e9⟩ : ∃ b, w4.heap.size = b := ⟨_, rfl⟩
 rw [e9] at g9 ⊢
 have HR5 := qzL (HR3.out.then_ hb5)
 have HB5 := qzL (xAa HB3.out hb5)
 have HC5 := qzL (HC3.out.then_ hb5)
 have gC5 := gC3.then_ hb5
 have gL5 := qzL (gL3.out.then_ hb5)
 clear hb5 hb4 g5 u5 e9 HR3 HB3 HC3 gC3 gL3 HD1
 have HD2 := qzL (decY w5 (HL.out.below HB5.out))
 go_upto_region 8 with (first | (go_at_call 19; (with_reducible refine HD2.out.mono ?_); rintro e w6 ⟨⟨qe, rfl⟩, hb6⟩) | (refine xAg rfl 43 _ _ rfl w6.heap.size 43 [] zS.toList [] (stA ⟨0, [], [], []⟩ qe).toList rfl rfl (Blk.new _ _ _) rfl (by kernel_rfl) (by simp [Value.oneCell']) ?_; intro w7 g7 u7))
 have hb7 : Below w5.heap.size w5 w7 := xAa hb6 ((wa1 _ _).trans (u7.b _ (Nat.le_refl _)))
 have g97 := g9.then_ hb7
 have HR7 := qzL (HR5.out.then_ hb7)
 have HB7 := qzL (xAa HB5.out hb7)
 have HC7 := qzL (HC5.out.then_ hb7)
 have gC7 := gC5.then_ hb7
 have gL7 := qzL (gL5.out.then_ hb7)
 clear hb7 hb6 g7 u7 HR5 HB5 HC5 gC5 gL5 HD2 g9
 obtain ⟨ri, hi, hz0, hz1, hz2⟩ := info_parts (show (Tryz.prog.info? 43).map (fun i => (i.zero, i.size, i.bytes)) = some (some (.agg #[.int .i64 0, .slice none 0 0, .slice none 0 0, .slice none 0 0]), 4, 80) by kernel_rfl)
 go_upto_region 11 with (at_builtin; go_loud (refine xCg rfl (.tmp 49) (.tmp 50) _ rfl w7.heap.size 43 ri _ 4 80 Tryz.underlying30 hi hz0 hz1 hz2 rfl (by omega) (by omega) eQ xC6 one_sta w7.heap.size rfl (Blk.new _ _ _) (Nat.le_refl _) (some ⟨gs, 0, none⟩) [(sX0, q0), (sX1, q1), (sX2, q2)] cap 3 rfl rfl (by simp) w7.heap.size (HR7.out.stl.1.s.below (wa1 _ _)) (fun h => by cases h) ?_); intro gt ct w8 hown hgrow hg)
 have hb8 : Below w7.heap.size w7 w8 := (wa1 _ _).trans hgrow
 obtain ⟨cz, fz⟩ := hown.getAt xC6 rfl (k := 1) (j := 0) (x := (sX1, q1)) rfl (by decide)
 have cz : w8.cell? ⟨gt, 4, none⟩ = some (.int .i64 1) := cz
 have fz : w8.frozen? ⟨gt, 4, none⟩ = false := fz
 have hi1 : ∀ W : World, (Instr.indexAt 30 (.slice (some ⟨gt, 0, none⟩) 3 ct) (.int .i64 1)).run Tryz.prog W = .ok (.pointer (some ⟨gt, 4, none⟩)) W := fun W => xAy (t := 30) (size := 4) (g := gt) (n := 3) (cap := ct) (i := 1) (by decide) (by kernel_rfl) (fun W => by kernel_rfl) W
 go_upto_region 12 with (fail)
 refine xAf ?_
 intro U hU
 have hown2 : Own U w7.heap.size 43 4 eQ (.slice (some ⟨gt, 0, none⟩) 3 ct) [(sX0, q0), ({ sX1 with day := 0 }, q1), (sX2, q2)] := by
  have h1 := hown.setAt xC6 rfl (k := 1) (j := 0) (x := (sX1, q1)) (y := ({ sX1 with day := 0 }, q1)) (u := .int .i64 0) rfl (by decide) rfl
  rw [hU]
  exact h1
 have hbU : Below w7.heap.size w7 U := by rw [hU]; exact hb8.setCell (p := ⟨gt, 4, none⟩) hg.1 _
 have hS1 : Stl U (some ⟨gt, 0, none⟩) [(sX0, q0), ({ sX1 with day := 0 }, q1), (sX2, q2)] := by
  have hr := fun x hx => ((HR7.out.then_ hbU).r x hx).m
  refine ⟨(Own.seg_ xC6 hown2).1, fun x hx => ?_⟩
  simp only [List.mem_cons, List.not_mem_nil, or_false] at hx
  rcases hx with rfl | rfl | rfl
  ·exact hr (sX0, q0) (by simp)
  ·have h2 := hr (sX1, q1) (by simp)
   exact ⟨h2.h, h2.u, h2.m, h2.nh, h2.nu, h2.nm, h2.ch, h2.cu, h2.cm⟩
  ·exact hr (sX2, q2) (by simp)
 have HRU := qzL (HR7.out.then_ hbU)
 have HBU := qzL (xAa HB7.out hbU)
 have gCU := gC7.then_ hbU
 have gLU := qzL (gL7.out.then_ hbU)
 have g9U := g97.then_ hbU
 have HAG := qzL (agrX m bL 2 gt ct sX0 { sX1 with day := 0 } sX2 q0 q1 q2 (1, false) U (HC7.out.then_ hbU) gLU.out hS1 hx5)
 clear hU hown hown2 hgrow hg hb8 cz fz hi1 hS1 hbU HR7 HB7 HC7 gC7 gL7 g97 hi hz0 hz1 hz2
 go_upto_region 13 with (first | (refine xAi (by rfl) 27 _ rfl bC rfl 27 _ gCU ⟨_, Tryz.underlying27⟩ (by kernel_rfl) ?_; simp only [Act.put, qzG, qzH, qzI]) | (go_at_call 14; (with_reducible refine HAG.out.mono ?_); rintro e w9 ⟨rfl, hb9⟩))
 have HR9 := HRU.out.then_ hb9
 have HB9 := qzL (xAa HBU.out hb9)
 have g99 := g9U.then_ hb9
 have z0 : w9.cell? ⟨b9, 0, none⟩ = some (.int .i64 0) := g99.cell 0
 have z3 : w9.cell? ⟨b9, 3, none⟩ = some (.slice qd.m 0 qd.mc) := g99.cell 3
 have x00 : w9.cell? ⟨gs, 0, none⟩ = some (.int .i64 0) := (HR9.o.getAt xC6 rfl (k := 0) (j := 0) (x := (sX0, q0)) rfl (by decide)).1
 have x01 : w9.cell? ⟨gs, 1, none⟩ = some (.slice q0.h 2 q0.hc) := (HR9.o.getAt xC6 rfl (k := 0) (j := 1) (x := (sX0, q0)) rfl (by decide)).1
 have x02 : w9.cell? ⟨gs, 2, none⟩ = some (.slice q0.u 2 q0.uc) := (HR9.o.getAt xC6 rfl (k := 0) (j := 2) (x := (sX0, q0)) rfl (by decide)).1
 have x03 : w9.cell? ⟨gs, 3, none⟩ = some (.slice q0.m 2 q0.mc) := (HR9.o.getAt xC6 rfl (k := 0) (j := 3) (x := (sX0, q0)) rfl (by decide)).1
 have HEN := qzL (encX q0 w9 (HL.out.below HB9.out) (HR9.r (sX0, q0) (by simp)).m)
 have HR := qzL HR9
 clear hb9 HRU HBU gCU gLU g9U HAG g99 HR9
 have hj0 : ∀ W : World, (Instr.indexAt 30 (.slice (some ⟨gs, 0, none⟩) 3 cap) (.int .i64 0)).run Tryz.prog W = .ok (.pointer (some ⟨gs, 0, none⟩)) W := fun W => xAy (t := 30) (size := 4) (g := gs) (n := 3) (cap := cap) (i := 0) (by decide) (by kernel_rfl) (fun W => by kernel_rfl) W
 have hj2 : ∀ W : World, (Instr.indexAt 30 (.slice (some ⟨gs, 0, none⟩) 3 cap) (.int .i64 2)).run Tryz.prog W = .ok (.pointer (some ⟨gs, 8, none⟩)) W := fun W => xAy (t := 30) (size := 4) (g := gs) (n := 3) (cap := cap) (i := 2) (by decide) (by kernel_rfl) (fun W => by kernel_rfl) W
 have htx := txtX
 go_wp2_with (fail)
 go_at_call 21
 with_reducible refine HEN.out.mono ?_
 rintro e wE ⟨rfl, hbE⟩
 have HRE := HR.out.then_ hbE
 have y3 : wE.cell? ⟨gs, 11, none⟩ = some (.slice q2.m 2 q2.mc) := (HRE.o.getAt xC6 rfl (k := 2) (j := 3) (x := (sX2, q2)) rfl (by decide)).1
 have hm : Seg wE wE.heap.size 5 eM q2.m [⟨3, 0, 1, 0, false⟩, ⟨1, 3, 0, 1, false⟩] := (HRE.r (sX2, q2) (by simp)).m.m
 obtain ⟨bm, om, em, _, hm0⟩ := xAx hm (k := 0) (x := ⟨3, 0, 1, 0, false⟩) rfl
 obtain ⟨bm', om', em', _, hm1⟩ := xAx hm (k := 1) (x := ⟨1, 3, 0, 1, false⟩) rfl
 have k0 : ∀ W : World, (Instr.indexAt 41 (.slice q2.m 2 q2.mc) (.int .i64 0)).run Tryz.prog W = .ok (.pointer (some ⟨bm, om, none⟩)) W := fun W => xAq (t := 41) (size := 5) (cap := q2.mc) (len := 2) (k := 0) em (by decide) (by kernel_rfl) (fun W => by kernel_rfl) W
 have k1 : ∀ W : World, (Instr.indexAt 41 (.slice q2.m 2 q2.mc) (.int .i64 1)).run Tryz.prog W = .ok (.pointer (some ⟨bm', om' + 5, none⟩)) W := fun W => xAq (t := 41) (size := 5) (cap := q2.mc) (len := 2) (k := 1) em' (by decide) (by kernel_rfl) (fun W => by kernel_rfl) W
 have n0 : wE.cell? ⟨bm, om, none⟩ = some (.int .i64 3) := by simpa using hm0 0 _ rfl
 have n1 : wE.cell? ⟨bm', om' + 5, none⟩ = some (.int .i64 1) := by simpa using hm1 0 _ rfl
 have n2 : wE.cell? ⟨bm', om' + 5 + 1, none⟩ = some (.int .i64 3) := by simpa using hm1 1 _ rfl
 clear hm0 hm1 em em' HRE hm
 go_wp2
 go_ret
 exact ⟨rfl, xAa HB9.out hbE⟩
end Go.Proofs.YtginnonjdbpamaaGreatDoor
/- The walk of few: the reference's Few, and the laws' own limit on the steps. -/
namespace Go.Proofs.YtginnonjdbpamaaGreatDoor
open Go.RowKit
def Con.few (c : Con) (n : Int) : Bool := !(decide ((13 : Int) < (c.hold.length : Int)) || decide ((21 : Int) < (c.un.length : Int)) || decide ((61 : Int) < (c.ac.length : Int)) || decide ((n : Int) < (c.cl.length : Int)) || decide ((100 : Int) < (c.off.length : Int))) && (c.un.all (fun u => !decide ((60 : Int) < (u.nm.size : Int))) && c.cl.all fun k => !decide ((10 : Int) < (k.start.length : Int)))
theorem rfew_any (c : Con) (m : Cm) (n : Int) (w : World) (hu : Seg w w.heap.size 5 eU m.u c.un) (hk : Seg w w.heap.size 16 eK m.k m.ks) (he : m.ks.map (·.k) = c.cl) (hn : n ≤ 1000000) : Calls Tryz.prog 15 #[.agg (coA c m), .int .i64 n] w fun e w' => e = .returned (.bool (c.few n)) ∧ Below w.heap.size w w' := by
 have HU := qzL hu
 have HK := qzL hk
 have HE := qzL he
 obtain ⟨e0, E0⟩ : ∃ x, decide ((13 : Int) < (c.hold.length : Int)) = x := ⟨_, rfl⟩
 obtain ⟨e1, E1⟩ : ∃ x, decide ((21 : Int) < (c.un.length : Int)) = x := ⟨_, rfl⟩
 obtain ⟨e2, E2⟩ : ∃ x, decide ((61 : Int) < (c.ac.length : Int)) = x := ⟨_, rfl⟩
 obtain ⟨e3, E3⟩ : ∃ x, decide ((n : Int) < (c.cl.length : Int)) = x := ⟨_, rfl⟩
 obtain ⟨e4, E4⟩ : ∃ x, decide ((100 : Int) < (c.off.length : Int)) = x := ⟨_, rfl⟩
 have hf : Hid (c.few n = (!(e0 || e1 || e2 || e3 || e4) && (c.un.all (fun u => !decide ((60 : Int) < (u.nm.size : Int))) && c.cl.all fun k => !decide ((10 : Int) < (k.start.length : Int))))) := by unfold Hid Con.few; rw [E0, E1, E2, E3, E4]
 have h3 : Hid ((e0 || e1 || e2 || e3 || e4) = false → c.un.length ≤ 21 ∧ c.cl.length ≤ 1000000) := by
  intro h
  simp only [Bool.or_eq_false_iff] at h
  have h2 := h.1.2
  have h1 := h.1.1.1.2
  rw [← E3] at h2
  rw [← E1] at h1
  simp at h1 h2
  omega
 have hkl : m.ks.length = c.cl.length := by have := congrArg List.length he; simpa using this
 have HKL := qzL hkl
 clear hu hk he hkl
 go_enter Tryz.func15, Tryz.ntmps15
 go_upto_region 1 with (fail)
 refine xAf ?_
 intro X hX
 have gbc : Blk X w.heap.size 27 (coA c m) := by rw [hX]; exact xA5 (by simp)
 have HB : Below w.heap.size w X := by rw [hX]; (repeat (first | exact Below.refl _ _ | refine xAc ?_ _))
 clear hX
 obtain ⟨bc, ebc⟩ : ∃ b, w.heap.size = b := ⟨_, rfl⟩
 have lbc : w.heap.size ≤ bc := by omega
 rw [ebc] at gbc ⊢
 clear ebc
 have GB := qzL gbc
 have HBX := qzL HB
 clear HB
 go_upto_region 1 with (fail)
 go_cut [35] from 7 to 35 (fun v W => v = .bool (e0 || e1 || e2 || e3 || e4) ∧ X = W)
 case first =>
  have p1 : X.cell? ⟨bc, 1, none⟩ = some (.slice m.h c.hold.length m.hc) := gbc.cell 1
  have p2 : X.cell? ⟨bc, 2, none⟩ = some (.slice m.u c.un.length m.uc) := gbc.cell 2
  have p3 : X.cell? ⟨bc, 3, none⟩ = some (.slice m.a c.ac.length m.ac) := gbc.cell 3
  have p4 : X.cell? ⟨bc, 4, none⟩ = some (.slice m.k c.cl.length m.kc) := gbc.cell 4
  have p6 : X.cell? ⟨bc, 6, none⟩ = some (.slice m.o c.off.length m.oc) := gbc.cell 6
  clear gbc hn
  cases e0
  case true => (go_wp2; go_meet; (case rel => exact ⟨by simp, rfl⟩))
  cases e1
  case true => (go_wp2; go_meet; (case rel => exact ⟨by simp, rfl⟩))
  cases e2
  case true => (go_wp2; go_meet; (case rel => exact ⟨by simp, rfl⟩))
  cases e3
  case true => (go_wp2; go_meet; (case rel => exact ⟨by simp, rfl⟩))
  cases e4
  case true => (go_wp2; go_meet; (case rel => exact ⟨by simp, rfl⟩))
  case false => (go_wp2; go_meet; (case rel => exact ⟨by simp, rfl⟩))
 obtain ⟨rfl, rfl⟩ := hcut
 cases hb0 : (e0 || e1 || e2 || e3 || e4) with
 | true =>
  have hr : Hid (c.few n = false) := by unfold Hid; rw [hf.out, hb0]; rfl
  clear hb0 hf h3 gbc E0 E1 E2 E3 E4
  go_wp2
  go_ret
  exact ⟨xAb hr.out.symm, HBX.out⟩
 | false =>
 obtain ⟨hlu, hl⟩ := h3.out hb0
 have hr0 : Hid (c.few n = (c.un.all (fun u => !decide ((60 : Int) < (u.nm.size : Int))) && c.cl.all fun k => !decide ((10 : Int) < (k.start.length : Int)))) := by unfold Hid; rw [hf.out, hb0]; rfl
 clear hb0 hf h3 gbc E0 E1 E2 E3 E4
 go_upto_region 4 with (fail)
 go_loopw [5] (fun y WR => ∃ (i : Nat), i ≤ c.un.length ∧ y = .int .i64 i ∧ Hid (∀ j u, j < i → c.un[j]? = some u → decide ((60 : Int) < (u.nm.size : Int)) = false) ∧ X = WR) (fun y _ => 2000000 - (intOf y).toNat)
 case atStart => exact ⟨0, by omega, rfl, (fun j k hj => by omega), rfl⟩
 case round =>
  obtain ⟨i, hi', rfl, hpre, rfl⟩ := hrel
  have p2 : X.cell? ⟨bc, 2, none⟩ = some (.slice m.u c.un.length m.uc) := GB.out.cell 2
  by_cases hlt : i < c.un.length
  ·have tn : decide ((i : Int) < (c.un.length : Int)) = true := qzO (by omega)
   obtain ⟨u, hu⟩ : ∃ k, c.un[i]? = some k := ⟨_, qzJ hlt⟩
   obtain ⟨b0, o0, eA0, hb0, hc0⟩ := xAx (HU.out.below HBX.out) hu
   have x0 : X.cell? ⟨b0, o0 + i * 5, none⟩ = some (.string u.nm) := hc0 0 _ rfl
   have hix := fun W => xAq (t := 23) (size := 5) (cap := m.uc) (len := c.un.length) eA0 hlt (by kernel_rfl) (fun W => by kernel_rfl) W
   have HX0 := qzL hu
   clear hc0 hu eA0
   have hwr := wrap_small (n := i) (by omega)
   cases ht : decide ((60 : Int) < (u.nm.size : Int)) with
   | true =>
    have hq : Hid (c.few n = false) := by
     unfold Hid
     rw [hr0.out]
     refine Bool.eq_false_iff.2 fun h => ?_
     have := List.all_eq_true.1 (Bool.and_eq_true_iff.1 h).1 u (qzK HX0.out)
     rw [ht] at this
     cases this
    clear hpre
    go_wp2
    go_ret
    exact ⟨xAb hq.out.symm, HBX.out⟩
   | false =>
    have hp2 : Hid (∀ j k, j < i + 1 → c.un[j]? = some k → decide ((60 : Int) < (k.nm.size : Int)) = false) := by
     intro j k hj hk
     by_cases q : j = i
     ·rw [q, HX0.out] at hk
      cases hk
      exact ht
     ·exact hpre.out j k (by omega) hk
    clear hpre
    go_wp2
    go_roundw
    case rel => exact ⟨i + 1, by omega, by simp, hp2, by trivial⟩
    case measure => simp [intOf]; omega
  ·have tn : decide ((i : Int) < (c.un.length : Int)) = false := qzN (by omega)
   have hr : Hid (c.few n = c.cl.all fun k => !decide ((10 : Int) < (k.start.length : Int))) := by
    unfold Hid
    rw [hr0.out]
    have : (c.un.all (fun u => !decide ((60 : Int) < (u.nm.size : Int)))) = true := by
     refine List.all_eq_true.2 fun k hk => ?_
     obtain ⟨j, hj, e⟩ := List.getElem_of_mem hk
     rw [hpre.out j k (by omega) (by rw [← e]; exact qzJ hj)]
     rfl
    rw [this, Bool.true_and]
   clear hpre hr0 HU
   go_upto_region 8 with (fail)
   go_upto_region 9 with (fail)
   go_loopw [6] (fun y WR => ∃ (i : Nat), i ≤ c.cl.length ∧ y = .int .i64 i ∧ Hid (∀ j k, j < i → c.cl[j]? = some k → decide ((10 : Int) < (k.start.length : Int)) = false) ∧ Hid (Below X.heap.size X WR)) (fun y _ => 2000000 - (intOf y).toNat)
   case atStart => exact ⟨0, by omega, rfl, (fun j k hj => by omega), Below.refl _ _⟩
   case round =>
    obtain ⟨i, hi', rfl, hpre, hB⟩ := hrel
    have p4 : wr.cell? ⟨bc, 4, none⟩ = some (.slice m.k c.cl.length m.kc) := (GB.out.then_ hB.out).cell 4
    by_cases hlt : i < c.cl.length
    ·have tn : decide ((i : Int) < (c.cl.length : Int)) = true := qzO (by omega)
     obtain ⟨k0, hk0⟩ : ∃ k, c.cl[i]? = some k := ⟨_, qzJ hlt⟩
     obtain ⟨x, hx, hxk⟩ := xCv HE.out hk0
     obtain ⟨b0, o0, eA0, hb0, hc0⟩ := xAx (HK.out.below (xAa HBX.out hB.out)) hx
     have x4 : wr.cell? ⟨b0, o0 + i * 16 + 4, none⟩ = some (.slice x.A x.k.start.length x.cap) := hc0 4 _ rfl
     have hix := fun W => xAq (t := 25) (size := 16) (cap := m.kc) (len := c.cl.length) eA0 hlt (by kernel_rfl) (fun W => by kernel_rfl) W
     have HX0 := qzL hk0
     have HXK := qzL hxk
     clear hc0 hx hk0 hxk eA0
     have hwr := wrap_small (n := i) (by omega)
     cases ht : decide ((10 : Int) < (x.k.start.length : Int)) with
     | true =>
      have hq : Hid (c.few n = false) := by
       unfold Hid
       rw [hr.out]
       refine Bool.eq_false_iff.2 fun h => ?_
       have := List.all_eq_true.1 h k0 (qzK HX0.out)
       rw [← HXK.out, ht] at this
       cases this
      clear hpre
      go_wp2
      go_ret
      exact ⟨xAb hq.out.symm, xAa HBX.out hB.out⟩
     | false =>
      have hp2 : Hid (∀ j k, j < i + 1 → c.cl[j]? = some k → decide ((10 : Int) < (k.start.length : Int)) = false) := by
       intro j k hj hk
       by_cases q : j = i
       ·rw [q, HX0.out] at hk
        cases hk
        rw [← HXK.out]
        exact ht
       ·exact hpre.out j k (by omega) hk
      clear hpre
      go_wp2
      go_roundw
      case rel => exact ⟨i + 1, by omega, by simp, hp2, hB.out⟩
      case measure => simp [intOf]; omega
    ·have tn : decide ((i : Int) < (c.cl.length : Int)) = false := qzN (by omega)
     have hq : Hid (c.few n = true) := by
      unfold Hid
      rw [hr.out]
      refine List.all_eq_true.2 fun k hk => ?_
      obtain ⟨j, hj, e⟩ := List.getElem_of_mem hk
      rw [hpre.out j k (by omega) (by rw [← e]; exact qzJ hj)]
      rfl
     clear hpre
     go_wp2
     go_ret
     exact ⟨xAb hq.out.symm, xAa HBX.out hB.out⟩
def Con.fewL (c : Con) (l : List Int) : Bool := c.few 8 && decide (l.length ≤ 60)
theorem few_any (c : Con) (m : Cm) (l : List Int) (A : Option Addr) (cap : Nat) (w : World) (hu : Seg w w.heap.size 5 eU m.u c.un) (hk : Seg w w.heap.size 16 eK m.k m.ks) (he : m.ks.map (·.k) = c.cl) : Calls Tryz.prog 12 #[.agg (coA c m), .slice A l.length cap] w fun e w' => e = .returned (.bool (c.fewL l)) ∧ Below w.heap.size w w' := by
 have HU := qzL hu
 have HK := qzL hk
 have HE := qzL he
 clear hu hk he
 go_enter Tryz.func12, Tryz.ntmps12
 go_upto_region 1 with (fail)
 refine xAf ?_
 intro X hX
 have gbc : Blk X w.heap.size 27 (coA c m) := by rw [hX]; exact xA5 (by simp)
 have HB : Below w.heap.size w X := by rw [hX]; (repeat (first | exact Below.refl _ _ | refine xAc ?_ _))
 clear hX
 obtain ⟨bc, ebc⟩ : ∃ b, w.heap.size = b := ⟨_, rfl⟩
 have lbc : w.heap.size ≤ bc := by omega
 rw [ebc] at gbc ⊢
 clear ebc
 have HBX := qzL HB
 clear HB
 have HF := qzL (rfew_any c m 8 X ((HU.out.below HBX.out).more HBX.out.size) ((HK.out.below HBX.out).more HBX.out.size) HE.out (by omega))
 have hd : (60 : Int) ≥ (l.length : Int) ↔ l.length ≤ 60 := by omega
 have hf : Hid (c.fewL l = (c.few 8 && decide ((l.length : Int) ≤ 60))) := by
  unfold Hid Con.fewL
  congr 1
  exact decide_eq_decide.2 (by omega)
 clear hd
 obtain ⟨b, hb⟩ : ∃ b, c.few 8 = b := ⟨_, rfl⟩
 rw [hb] at HF hf
 clear hb
 cases b
 case false =>
  go_wp2_with (first | (refine xAi (by rfl) 27 _ rfl bc rfl 27 _ gbc ⟨_, Tryz.underlying27⟩ (by kernel_rfl) ?_; simp only [Act.put, qzG, qzH, qzI]) | (go_at_call 15; (with_reducible refine HF.out.mono ?_); rintro e w1 ⟨rfl, hb1⟩))
  go_ret
  exact ⟨xAb hf.out.symm, xAa HBX.out hb1⟩
 case true =>
  go_wp2_with (first | (refine xAi (by rfl) 27 _ rfl bc rfl 27 _ gbc ⟨_, Tryz.underlying27⟩ (by kernel_rfl) ?_; simp only [Act.put, qzG, qzH, qzI]) | (go_at_call 15; (with_reducible refine HF.out.mono ?_); rintro e w1 ⟨rfl, hb1⟩))
  go_ret
  exact ⟨xAb hf.out.symm, xAa HBX.out hb1⟩
end Go.Proofs.YtginnonjdbpamaaGreatDoor
