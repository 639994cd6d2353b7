/- The walk of w11Monitors. -/
import Derived.Test.YtffceokjeonpcaaGreatDoorZTz1
import Derived.Test.YtffceokjeonpcaaGreatDoorZTq6
import Derived.Test.YtffceokjeonpcaaGreatDoorMb1
set_option maxHeartbeats 25600000
set_option maxRecDepth 100000
namespace Go.Proofs.YtffceokjeonpcaaGreatDoor
open Go.RowKit
abbrev zCo : Array Value := #[.int .i64 0, .slice none 0 0, .slice none 0 0, .slice none 0 0, .slice none 0 0, .int .i64 0, .slice none 0 0]
theorem w_run : wC.runE [0, -1, -1] = 0 := by kernel_rfl
theorem w_ok : wC.ok = true := by kernel_rfl
theorem view_w (m : Cm) (bl : Nat) (w : World) (hC : Cont w wC m) (hl : Blk w bl 3 #[.int .i64 0, .int .i64 (-1), .int .i64 (-1)]) (p : Int) (hp : 0 ≤ p ∧ p < 3) (V : List Int) (n : Nat) (hV : xBk wC (wSee p) wC.first [0, -1, -1] = V) (hn : V.length = n) :
  Calls Tryz.prog 9 #[.agg (coA wC m), .slice (some ⟨bl, 0, none⟩) 3 3, .int .i64 p] w fun e w' => (∃ A cap, e = .returned (.tuple #[.slice A n cap, .int .i64 0]) ∧ Seg w' w'.heap.size 1 eI A V) ∧ Below w.heap.size w w' := by
 have hs : Seg w w.heap.size 1 eI (some ⟨bl, 0, none⟩) [0, -1, -1] := xEu xAz hl
 refine Calls.mono (xHf wC m [0, -1, -1] (some ⟨bl, 0, none⟩) 3 p w hC hs w_run hp) ?_
 rintro e w' ⟨⟨v, rfl, hO⟩, hb⟩
 obtain ⟨A, cap, rfl, _, hs2⟩ := hO.seg xAz
 subst hn hV
 exact ⟨⟨A, cap, rfl, hs2⟩, hb⟩
theorem watch_w (m : Cm) (A : Option Addr) (cap : Nat) (w : World) (hT : Lx w) (hC : Cont w wC m) (p : Int) (hp : 0 ≤ p ∧ p < 3) (V : List Int) (n : Nat) (hn : V.length = n) (hA : Seg w w.heap.size 1 eI A V) (hV : ∀ x ∈ V, x = -1 ∨ (0 ≤ x ∧ x < 1)) (h4 : n ≤ 4000) (L : List Sta) (k : Nat) (hL : watchF wC (wSee p) V = (0, L)) (hk : L.length = k) :
  Calls Tryz.prog 11 #[.agg (coA wC m), .int .i64 p, .slice A n cap] w fun e w' => (∃ A cap rows, e = .returned (.tuple #[.agg #[.int .i64 p, .slice A k cap], .int .i64 0]) ∧ Seg w' w'.heap.size 4 eQ A rows ∧ rows.map (·.1) = L ∧ (∀ x ∈ rows, Stm w' x.1 x.2) ∧ k ≤ cap) ∧ Below w.heap.size w w' := by
 subst hn
 refine Calls.mono (xF0 wC m p V A cap w hT hC w_ok hp hA hV h4) ?_
 rintro e w' ⟨⟨v, rows, rfl, hO, hr, hf⟩, hb⟩
 have e1 : watchF wC (seeP p) V = (0, L) := hL
 rw [e1] at hr ⊢
 obtain ⟨A2, cap2, rfl, hc2, hs2⟩ := hO.seg xCh
 have hr2 : rows.map (·.1) = L := hr
 obtain rfl : rows.length = k := by rw [← hk, ← hr2, List.length_map]
 exact ⟨⟨A2, cap2, rows, rfl, hs2, hr, fun x hx => (hf x hx).now, hc2⟩, hb⟩
theorem xAu {P : Program} {md : Region.Mode} {ops : Array Oper} {Q : Exit → Act → World → Prop} {S : World → Prop} {i : Nat} {o : Oper} {fuel : Nat} {listed : Array Bool} {a : Act} {w : World} (v : Value) (ho : ops[i]? = some o) (hr : Region.ready md ops listed = [i]) (hw : Region.wanted o (yielded ops a.tmps) = true)
  (hx : ∀ K' : Act → World → Prop, K' (a.put o.dst v) w → Oper.wp P o a w K' Q) (hS : S w) (h : wpAnyH P md ops Q S fuel (listed.setIfInBounds i true) (a.put o.dst v) w) : wpAnyH P md ops Q S (fuel + 1) listed a w :=
 wpAnyH_ready hr (by simp) (AllReadyH.cons ho (fun K' hK => by rw [if_pos hw]; exact hx K' (hK.out _ _ hS fun _ => h)) AllReadyH.nil)
theorem xHs (w : World) (hT : Lx w) : Calls Tryz.prog 5 #[] w fun e w' => e = .returned (.bool true) ∧ Below w.heap.size w w' := by
 have HT := qzL hT
 have HPR := qzL (xIs w)
 clear hT
 go_enter Tryz.func5, Tryz.ntmps5
 go_upto_region 2 with (first | (go_at_call 19; (with_reducible refine HPR.out.mono ?_); rintro e w1 ⟨⟨m, rfl, hC⟩, hb1⟩) | (refine xAh rfl 27 _ _ rfl w1.heap.size 27 [] zCo.toList [] (coA wC m).toList rfl rfl (Blk.new _ _ _) rfl (by kernel_rfl) (by simp [Value.oneCell']) ?_; intro w2 g2 u2))
 have hb12 : Below w1.heap.size w1 w2 := (wa1 _ _).trans (u2.b _ (Nat.le_refl _))
 have HC2 := qzL (hC.then_ hb12)
 have HB2 := qzL (xAa hb1 hb12)
 have GC2 : Hid (Blk w2 w1.heap.size 27 (coA wC m)) := g2
 obtain ⟨bc, ebc⟩ : ∃ b, w1.heap.size = b := ⟨_, rfl⟩
 rw [ebc] at GC2 ⊢
 clear HPR hC hb1 g2 u2 hb12 ebc
 go_upto_region 3 with (fail)
 refine xAi ?_
 intro X hX
 have hb3 : Below w2.heap.size w2 X := by rw [hX]; exact wa1 _ _
 have GL : Hid (Blk X w2.heap.size 3 #[.int .i64 0, .int .i64 (-1), .int .i64 (-1)]) := by unfold Hid; rw [hX]; exact Blk.new _ _ _
 have HC3 := qzL (HC2.out.then_ hb3)
 have HB3 := qzL (xAa HB2.out hb3)
 have gc3 := GC2.out.then_ hb3
 obtain ⟨bl, ebl⟩ : ∃ b, w2.heap.size = b := ⟨_, rfl⟩
 rw [ebl] at GL ⊢
 clear hX hb3 ebl HC2 HB2 GC2
 have HV1 := qzL (view_w m bl X HC3.out GL.out 1 (by decide) _ 3 w_view1 rfl)
 go_upto_region 4 with (first | (refine rowC (by rfl) _ rfl bc rfl gc3 ?_; simp only [Act.put, qzG, qzH, qzI]) | (go_at_call 9; (with_reducible refine HV1.out.mono ?_); rintro e w4 ⟨⟨A1, c1, rfl, hs1⟩, hb4⟩))
 have HC4 := qzL (HC3.out.then_ hb4)
 have HB4 := qzL (xAa HB3.out hb4)
 have gc4 := gc3.then_ hb4
 have HV2 := qzL (view_w m bl w4 HC4.out (GL.out.then_ hb4) 2 (by decide) _ 2 w_view2 rfl)
 have HS1 := qzL hs1
 clear gc3 hb4 HC3 HB3 HV1 GL hs1
 go_upto_region 5 with (first | (refine rowC (by rfl) _ rfl bc rfl gc4 ?_; simp only [Act.put, qzG, qzH, qzI]) | (go_at_call 9; (with_reducible refine HV2.out.mono ?_); rintro e w5 ⟨⟨A2, c2, rfl, hs2⟩, hb5⟩))
 have HC5 := qzL (HC4.out.then_ hb5)
 have HB5 := qzL (xAa HB4.out hb5)
 have gc5 := gc4.then_ hb5
 have HW1 := qzL (watch_w m A1 c1 w5 (xBx HT.out HB5.out) HC5.out 1 (by decide) [0, -1, -1] 3 rfl ((HS1.out.below hb5).more hb5.size) (by decide) (by decide) [wSt 2 3 0] 1 w_watch1 rfl)
 have HS2 := qzL hs2
 clear gc4 hb5 HC4 HB4 HV2 HS1 hs2
 go_upto_region 6 with (first | (refine rowC (by rfl) _ rfl bc rfl gc5 ?_; simp only [Act.put, qzG, qzH, qzI]) | (go_at_call 11; (with_reducible refine HW1.out.mono ?_); rintro e w6 ⟨⟨A7, c7, r7, rfl, hs7, hr7, hm7, hc7⟩, hb6⟩) | (refine xAh rfl 39 _ _ rfl w6.heap.size 39 [] zB.toList [] [.int .i64 1, .slice A7 1 c7] rfl rfl (Blk.new _ _ _) rfl (by kernel_rfl) (by simp [Value.oneCell']) ?_; intro w7 g7 u7))
 have hb67 : Below w6.heap.size w6 w7 := (wa1 _ _).trans (u7.b _ (Nat.le_refl _))
 have h57 := xAa hb6 hb67
 have HC7 := qzL (HC5.out.then_ h57)
 have HB7 := qzL (xAa HB5.out h57)
 have gc7 := gc5.then_ h57
 have G7 : Hid (Blk w7 w6.heap.size 39 #[.int .i64 1, .slice A7 1 c7]) := g7
 have HS7 := qzL ((hs7.below hb67).more hb67.size)
 have HR7 := qzL hr7
 have HM7 : Hid (∀ x ∈ r7, Stm w7 x.1 x.2) := fun x hx => (hm7 x hx).then_ hb67
 have HW2 := qzL (watch_w m A2 c2 w7 (xBx HT.out HB7.out) HC7.out 2 (by decide) [-1, -1] 2 rfl ((HS2.out.below h57).more h57.size) (by decide) (by decide) [wSt 2 3 0, wSt 2 5 0] 2 w_watch2 rfl)
 obtain ⟨b7, eb7⟩ : ∃ b, w6.heap.size = b := ⟨_, rfl⟩
 rw [eb7] at G7 ⊢
 clear gc5 hb6 hb67 h57 HC5 HB5 HW1 HS2 g7 u7 hs7 hr7 hm7 eb7
 go_upto_region 7 with (first | (refine rowC (by rfl) _ rfl bc rfl gc7 ?_; simp only [Act.put, qzG, qzH, qzI]) | (go_at_call 11; (with_reducible refine HW2.out.mono ?_); rintro e w8 ⟨⟨A9, c9, r9, rfl, hs9, hr9, hm9, hc9⟩, hb8⟩) | (refine xAh rfl 39 _ _ rfl w8.heap.size 39 [] zB.toList [] [.int .i64 2, .slice A9 2 c9] rfl rfl (Blk.new _ _ _) rfl (by kernel_rfl) (by simp [Value.oneCell']) ?_; intro w9 g9 u9))
 have hb89 : Below w8.heap.size w8 w9 := (wa1 _ _).trans (u9.b _ (Nat.le_refl _))
 have h79 := xAa hb8 hb89
 have HC9 := qzL (HC7.out.then_ h79)
 have HB9 := qzL (xAa HB7.out h79)
 have GC9 := qzL (gc7.then_ h79)
 have G79 := qzL (G7.out.then_ h79)
 have G9 : Hid (Blk w9 w8.heap.size 39 #[.int .i64 2, .slice A9 2 c9]) := g9
 have HS79 := qzL ((HS7.out.below h79).more h79.size)
 have HS99 := qzL ((hs9.below hb89).more hb89.size)
 have HM79 : Hid (∀ x ∈ r7, Stm w9 x.1 x.2) := fun x hx => (HM7.out x hx).then_ h79
 have HM99 : Hid (∀ x ∈ r9, Stm w9 x.1 x.2) := fun x hx => (hm9 x hx).then_ hb89
 obtain ⟨b9, eb9⟩ : ∃ b, w8.heap.size = b := ⟨_, rfl⟩
 rw [eb9] at G9 ⊢
 obtain ⟨x7, rfl⟩ : ∃ x, r7 = [x] := by
  have := congrArg List.length HR7.out
  simp at this
  exact List.length_eq_one_iff.1 this
 have e7 : x7.1 = wSt 2 3 0 := by have := HR7.out; simpa using this
 obtain ⟨x8, x9, rfl⟩ : ∃ x y, r9 = [x, y] := by
  rcases r9 with _ | ⟨x8, r9⟩
  ·simp at hr9
  rcases r9 with _ | ⟨x9, r9⟩
  ·simp at hr9
  rcases r9 with _ | ⟨x10, r9⟩
  ·exact ⟨x8, x9, rfl⟩
  ·simp at hr9
 have e8 : x8.1 = wSt 2 3 0 ∧ x9.1 = wSt 2 5 0 := by simpa using hr9
 have sok : ∀ L, (0, L) = watchF wC (wSee 2) [-1, -1] ∨ (0, L) = watchF wC (wSee 1) [0, -1, -1] → True := fun _ _ => trivial
 have ok3 : SOk wC (wSt 2 3 0) := xDu.1 (by kernel_rfl)
 have ok5 : SOk wC (wSt 2 5 0) := xDu.1 (by kernel_rfl)
 have HV7 : Hid (∀ W, Below w9.heap.size w9 W → Calls Tryz.prog 15 #[.agg (coA wC m), .agg #[.int .i64 1, .slice A7 1 c7], .int .i64 0] W fun e w' => e = .returned (.int .i64 1) ∧ Below W.heap.size W w') := fun W hb => by
  have h := xD2 wC m 1 [x7] 0 A7 c7 W (HC9.out.then_ hb) (by decide) ((HS79.out.below hb).more hb.size) (fun x hx => (HM79.out x hx).then_ hb) (fun x hx => by rw [List.mem_singleton.1 hx, e7]; exact ok3) (by simp) (by decide) hc7
  rw [show xD3 ([x7].map (·.1)) 0 = 1 by rw [List.map_singleton, e7]; kernel_rfl] at h
  exact h
 have HV9 : Hid (∀ W, Below w9.heap.size w9 W → Calls Tryz.prog 15 #[.agg (coA wC m), .agg #[.int .i64 2, .slice A9 2 c9], .int .i64 0] W fun e w' => e = .returned (.int .i64 1) ∧ Below W.heap.size W w') := fun W hb => by
  have h := xD2 wC m 2 [x8, x9] 0 A9 c9 W (HC9.out.then_ hb) (by decide) ((HS99.out.below hb).more hb.size) (fun x hx => (HM99.out x hx).then_ hb) (fun x hx => by
   rcases List.mem_cons.1 hx with e | hx
   ·rw [e, e8.1]; exact ok3
   ·rw [List.mem_singleton.1 hx, e8.2]; exact ok5) (by simp) (by decide) hc9
  rw [show xD3 ([x8, x9].map (·.1)) 0 = 1 by rw [List.map_cons, List.map_singleton, e8.1, e8.2]; kernel_rfl] at h
  exact h
 obtain ⟨s8, q8⟩ := x8
 obtain ⟨s9, q9⟩ := x9
 obtain ⟨rfl, rfl⟩ := e8
 obtain ⟨b0, o0, eA9, hl0, hc0⟩ := xAv (k := 0) HS99.out rfl
 obtain ⟨b0', o0', eA9', hl1, hc1⟩ := xAv (k := 1) HS99.out rfl
 have hba : b0 = b0' ∧ o0 = o0' := by rw [eA9] at eA9'; injection eA9' with e; injection e with e1 e2; exact ⟨e1, e2⟩
 obtain ⟨rfl, rfl⟩ := hba
 have i0 : ∀ W : World, (Instr.indexAt 31 (.slice A9 2 c9) (.int .i64 0)).run Tryz.prog W = .ok (.pointer (some ⟨b0, o0, none⟩)) W := fun W => by
  have h := xAp (t := 31) (size := 4) (cap := c9) (len := 2) (k := 0) eA9 (by omega) (by kernel_rfl) (fun W => by kernel_rfl) W
  rw [Nat.zero_mul, Nat.add_zero] at h
  exact h
 have i1 : ∀ W : World, (Instr.indexAt 31 (.slice A9 2 c9) (.int .i64 1)).run Tryz.prog W = .ok (.pointer (some ⟨b0, o0 + 4, none⟩)) W := fun W => by
  have h := xAp (t := 31) (size := 4) (cap := c9) (len := 2) (k := 1) eA9 (by omega) (by kernel_rfl) (fun W => by kernel_rfl) W
  rw [Nat.one_mul] at h
  exact h
 have s03 : w9.cell? ⟨b0, o0 + 3, none⟩ = some (.slice q8.m 1 q8.mc) := by have h := hc0 3 _ rfl; rw [Nat.zero_mul, Nat.add_zero] at h; exact h
 have s13 : w9.cell? ⟨b0, o0 + 4 + 3, none⟩ = some (.slice q9.m 1 q9.mc) := by have h := hc1 3 _ rfl; rw [Nat.one_mul] at h; exact h
 have hm8 := (HM99.out _ (List.mem_cons_self ..)).m
 have hm9' := (HM99.out (wSt 2 5 0, q9) (by simp)).m
 obtain ⟨d0, p0, eD, hd0, hcD⟩ := xAv (k := 0) hm8 rfl
 obtain ⟨d1, p1, eD1, hd1, hcD1⟩ := xAv (k := 0) hm9' rfl
 have j0 : ∀ W : World, (Instr.indexAt 45 (.slice q8.m 1 q8.mc) (.int .i64 0)).run Tryz.prog W = .ok (.pointer (some ⟨d0, p0, none⟩)) W := fun W => by
  have h := xAp (t := 45) (size := 5) (cap := q8.mc) (len := 1) (k := 0) eD (by omega) (by kernel_rfl) (fun W => by kernel_rfl) W
  rw [Nat.zero_mul, Nat.add_zero] at h
  exact h
 have j1 : ∀ W : World, (Instr.indexAt 45 (.slice q9.m 1 q9.mc) (.int .i64 0)).run Tryz.prog W = .ok (.pointer (some ⟨d1, p1, none⟩)) W := fun W => by
  have h := xAp (t := 45) (size := 5) (cap := q9.mc) (len := 1) (k := 0) eD1 (by omega) (by kernel_rfl) (fun W => by kernel_rfl) W
  rw [Nat.zero_mul, Nat.add_zero] at h
  exact h
 have t0 : w9.cell? ⟨d0, p0, none⟩ = some (.int .i64 3) := by have := hcD 0 _ rfl; simpa using this
 have t1 : w9.cell? ⟨d1, p1, none⟩ = some (.int .i64 5) := by have := hcD1 0 _ rfl; simpa using this
 clear gc7 hb8 hb89 h79 HC7 HB7 HW2 g9 u9 hs9 hr9 hm9 eb9 HS7 HR7 HM7 G7 HS79 HS99 HM79 HM99 e7 sok ok3 ok5 hc0 hc1 eA9 eA9' hm8 hm9' hcD hcD1 eD eD1
 refine wp_region_held_drew (S := fun w' => Hid (Below w9.heap.size w9 w')) (by kernel_rfl) (qzL (Below.drew (Below.refl _ _))) (fun hHeld => ?_)
 simp only [List.size_toArray, List.length_cons, List.length_nil, Nat.reduceAdd, Array.replicate_succ, Array.replicate_zero, List.push_toArray, qzF, qzE]
 refine xAu (i := 0) (o := ⟨some 37, _, _, _, _, _⟩) (.int .i64 0) rfl (by kernel_rfl) (by rfl) (fun _ h => by go_simp <;> exact h) hHeld ?_
 try simp only [Act.put, qzG, qzI, qzH]
 refine xAu (i := 1) (o := ⟨some 38, _, _, _, _, _⟩) (.bool true) rfl (by kernel_rfl) (by rfl) (fun _ h => by go_simp <;> exact h) hHeld ?_
 try simp only [Act.put, qzG, qzI, qzH]
 refine xAu (i := 2) (o := ⟨some 39, _, _, _, _, _⟩) (.bool true) rfl (by kernel_rfl) (by rfl) (fun _ h => by go_simp <;> exact h) hHeld ?_
 try simp only [Act.put, qzG, qzI, qzH]
 refine xAu (i := 3) (o := ⟨some 40, _, _, _, _, _⟩) (.int .i64 0) rfl (by kernel_rfl) (by rfl) (fun _ h => by go_simp <;> exact h) hHeld ?_
 try simp only [Act.put, qzG, qzI, qzH]
 refine xAu (i := 4) (o := ⟨some 41, _, _, _, _, _⟩) (.bool true) rfl (by kernel_rfl) (by rfl) (fun _ h => by go_simp <;> exact h) hHeld ?_
 try simp only [Act.put, qzG, qzI, qzH]
 refine xAu (i := 5) (o := ⟨some 42, _, _, _, _, _⟩) (.bool true) rfl (by kernel_rfl) (by rfl) (fun _ h => by go_simp <;> exact h) hHeld ?_
 try simp only [Act.put, qzG, qzI, qzH]
 refine xAu (i := 6) (o := ⟨some 43, _, _, _, _, _⟩) (.bool true) rfl (by kernel_rfl) (by rfl) (fun _ h => by go_simp <;> exact h) hHeld ?_
 try simp only [Act.put, qzG, qzI, qzH]
 refine xAu (i := 7) (o := ⟨some 44, _, _, _, _, _⟩) (.int .i64 0) rfl (by kernel_rfl) (by rfl) (fun _ h => by go_simp <;> exact h) hHeld ?_
 try simp only [Act.put, qzG, qzI, qzH]
 refine xAu (i := 8) (o := ⟨some 45, _, _, _, _, _⟩) (.bool true) rfl (by kernel_rfl) (by rfl) (fun _ h => by go_simp <;> exact h) hHeld ?_
 try simp only [Act.put, qzG, qzI, qzH]
 refine xAu (i := 9) (o := ⟨some 46, _, _, _, _, _⟩) (.bool true) rfl (by kernel_rfl) (by rfl) (fun _ h => by go_simp <;> exact h) hHeld ?_
 try simp only [Act.put, qzG, qzI, qzH]
 refine xAu (i := 10) (o := ⟨some 47, _, _, _, _, _⟩) (.bool true) rfl (by kernel_rfl) (by rfl) (fun _ h => by go_simp <;> exact h) hHeld ?_
 try simp only [Act.put, qzG, qzI, qzH]
 refine xAu (i := 11) (o := ⟨some 48, _, _, _, _, _⟩) (.int .i64 0) rfl (by kernel_rfl) (by rfl) (fun _ h => by go_simp <;> exact h) hHeld ?_
 try simp only [Act.put, qzG, qzI, qzH]
 refine xAu (i := 12) (o := ⟨some 49, _, _, _, _, _⟩) (.bool true) rfl (by kernel_rfl) (by rfl) (fun _ h => by go_simp <;> exact h) hHeld ?_
 try simp only [Act.put, qzG, qzI, qzH]
 refine xAu (i := 13) (o := ⟨some 50, _, _, _, _, _⟩) (.bool true) rfl (by kernel_rfl) (by rfl) (fun _ h => by go_simp <;> exact h) hHeld ?_
 try simp only [Act.put, qzG, qzI, qzH]
 refine xAu (i := 14) (o := ⟨some 51, _, _, _, _, _⟩) (.bool true) rfl (by kernel_rfl) (by rfl) (fun _ h => by go_simp <;> exact h) hHeld ?_
 try simp only [Act.put, qzG, qzI, qzH]
 refine xAu (i := 15) (o := ⟨some 52, _, _, _, _, _⟩) (.slice A2 2 c2) rfl (by kernel_rfl) (by rfl) (fun _ h => by go_simp <;> exact h) hHeld ?_
 try simp only [Act.put, qzG, qzI, qzH]
 refine xAu (i := 16) (o := ⟨some 53, _, _, _, _, _⟩) (.int .i64 2) rfl (by kernel_rfl) (by rfl) (fun _ h => by go_simp <;> exact h) hHeld ?_
 try simp only [Act.put, qzG, qzI, qzH]
 refine xAu (i := 17) (o := ⟨some 54, _, _, _, _, _⟩) (.bool true) rfl (by kernel_rfl) (by rfl) (fun _ h => by go_simp <;> exact h) hHeld ?_
 try simp only [Act.put, qzG, qzI, qzH]
 refine xAu (i := 18) (o := ⟨some 55, _, _, _, _, _⟩) (.bool true) rfl (by kernel_rfl) (by rfl) (fun _ h => by go_simp <;> exact h) hHeld ?_
 try simp only [Act.put, qzG, qzI, qzH]
 refine xAu (i := 19) (o := ⟨some 56, _, _, _, _, _⟩) (.bool true) rfl (by kernel_rfl) (by rfl) (fun _ h => by go_simp <;> exact h) hHeld ?_
 try simp only [Act.put, qzG, qzI, qzH]
 refine xAu (i := 20) (o := ⟨some 57, _, _, _, _, _⟩) (.pointer (some ⟨b7, 1, none⟩)) rfl (by kernel_rfl) (by rfl) (fun _ h => by go_simp <;> exact h) hHeld ?_
 try simp only [Act.put, qzG, qzI, qzH]
 refine xAu (i := 21) (o := ⟨some 58, _, _, _, _, _⟩) (.slice A7 1 c7) rfl (by kernel_rfl) (by rfl) (fun _ h => by have hc := (G79.out.then_ hHeld.out).cell 1; go_simp <;> exact h) hHeld ?_
 try simp only [Act.put, qzG, qzI, qzH]
 refine xAu (i := 22) (o := ⟨some 59, _, _, _, _, _⟩) (.int .i64 1) rfl (by kernel_rfl) (by rfl) (fun _ h => by go_simp <;> exact h) hHeld ?_
 try simp only [Act.put, qzG, qzI, qzH]
 refine xAu (i := 23) (o := ⟨some 60, _, _, _, _, _⟩) (.bool true) rfl (by kernel_rfl) (by rfl) (fun _ h => by go_simp <;> exact h) hHeld ?_
 try simp only [Act.put, qzG, qzI, qzH]
 refine xAu (i := 24) (o := ⟨some 61, _, _, _, _, _⟩) (.bool true) rfl (by kernel_rfl) (by rfl) (fun _ h => by go_simp <;> exact h) hHeld ?_
 try simp only [Act.put, qzG, qzI, qzH]
 refine xAu (i := 25) (o := ⟨some 62, _, _, _, _, _⟩) (.bool true) rfl (by kernel_rfl) (by rfl) (fun _ h => by go_simp <;> exact h) hHeld ?_
 try simp only [Act.put, qzG, qzI, qzH]
 refine xAu (i := 26) (o := ⟨some 63, _, _, _, _, _⟩) (.pointer (some ⟨b9, 1, none⟩)) rfl (by kernel_rfl) (by rfl) (fun _ h => by go_simp <;> exact h) hHeld ?_
 try simp only [Act.put, qzG, qzI, qzH]
 refine xAu (i := 27) (o := ⟨some 64, _, _, _, _, _⟩) (.slice A9 2 c9) rfl (by kernel_rfl) (by rfl) (fun _ h => by have hc := (G9.out.then_ hHeld.out).cell 1; go_simp <;> exact h) hHeld ?_
 try simp only [Act.put, qzG, qzI, qzH]
 refine xAu (i := 28) (o := ⟨some 65, _, _, _, _, _⟩) (.int .i64 2) rfl (by kernel_rfl) (by rfl) (fun _ h => by go_simp <;> exact h) hHeld ?_
 try simp only [Act.put, qzG, qzI, qzH]
 refine xAu (i := 29) (o := ⟨some 66, _, _, _, _, _⟩) (.bool true) rfl (by kernel_rfl) (by rfl) (fun _ h => by go_simp <;> exact h) hHeld ?_
 try simp only [Act.put, qzG, qzI, qzH]
 refine xAu (i := 30) (o := ⟨some 67, _, _, _, _, _⟩) (.bool true) rfl (by kernel_rfl) (by rfl) (fun _ h => by go_simp <;> exact h) hHeld ?_
 try simp only [Act.put, qzG, qzI, qzH]
 refine xAu (i := 31) (o := ⟨some 68, _, _, _, _, _⟩) (.bool true) rfl (by kernel_rfl) (by rfl) (fun _ h => by go_simp <;> exact h) hHeld ?_
 try simp only [Act.put, qzG, qzI, qzH]
 refine wpAnyH_take (i := 32) (oi := ⟨some 69, _, _, _, _, _⟩) rfl (by kernel_rfl) (by kernel_rfl) (by kernel_rfl) (fun _ _ _ h => h) (yieldsIf_row (by rfl) 27 _ rfl bc rfl 27 _ (fun w hw => GC9.out.then_ hw.out) ⟨_, Tryz.underlying27⟩ (by kernel_rfl)) (by assumption) ?_
 try simp only [Act.put, qzG, qzI, qzH]
 refine wpAnyH_take (i := 33) (oi := ⟨some 70, _, _, _, _, _⟩) rfl (by kernel_rfl) (by kernel_rfl) (by kernel_rfl) (fun _ _ _ h => h) (yieldsIf_row (by rfl) 39 _ rfl b7 rfl 39 _ (fun w hw => G79.out.then_ hw.out) ⟨_, Tryz.underlying39⟩ (by kernel_rfl)) (by assumption) ?_
 try simp only [Act.put, qzG, qzI, qzH]
 refine wpAnyH_ready (rs := [34]) (by kernel_rfl) (by simp) ?_
 refine AllReadyH.cons (o := ⟨some 71, _, _, _, _, _⟩) rfl (fun K hK => ?_) AllReadyH.nil
 rw [if_pos (by rfl)]
 go_simp
 (go_at_call 15; (with_reducible refine (HV7.out _ hHeld.out).mono ?_); rintro e wa ⟨rfl, hba⟩)
 refine hK.out _ _ (qzL (xAa hHeld.out hba)) (fun hHeld2 => ?_)
 clear hK K hHeld
 have hHeld := hHeld2
 clear hHeld2
 try simp only [qzG, qzI, qzH]
 refine xAu (i := 35) (o := ⟨some 72, _, _, _, _, _⟩) (.bool true) rfl (by kernel_rfl) (by rfl) (fun _ h => by go_simp <;> exact h) hHeld ?_
 try simp only [Act.put, qzG, qzI, qzH]
 refine xAu (i := 36) (o := ⟨some 73, _, _, _, _, _⟩) (.bool true) rfl (by kernel_rfl) (by rfl) (fun _ h => by go_simp <;> exact h) hHeld ?_
 try simp only [Act.put, qzG, qzI, qzH]
 refine xAu (i := 37) (o := ⟨some 74, _, _, _, _, _⟩) (.bool true) rfl (by kernel_rfl) (by rfl) (fun _ h => by go_simp <;> exact h) hHeld ?_
 try simp only [Act.put, qzG, qzI, qzH]
 refine wpAnyH_take (i := 38) (oi := ⟨some 75, _, _, _, _, _⟩) rfl (by kernel_rfl) (by kernel_rfl) (by kernel_rfl) (fun _ _ _ h => h) (yieldsIf_row (by rfl) 27 _ rfl bc rfl 27 _ (fun w hw => GC9.out.then_ hw.out) ⟨_, Tryz.underlying27⟩ (by kernel_rfl)) (by assumption) ?_
 try simp only [Act.put, qzG, qzI, qzH]
 refine wpAnyH_take (i := 39) (oi := ⟨some 76, _, _, _, _, _⟩) rfl (by kernel_rfl) (by kernel_rfl) (by kernel_rfl) (fun _ _ _ h => h) (yieldsIf_row (by rfl) 39 _ rfl b9 rfl 39 _ (fun w hw => G9.out.then_ hw.out) ⟨_, Tryz.underlying39⟩ (by kernel_rfl)) (by assumption) ?_
 try simp only [Act.put, qzG, qzI, qzH]
 refine wpAnyH_ready (rs := [40]) (by kernel_rfl) (by simp) ?_
 refine AllReadyH.cons (o := ⟨some 77, _, _, _, _, _⟩) rfl (fun K hK => ?_) AllReadyH.nil
 rw [if_pos (by rfl)]
 go_simp
 (go_at_call 15; (with_reducible refine (HV9.out _ hHeld.out).mono ?_); rintro e wa ⟨rfl, hba⟩)
 refine hK.out _ _ (qzL (xAa hHeld.out hba)) (fun hHeld2 => ?_)
 clear hK K hHeld
 have hHeld := hHeld2
 clear hHeld2
 try simp only [qzG, qzI, qzH]
 refine xAu (i := 41) (o := ⟨some 78, _, _, _, _, _⟩) (.bool true) rfl (by kernel_rfl) (by rfl) (fun _ h => by go_simp <;> exact h) hHeld ?_
 try simp only [Act.put, qzG, qzI, qzH]
 refine xAu (i := 42) (o := ⟨some 79, _, _, _, _, _⟩) (.bool true) rfl (by kernel_rfl) (by rfl) (fun _ h => by go_simp <;> exact h) hHeld ?_
 try simp only [Act.put, qzG, qzI, qzH]
 refine xAu (i := 43) (o := ⟨some 80, _, _, _, _, _⟩) (.bool true) rfl (by kernel_rfl) (by rfl) (fun _ h => by go_simp <;> exact h) hHeld ?_
 try simp only [Act.put, qzG, qzI, qzH]
 refine wpAnyH_take (i := 44) (oi := ⟨some 81, _, _, _, _, _⟩) (v := .pointer (some ⟨b9, 1, none⟩)) rfl (by kernel_rfl) (by kernel_rfl) (by kernel_rfl) (fun _ _ _ h => h) (Or.inl ⟨by rfl, fun w hw => by go_simp⟩) (by assumption) ?_
 try simp only [Act.put, qzG, qzI, qzH]
 refine wpAnyH_take (i := 45) (oi := ⟨some 82, _, _, _, _, _⟩) (v := .slice A9 2 c9) rfl (by kernel_rfl) (by kernel_rfl) (by kernel_rfl) (fun _ _ _ h => h) (Or.inl ⟨by rfl, fun w hw => by have hc := (G9.out.then_ hw.out).cell 1; go_simp⟩) (by assumption) ?_
 try simp only [Act.put, qzG, qzI, qzH]
 refine wpAnyH_take (i := 46) (oi := ⟨some 83, _, _, _, _, _⟩) (v := .pointer (some ⟨b0, o0, none⟩)) rfl (by kernel_rfl) (by kernel_rfl) (by kernel_rfl) (fun _ _ _ h => h) (Or.inl ⟨by rfl, fun w hw => by have h := i0 w; go_simp⟩) (by assumption) ?_
 try simp only [Act.put, qzG, qzI, qzH]
 refine wpAnyH_take (i := 47) (oi := ⟨some 84, _, _, _, _, _⟩) (v := .pointer (some ⟨b0, o0 + 3, none⟩)) rfl (by kernel_rfl) (by kernel_rfl) (by kernel_rfl) (fun _ _ _ h => h) (Or.inl ⟨by rfl, fun w hw => by go_simp⟩) (by assumption) ?_
 try simp only [Act.put, qzG, qzI, qzH]
 refine wpAnyH_take (i := 48) (oi := ⟨some 85, _, _, _, _, _⟩) (v := .slice q8.m 1 q8.mc) rfl (by kernel_rfl) (by kernel_rfl) (by kernel_rfl) (fun _ _ _ h => h) (Or.inl ⟨by rfl, fun w hw => by have hc := (hw.out.cell (p := ⟨b0, o0 + 3, none⟩) hl0).trans s03; go_simp⟩) (by assumption) ?_
 try simp only [Act.put, qzG, qzI, qzH]
 refine wpAnyH_take (i := 49) (oi := ⟨some 86, _, _, _, _, _⟩) (v := .pointer (some ⟨d0, p0, none⟩)) rfl (by kernel_rfl) (by kernel_rfl) (by kernel_rfl) (fun _ _ _ h => h) (Or.inl ⟨by rfl, fun w hw => by have h := j0 w; go_simp⟩) (by assumption) ?_
 try simp only [Act.put, qzG, qzI, qzH]
 refine wpAnyH_take (i := 50) (oi := ⟨some 87, _, _, _, _, _⟩) (v := .pointer (some ⟨d0, p0, none⟩)) rfl (by kernel_rfl) (by kernel_rfl) (by kernel_rfl) (fun _ _ _ h => h) (Or.inl ⟨by rfl, fun w hw => by go_simp⟩) (by assumption) ?_
 try simp only [Act.put, qzG, qzI, qzH]
 refine wpAnyH_take (i := 51) (oi := ⟨some 88, _, _, _, _, _⟩) (v := .int .i64 3) rfl (by kernel_rfl) (by kernel_rfl) (by kernel_rfl) (fun _ _ _ h => h) (Or.inl ⟨by rfl, fun w hw => by have hc := (hw.out.cell (p := ⟨d0, p0, none⟩) hd0).trans t0; go_simp⟩) (by assumption) ?_
 try simp only [Act.put, qzG, qzI, qzH]
 refine wpAnyH_take (i := 52) (oi := ⟨some 89, _, _, _, _, _⟩) (v := .pointer (some ⟨b9, 1, none⟩)) rfl (by kernel_rfl) (by kernel_rfl) (by kernel_rfl) (fun _ _ _ h => h) (Or.inl ⟨by rfl, fun w hw => by go_simp⟩) (by assumption) ?_
 try simp only [Act.put, qzG, qzI, qzH]
 refine wpAnyH_take (i := 53) (oi := ⟨some 90, _, _, _, _, _⟩) (v := .slice A9 2 c9) rfl (by kernel_rfl) (by kernel_rfl) (by kernel_rfl) (fun _ _ _ h => h) (Or.inl ⟨by rfl, fun w hw => by have hc := (G9.out.then_ hw.out).cell 1; go_simp⟩) (by assumption) ?_
 try simp only [Act.put, qzG, qzI, qzH]
 refine wpAnyH_take (i := 54) (oi := ⟨some 91, _, _, _, _, _⟩) (v := .pointer (some ⟨b0, o0 + 4, none⟩)) rfl (by kernel_rfl) (by kernel_rfl) (by kernel_rfl) (fun _ _ _ h => h) (Or.inl ⟨by rfl, fun w hw => by have h := i1 w; go_simp⟩) (by assumption) ?_
 try simp only [Act.put, qzG, qzI, qzH]
 refine wpAnyH_take (i := 55) (oi := ⟨some 92, _, _, _, _, _⟩) (v := .pointer (some ⟨b0, o0 + 4 + 3, none⟩)) rfl (by kernel_rfl) (by kernel_rfl) (by kernel_rfl) (fun _ _ _ h => h) (Or.inl ⟨by rfl, fun w hw => by go_simp⟩) (by assumption) ?_
 try simp only [Act.put, qzG, qzI, qzH]
 refine wpAnyH_take (i := 56) (oi := ⟨some 93, _, _, _, _, _⟩) (v := .slice q9.m 1 q9.mc) rfl (by kernel_rfl) (by kernel_rfl) (by kernel_rfl) (fun _ _ _ h => h) (Or.inl ⟨by rfl, fun w hw => by have hc := (hw.out.cell (p := ⟨b0, o0 + 4 + 3, none⟩) hl0).trans s13; go_simp⟩) (by assumption) ?_
 try simp only [Act.put, qzG, qzI, qzH]
 refine wpAnyH_take (i := 57) (oi := ⟨some 94, _, _, _, _, _⟩) (v := .pointer (some ⟨d1, p1, none⟩)) rfl (by kernel_rfl) (by kernel_rfl) (by kernel_rfl) (fun _ _ _ h => h) (Or.inl ⟨by rfl, fun w hw => by have h := j1 w; go_simp⟩) (by assumption) ?_
 try simp only [Act.put, qzG, qzI, qzH]
 refine wpAnyH_take (i := 58) (oi := ⟨some 95, _, _, _, _, _⟩) (v := .pointer (some ⟨d1, p1, none⟩)) rfl (by kernel_rfl) (by kernel_rfl) (by kernel_rfl) (fun _ _ _ h => h) (Or.inl ⟨by rfl, fun w hw => by go_simp⟩) (by assumption) ?_
 try simp only [Act.put, qzG, qzI, qzH]
 refine wpAnyH_take (i := 59) (oi := ⟨some 96, _, _, _, _, _⟩) (v := .int .i64 5) rfl (by kernel_rfl) (by kernel_rfl) (by kernel_rfl) (fun _ _ _ h => h) (Or.inl ⟨by rfl, fun w hw => by have hc := (hw.out.cell (p := ⟨d1, p1, none⟩) hd1).trans t1; go_simp⟩) (by assumption) ?_
 try simp only [Act.put, qzG, qzI, qzH]
 refine wpAnyH_take (i := 60) (oi := ⟨some 97, _, _, _, _, _⟩) (v := .bool true) rfl (by kernel_rfl) (by kernel_rfl) (by kernel_rfl) (fun _ _ _ h => h) (Or.inl ⟨by rfl, fun w hw => by first | rfl | go_simp⟩) (by assumption) ?_
 try simp only [Act.put, qzG, qzI, qzH]
 refine wpAnyH_take (i := 61) (oi := ⟨some 98, _, _, _, _, _⟩) (v := .bool true) rfl (by kernel_rfl) (by kernel_rfl) (by kernel_rfl) (fun _ _ _ h => h) (Or.inl ⟨by rfl, fun w hw => by first | rfl | go_simp⟩) (by assumption) ?_
 try simp only [Act.put, qzG, qzI, qzH]
 refine wpAnyH_take (i := 62) (oi := ⟨some 0, _, _, _, _, _⟩) (v := .bool true) rfl (by kernel_rfl) (by kernel_rfl) (by kernel_rfl) (fun _ _ _ h => h) (Or.inl ⟨by rfl, fun w hw => by first | rfl | go_simp⟩) (by assumption) ?_
 try simp only [Act.put, qzG, qzI, qzH]
 refine wpAnyH_done (by kernel_rfl) ?_ _
 have HBV := qzL (xAa HB9.out hHeld.out)
 go_wp2
 go_ret
 exact ⟨rfl, HBV.out⟩
end Go.Proofs.YtffceokjeonpcaaGreatDoor
