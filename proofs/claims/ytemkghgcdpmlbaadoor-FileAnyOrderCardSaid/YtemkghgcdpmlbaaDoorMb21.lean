/- Contracts of functions and plain laws, joined: Fe3. -/
import Derived.Test.YtemkghgcdpmlbaaDoorMb19
import Derived.Test.YtemkghgcdpmlbaaDoorMb20
/- The walk of the laws' head. -/
namespace Go.Proofs.YtemkghgcdpmlbaaDoor
open Go.RowKit Go.Sort

theorem elFl : ElT Tryd.prog 31 3 := ⟨⟨_, Tryd.underlying31⟩, by kernel_rfl, ⟨.agg #[.int .i64 0, .slice none 0 0, .slice none 0 0], rfl, fun w => by kernel_rfl⟩⟩
theorem filt_l2 {W : World} {l : Nat} {p q : Fac} (g : Blk W l 33 (eF p ++ eF q).toArray) : Filt W ⟨1, [p, q], []⟩ ⟨some ⟨l, 0, none⟩, 2, none, 0⟩ :=
  ⟨blk_seg (xs := [p, q]) eF_len g, Seg.nil _ _ _ _ _, by simp, by simp, by simp, by simp, (fun h => by cases h), fun _ => ⟨rfl, rfl⟩, by simp, by simp⟩
theorem filt_l2o {W : World} {l o : Nat} {p q : Fac} {b : Int × Int} (g : Blk W l 33 (eF p ++ eF q).toArray) (g2 : Blk W o 35 (bA b)) : Filt W ⟨1, [p, q], [b]⟩ ⟨some ⟨l, 0, none⟩, 2, some ⟨o, 0, none⟩, 1⟩ :=
  ⟨blk_seg (xs := [p, q]) eF_len g, blk_seg (xs := [b]) eS_len g2, by simp, by simp, by simp, by simp, (fun h => by cases h), (fun h => by cases h), by simp, by simp⟩
theorem filt_l3 {W : World} {l : Nat} {p q r : Fac} (g : Blk W l 33 (eF p ++ eF q ++ eF r).toArray) : Filt W ⟨1, [p, q, r], []⟩ ⟨some ⟨l, 0, none⟩, 3, none, 0⟩ :=
  ⟨blk_seg (xs := [p, q, r]) eF_len g, Seg.nil _ _ _ _ _, by simp, by simp, by simp, by simp, (fun h => by cases h), fun _ => ⟨rfl, rfl⟩, by simp, by simp⟩
theorem filt_l3o {W : World} {l o : Nat} {p q r : Fac} {b : Int × Int} (g : Blk W l 33 (eF p ++ eF q ++ eF r).toArray) (g2 : Blk W o 35 (bA b)) : Filt W ⟨1, [p, q, r], [b]⟩ ⟨some ⟨l, 0, none⟩, 3, some ⟨o, 0, none⟩, 1⟩ :=
  ⟨blk_seg (xs := [p, q, r]) eF_len g, blk_seg (xs := [b]) eS_len g2, by simp, by simp, by simp, by simp, (fun h => by cases h), (fun h => by cases h), by simp, by simp⟩
/-- two files that are equal -/
theorem same_eq {F G : Fil} {k m : Fm} {w : World} (hk : Filt w F k) (hg : Filt w G m) (e : F = G) : Calls Tryd.prog 17 #[.agg (flA F k), .agg (flA G m)] w fun e w' => e = .returned (.bool true) ∧ Below w.heap.size w w' :=
  (same_any F G k m w hk hg).mono fun _ _ ⟨a, b⟩ => ⟨by rw [a, decide_eq_true e], b⟩
abbrev c2A (p q : Fac) : Array Value := #[.int .i64 p.ref, .int .i64 p.act, .int .i64 p.low, .int .i64 p.high, .int .i64 p.filed, .bool p.sec, .int .i64 q.ref, .int .i64 q.act, .int .i64 q.low, .int .i64 q.high, .int .i64 q.filed, .bool q.sec]
abbrev c3A (p q r : Fac) : Array Value := #[.int .i64 p.ref, .int .i64 p.act, .int .i64 p.low, .int .i64 p.high, .int .i64 p.filed, .bool p.sec, .int .i64 q.ref, .int .i64 q.act, .int .i64 q.low, .int .i64 q.high, .int .i64 q.filed, .bool q.sec, .int .i64 r.ref, .int .i64 r.act, .int .i64 r.low, .int .i64 r.high, .int .i64 r.filed, .bool r.sec]
theorem exB_B : exB.B := by
  refine ⟨fun x hx => ?_, fun b hb => ?_⟩
  · simp only [exB, List.mem_cons, List.not_mem_nil, or_false] at hx
    rcases hx with rfl | rfl | rfl <;> (unfold I64; simp [thH, xH, niH])
  · simp only [exB, List.mem_cons, List.not_mem_nil, or_false] at hb
    rw [hb]
    unfold I64; simp
theorem same_l3 {F : Fil} {k : Fm} {W : World} {l : Nat} {p q r : Fac} (hk : Filt W F k) (e : F = ⟨1, [p, q, r], []⟩) (g : Blk W l 33 (c3A p q r)) : Calls Tryd.prog 17 #[.agg (flA F k), .agg #[.int .i64 1, .slice (some ⟨l, 0, none⟩) 3 3, .slice none 0 0]] W fun e w' => e = .returned (.bool true) ∧ Below W.heap.size W w' := by
  have h := same_eq hk (filt_l3 g) e
  exact h
theorem same_l3o {F : Fil} {k : Fm} {W : World} {l o : Nat} {p q r : Fac} {b : Int × Int} (hk : Filt W F k) (e : F = ⟨1, [p, q, r], [b]⟩) (g : Blk W l 33 (c3A p q r)) (g2 : Blk W o 35 (bA b)) : Calls Tryd.prog 17 #[.agg (flA F k), .agg #[.int .i64 1, .slice (some ⟨l, 0, none⟩) 3 3, .slice (some ⟨o, 0, none⟩) 1 1]] W fun e w' => e = .returned (.bool true) ∧ Below W.heap.size W w' := by
  have h := same_eq hk (filt_l3o g g2) e
  exact h
theorem same_l2 {F : Fil} {k : Fm} {W : World} {l : Nat} {p q : Fac} (hk : Filt W F k) (e : F = ⟨1, [p, q], []⟩) (g : Blk W l 33 (c2A p q)) : Calls Tryd.prog 17 #[.agg (flA F k), .agg #[.int .i64 1, .slice (some ⟨l, 0, none⟩) 2 2, .slice none 0 0]] W fun e w' => e = .returned (.bool true) ∧ Below W.heap.size W w' := by
  have h := same_eq hk (filt_l2 g) e
  exact h
theorem same_l2o {F : Fil} {k : Fm} {W : World} {l o : Nat} {p q : Fac} {b : Int × Int} (hk : Filt W F k) (e : F = ⟨1, [p, q], [b]⟩) (g : Blk W l 33 (c2A p q)) (g2 : Blk W o 35 (bA b)) : Calls Tryd.prog 17 #[.agg (flA F k), .agg #[.int .i64 1, .slice (some ⟨l, 0, none⟩) 2 2, .slice (some ⟨o, 0, none⟩) 1 1]] W fun e w' => e = .returned (.bool true) ∧ Below W.heap.size W w' := by
  have h := same_eq hk (filt_l2o g g2) e
  exact h
theorem fval_true {c : Con} {m : Cm} {f : Fil} {k : Fm} {w : World} (e : f.ok c = true) (h : Cont w c m) (hk : Filt w f k) : Calls Tryd.prog 13 #[.agg (coA c m), .agg (flA f k)] w fun e w' => e = .returned (.bool true) ∧ Below w.heap.size w w' := by
  have := fvalid_any c m f k w h hk
  rw [e] at this
  exact this
theorem Lw.then_ {w w' : World} (h : Lw w) (hb : Below w.heap.size w w') : Lw w' := h.below hb
set_option maxRecDepth 100000 in
set_option maxHeartbeats 6400000 in
theorem head_any (w : World) (hL : Lw w) : Calls Tryd.prog 8 #[] w fun e w' => e = .returned (.bool true) ∧ Below w.heap.size w w' := by
  go_enter Tryd.func8, Tryd.ntmps8
  have HB0 := Below.refl w.heap.size w
  obtain ⟨m0, hm0⟩ : ∃ W, W = w := ⟨_, rfl⟩
  clear hm0 m0
  go_upto_region 2 with (first | (go_at_call 22; (with_reducible refine (example_any _).mono ?_); rintro e wC ⟨⟨mC, rfl, hC⟩, hbwC⟩) | (refine wpList_store_all rfl 27 _ _ rfl wC.heap.size 27 [] coZ0.toList [] (coA Con.ex mC).toList rfl rfl (Blk.new _ _ _) rfl (by kernel_rfl) (by simp [Value.oneCell']) ?_; intro VC gbVC UVC))
  have hsVC : Below wC.heap.size wC VC := (wa1 _ _).trans (UVC.b _ (Nat.le_refl _))
  have HH1 := below_then hbwC hsVC
  have HB1 := below_then HB0 HH1
  have hL_1 := hL.then_ HH1
  clear hL HB0 HH1
  have hCC := hC.then_ hsVC
  obtain ⟨bVC, ebVC⟩ : ∃ b, wC.heap.size = b := ⟨_, rfl⟩
  rw [ebVC] at gbVC ⊢
  clear ebVC UVC hsVC hbwC hC
  go_upto_region 3 with ((refine wpList_new 33 elF _ _ rfl rfl rfl rfl rfl rfl _ rfl (by simp [Value.oneCell']) (by simp) rfl ?_; simp only [Act.put, List.setIfInBounds_toArray, List.set_cons_succ, List.set_cons_zero]))
  refine name_wp ?_
  intro X2 hX
  have gb2 : Blk X2 (VC.heap.size) 33 (fA xH) := by rw [hX]; exact blk_at (by simp)
  have hbX2 : Below VC.heap.size VC X2 := by rw [hX]; (repeat (first | with_reducible assumption | with_reducible exact Below.refl _ _ | with_reducible refine below_drewN ?_ _ | with_reducible refine Below.drew ?_ | with_reducible refine below_alloc ?_ _ | with_reducible refine Below.setCell ?_ (by first | omega | (simp; done) | (simp; omega)) _ | with_reducible refine below_then ?_ (by with_reducible assumption) | (refine below_then (a := World.drew _) ?_ (by with_reducible assumption))))
  clear hX
  obtain ⟨b2, eb2⟩ : ∃ b, VC.heap.size = b := ⟨_, rfl⟩
  rw [eb2] at gb2 ⊢
  clear eb2
  have HH2 := hbX2
  have HB2 := below_then HB1 HH2
  have hL_2 := hL_1.then_ HH2
  have gbVC_2 := gbVC.then_ HH2
  have hCC_2 := hCC.then_ HH2
  clear hL_1 gbVC hCC HB1 HH2
  go_upto_region 4 with ((refine wpList_new 33 elF _ _ rfl rfl rfl rfl rfl rfl _ rfl (by simp [Value.oneCell']) (by simp) rfl ?_; simp only [Act.put, List.setIfInBounds_toArray, List.set_cons_succ, List.set_cons_zero]))
  refine name_wp ?_
  intro X3 hX
  have gb3 : Blk X3 (X2.heap.size) 33 (fA thH) := by rw [hX]; exact blk_at (by simp)
  have hbX3 : Below X2.heap.size X2 X3 := by rw [hX]; (repeat (first | with_reducible assumption | with_reducible exact Below.refl _ _ | with_reducible refine below_drewN ?_ _ | with_reducible refine Below.drew ?_ | with_reducible refine below_alloc ?_ _ | with_reducible refine Below.setCell ?_ (by first | omega | (simp; done) | (simp; omega)) _ | with_reducible refine below_then ?_ (by with_reducible assumption) | (refine below_then (a := World.drew _) ?_ (by with_reducible assumption))))
  clear hX
  obtain ⟨b3, eb3⟩ : ∃ b, X2.heap.size = b := ⟨_, rfl⟩
  rw [eb3] at gb3 ⊢
  clear eb3
  have HH3 := hbX3
  have HB3 := below_then HB2 HH3
  have hL_3 := hL_2.then_ HH3
  have gbVC_3 := gbVC_2.then_ HH3
  have hCC_3 := hCC_2.then_ HH3
  have gb2_3 := gb2.then_ HH3
  clear hL_2 gbVC_2 hCC_2 gb2 HB2 HH3
  go_upto_region 5 with ((refine wpList_new 33 elF _ _ rfl rfl rfl rfl rfl rfl _ rfl (by simp [Value.oneCell']) (by simp) rfl ?_; simp only [Act.put, List.setIfInBounds_toArray, List.set_cons_succ, List.set_cons_zero]))
  refine name_wp ?_
  intro X4 hX
  have gb4 : Blk X4 (X3.heap.size) 33 (fA niH) := by rw [hX]; exact blk_at (by simp)
  have hbX4 : Below X3.heap.size X3 X4 := by rw [hX]; (repeat (first | with_reducible assumption | with_reducible exact Below.refl _ _ | with_reducible refine below_drewN ?_ _ | with_reducible refine Below.drew ?_ | with_reducible refine below_alloc ?_ _ | with_reducible refine Below.setCell ?_ (by first | omega | (simp; done) | (simp; omega)) _ | with_reducible refine below_then ?_ (by with_reducible assumption) | (refine below_then (a := World.drew _) ?_ (by with_reducible assumption))))
  clear hX
  obtain ⟨b4, eb4⟩ : ∃ b, X3.heap.size = b := ⟨_, rfl⟩
  rw [eb4] at gb4 ⊢
  clear eb4
  have HH4 := hbX4
  have HB4 := below_then HB3 HH4
  have hL_4 := hL_3.then_ HH4
  have gbVC_4 := gbVC_3.then_ HH4
  have hCC_4 := hCC_3.then_ HH4
  have gb2_4 := gb2_3.then_ HH4
  have gb3_4 := gb3.then_ HH4
  clear hL_3 gbVC_3 hCC_3 gb2_3 gb3 HB3 HH4
  go_upto_region 6 with (first | (refine wpList_row_w (by rfl) 33 _ rfl b3 rfl 33 _ gb3_4 ⟨_, Tryd.underlying33⟩ (by kernel_rfl) ?_; simp only [Act.put, List.setIfInBounds_toArray, List.set_cons_succ, List.set_cons_zero]) | (refine wpList_row_w (by rfl) 33 _ rfl b4 rfl 33 _ gb4 ⟨_, Tryd.underlying33⟩ (by kernel_rfl) ?_; simp only [Act.put, List.setIfInBounds_toArray, List.set_cons_succ, List.set_cons_zero]) | (refine wpList_new 31 elFl _ _ rfl rfl rfl rfl rfl rfl _ rfl (by simp [Value.oneCell']) (by simp) rfl ?_; simp only [Act.put, List.setIfInBounds_toArray, List.set_cons_succ, List.set_cons_zero]; try simp only [World.size_alloc]))
  refine name_wp ?_
  intro X5 hX
  have gl5 : Blk X5 (X4.heap.size) 33 ((eF thH ++ eF niH).toArray) := by rw [hX]; exact (blk_at (by simp)).alloc _
  have gb5 : Blk X5 (X4.heap.size + 1) 31 (flA exF ⟨some ⟨X4.heap.size, 0, none⟩, 2, none, 0⟩) := by rw [hX]; exact blk_at (by simp)
  have hbX5 : Below X4.heap.size X4 X5 := by rw [hX]; (repeat (first | with_reducible assumption | with_reducible exact Below.refl _ _ | with_reducible refine below_drewN ?_ _ | with_reducible refine Below.drew ?_ | with_reducible refine below_alloc ?_ _ | with_reducible refine Below.setCell ?_ (by first | omega | (simp; done) | (simp; omega)) _ | with_reducible refine below_then ?_ (by with_reducible assumption) | (refine below_then (a := World.drew _) ?_ (by with_reducible assumption))))
  clear hX
  obtain ⟨b5, eb5⟩ : ∃ b, X4.heap.size + 1 = b := ⟨_, rfl⟩
  rw [eb5] at gb5 ⊢
  try rw [eb5] at gl5
  obtain ⟨l5, el5⟩ : ∃ b, X4.heap.size = b := ⟨_, rfl⟩
  rw [el5] at gl5 ⊢
  try rw [el5] at gb5
  clear el5
  clear eb5
  have HH5 := hbX5
  have HB5 := below_then HB4 HH5
  have hL_5 := hL_4.then_ HH5
  have gbVC_5 := gbVC_4.then_ HH5
  have hCC_5 := hCC_4.then_ HH5
  have gb2_5 := gb2_4.then_ HH5
  have gb3_5 := gb3_4.then_ HH5
  have gb4_5 := gb4.then_ HH5
  clear hL_4 gbVC_4 hCC_4 gb2_4 gb3_4 gb4 HB4 HH5
  have hF5 : Filt X5 exF ⟨some ⟨l5, 0, none⟩, 2, none, 0⟩ := filt_l2 gl5
  clear gl5
  have HPA := Lib.hid (fun W k (h : Cont W Con.ex mC) (hf : Filt W exF k) => put_any Con.ex mC exF k xH W h hf)
  rw [hd1.1, hd1.2] at HPA
  go_upto_region 7 with (first | (refine wpList_row_w (by rfl) 27 _ rfl bVC rfl 27 _ gbVC_5 ⟨_, Tryd.underlying27⟩ (by kernel_rfl) ?_; simp only [Act.put, List.setIfInBounds_toArray, List.set_cons_succ, List.set_cons_zero]) | (refine wpList_row_w (by rfl) 31 _ rfl b5 rfl 31 _ gb5 ⟨_, Tryd.underlying31⟩ (by kernel_rfl) ?_; simp only [Act.put, List.setIfInBounds_toArray, List.set_cons_succ, List.set_cons_zero]) | (refine wpList_row_w (by rfl) 33 _ rfl b2 rfl 33 _ gb2_5 ⟨_, Tryd.underlying33⟩ (by kernel_rfl) ?_; simp only [Act.put, List.setIfInBounds_toArray, List.set_cons_succ, List.set_cons_zero]) | (go_at_call 11; (with_reducible refine (HPA.out _ _ hCC_5 hF5).mono ?_); rintro e w6 ⟨⟨m6, rfl, hF6, _⟩, hbw6⟩) | (refine wpList_store_all rfl 31 _ _ rfl w6.heap.size 31 [] zF.toList [] (flA exA m6).toList rfl rfl (Blk.new _ _ _) rfl (by kernel_rfl) (by simp [Value.oneCell']) ?_; intro V6 gbV6 UV6))
  have hsV6 : Below w6.heap.size w6 V6 := (wa1 _ _).trans (UV6.b _ (Nat.le_refl _))
  have HH6 := below_then hbw6 hsV6
  have HB6 := below_then HB5 HH6
  have hL_6 := hL_5.then_ HH6
  have gbVC_6 := gbVC_5.then_ HH6
  have hCC_6 := hCC_5.then_ HH6
  have gb2_6 := gb2_5.then_ HH6
  have gb3_6 := gb3_5.then_ HH6
  have gb4_6 := gb4_5.then_ HH6
  have gb5_6 := gb5.then_ HH6
  have hF5_6 := hF5.then_ HH6
  clear hL_5 gbVC_5 hCC_5 gb2_5 gb3_5 gb4_5 gb5 hF5 HB5 HH6
  have hFV6 := hF6.then_ hsV6
  obtain ⟨bV6, ebV6⟩ : ∃ b, w6.heap.size = b := ⟨_, rfl⟩
  rw [ebV6] at gbV6 ⊢
  clear ebV6 UV6 hsV6 hbw6 hF6
  have HPB := Lib.hid (fun W k (h : Cont W Con.ex mC) (hf : Filt W exA k) => order_any Con.ex mC exA k (9, 3) W h hf)
  rw [hd2.1, hd2.2] at HPB
  go_upto_region 8 with (first | (refine wpList_row_w (by rfl) 27 _ rfl bVC rfl 27 _ gbVC_6 ⟨_, Tryd.underlying27⟩ (by kernel_rfl) ?_; simp only [Act.put, List.setIfInBounds_toArray, List.set_cons_succ, List.set_cons_zero]) | (refine wpList_row_w (by rfl) 31 _ rfl bV6 rfl 31 _ gbV6 ⟨_, Tryd.underlying31⟩ (by kernel_rfl) ?_; simp only [Act.put, List.setIfInBounds_toArray, List.set_cons_succ, List.set_cons_zero]) | (refine wpList_row_w (by rfl) 33 _ rfl b2 rfl 33 _ gb2_6 ⟨_, Tryd.underlying33⟩ (by kernel_rfl) ?_; simp only [Act.put, List.setIfInBounds_toArray, List.set_cons_succ, List.set_cons_zero]) | (go_at_call 12; (with_reducible refine (HPB.out _ _ hCC_6 hFV6).mono ?_); rintro e w7 ⟨⟨m7, rfl, hF7, _⟩, hbw7⟩) | (refine wpList_store_all rfl 31 _ _ rfl w7.heap.size 31 [] zF.toList [] (flA exB m7).toList rfl rfl (Blk.new _ _ _) rfl (by kernel_rfl) (by simp [Value.oneCell']) ?_; intro V7 gbV7 UV7))
  have hsV7 : Below w7.heap.size w7 V7 := (wa1 _ _).trans (UV7.b _ (Nat.le_refl _))
  have HH7 := below_then hbw7 hsV7
  have HB7 := below_then HB6 HH7
  have hL_7 := hL_6.then_ HH7
  have gbVC_7 := gbVC_6.then_ HH7
  have hCC_7 := hCC_6.then_ HH7
  have gb2_7 := gb2_6.then_ HH7
  have gb3_7 := gb3_6.then_ HH7
  have gb4_7 := gb4_6.then_ HH7
  have gb5_7 := gb5_6.then_ HH7
  have hF5_7 := hF5_6.then_ HH7
  have gbV6_7 := gbV6.then_ HH7
  have hFV6_7 := hFV6.then_ HH7
  clear hL_6 gbVC_6 hCC_6 gb2_6 gb3_6 gb4_6 gb5_6 hF5_6 gbV6 hFV6 HB6 HH7
  have hFV7 := hF7.then_ hsV7
  obtain ⟨bV7, ebV7⟩ : ∃ b, w7.heap.size = b := ⟨_, rfl⟩
  rw [ebV7] at gbV7 ⊢
  clear ebV7 UV7 hsV7 hbw7 hF7
  have HPC := Lib.hid (fun W k (h : Cont W Con.ex mC) (hf : Filt W exA k) => put_any Con.ex mC exA k xH W h hf)
  rw [hd3.1, hd3.2] at HPC
  go_upto_region 9 with (first | (refine wpList_row_w (by rfl) 27 _ rfl bVC rfl 27 _ gbVC_7 ⟨_, Tryd.underlying27⟩ (by kernel_rfl) ?_; simp only [Act.put, List.setIfInBounds_toArray, List.set_cons_succ, List.set_cons_zero]) | (refine wpList_row_w (by rfl) 31 _ rfl bV6 rfl 31 _ gbV6_7 ⟨_, Tryd.underlying31⟩ (by kernel_rfl) ?_; simp only [Act.put, List.setIfInBounds_toArray, List.set_cons_succ, List.set_cons_zero]) | (refine wpList_row_w (by rfl) 33 _ rfl b2 rfl 33 _ gb2_7 ⟨_, Tryd.underlying33⟩ (by kernel_rfl) ?_; simp only [Act.put, List.setIfInBounds_toArray, List.set_cons_succ, List.set_cons_zero]) | (go_at_call 11; (with_reducible refine (HPC.out _ _ hCC_7 hFV6_7).mono ?_); rintro e w8 ⟨⟨m8, rfl, hF8, _⟩, hbw8⟩) | (refine wpList_store_all rfl 31 _ _ rfl w8.heap.size 31 [] zF.toList [] (flA Fil.zero m8).toList rfl rfl (Blk.new _ _ _) rfl (by kernel_rfl) (by simp [Value.oneCell']) ?_; intro V8 gbV8 UV8))
  have hsV8 : Below w8.heap.size w8 V8 := (wa1 _ _).trans (UV8.b _ (Nat.le_refl _))
  have HH8 := below_then hbw8 hsV8
  have HB8 := below_then HB7 HH8
  have hL_8 := hL_7.then_ HH8
  have gbVC_8 := gbVC_7.then_ HH8
  have hCC_8 := hCC_7.then_ HH8
  have gb2_8 := gb2_7.then_ HH8
  have gb3_8 := gb3_7.then_ HH8
  have gb4_8 := gb4_7.then_ HH8
  have gb5_8 := gb5_7.then_ HH8
  have hF5_8 := hF5_7.then_ HH8
  have gbV6_8 := gbV6_7.then_ HH8
  have hFV6_8 := hFV6_7.then_ HH8
  have gbV7_8 := gbV7.then_ HH8
  have hFV7_8 := hFV7.then_ HH8
  clear hL_7 gbVC_7 hCC_7 gb2_7 gb3_7 gb4_7 gb5_7 hF5_7 gbV6_7 hFV6_7 gbV7 hFV7 HB7 HH8
  have hFV8 := hF8.then_ hsV8
  obtain ⟨bV8, ebV8⟩ : ∃ b, w8.heap.size = b := ⟨_, rfl⟩
  rw [ebV8] at gbV8 ⊢
  clear ebV8 UV8 hsV8 hbw8 hF8
  clear gbV8
  clear hFV8
  have HPD := Lib.hid (fun W k (h : Cont W Con.ex mC) (hf : Filt W exA k) => order_any Con.ex mC exA k (9, 4) W h hf)
  rw [hd4.1, hd4.2] at HPD
  go_upto_region 10 with (first | (refine wpList_row_w (by rfl) 27 _ rfl bVC rfl 27 _ gbVC_8 ⟨_, Tryd.underlying27⟩ (by kernel_rfl) ?_; simp only [Act.put, List.setIfInBounds_toArray, List.set_cons_succ, List.set_cons_zero]) | (refine wpList_row_w (by rfl) 31 _ rfl bV6 rfl 31 _ gbV6_8 ⟨_, Tryd.underlying31⟩ (by kernel_rfl) ?_; simp only [Act.put, List.setIfInBounds_toArray, List.set_cons_succ, List.set_cons_zero]) | (refine wpList_row_w (by rfl) 33 _ rfl b2 rfl 33 _ gb2_8 ⟨_, Tryd.underlying33⟩ (by kernel_rfl) ?_; simp only [Act.put, List.setIfInBounds_toArray, List.set_cons_succ, List.set_cons_zero]) | (go_at_call 12; (with_reducible refine (HPD.out _ _ hCC_8 hFV6_8).mono ?_); rintro e w9 ⟨⟨m9, rfl, hF9, _⟩, hbw9⟩) | (refine wpList_store_all rfl 31 _ _ rfl w9.heap.size 31 [] zF.toList [] (flA Fil.zero m9).toList rfl rfl (Blk.new _ _ _) rfl (by kernel_rfl) (by simp [Value.oneCell']) ?_; intro V9 gbV9 UV9))
  have hsV9 : Below w9.heap.size w9 V9 := (wa1 _ _).trans (UV9.b _ (Nat.le_refl _))
  have HH9 := below_then hbw9 hsV9
  have HB9 := below_then HB8 HH9
  have hL_9 := hL_8.then_ HH9
  have gbVC_9 := gbVC_8.then_ HH9
  have hCC_9 := hCC_8.then_ HH9
  have gb2_9 := gb2_8.then_ HH9
  have gb3_9 := gb3_8.then_ HH9
  have gb4_9 := gb4_8.then_ HH9
  have gb5_9 := gb5_8.then_ HH9
  have hF5_9 := hF5_8.then_ HH9
  have gbV6_9 := gbV6_8.then_ HH9
  have hFV6_9 := hFV6_8.then_ HH9
  have gbV7_9 := gbV7_8.then_ HH9
  have hFV7_9 := hFV7_8.then_ HH9
  clear hL_8 gbVC_8 hCC_8 gb2_8 gb3_8 gb4_8 gb5_8 hF5_8 gbV6_8 hFV6_8 gbV7_8 hFV7_8 HB8 HH9
  have hFV9 := hF9.then_ hsV9
  obtain ⟨bV9, ebV9⟩ : ∃ b, w9.heap.size = b := ⟨_, rfl⟩
  rw [ebV9] at gbV9 ⊢
  clear ebV9 UV9 hsV9 hbw9 hF9
  clear gbV9
  clear hFV9
  go_upto_region 11 with (first | (go_at_call 20; (with_reducible refine (parse1 _ hL_9).mono ?_); rintro e wP ⟨rfl, hbwP⟩) | (refine wpList_store_all rfl 33 _ _ rfl wP.heap.size 33 [] z6.toList [] (fA xH).toList rfl rfl (Blk.new _ _ _) rfl (by kernel_rfl) (by simp [Value.oneCell']) ?_; intro VP gbVP UVP))
  have hsVP : Below wP.heap.size wP VP := (wa1 _ _).trans (UVP.b _ (Nat.le_refl _))
  have HH10 := below_then hbwP hsVP
  have HB10 := below_then HB9 HH10
  have hL_10 := hL_9.then_ HH10
  have gbVC_10 := gbVC_9.then_ HH10
  have hCC_10 := hCC_9.then_ HH10
  have gb2_10 := gb2_9.then_ HH10
  have gb3_10 := gb3_9.then_ HH10
  have gb4_10 := gb4_9.then_ HH10
  have gb5_10 := gb5_9.then_ HH10
  have hF5_10 := hF5_9.then_ HH10
  have gbV6_10 := gbV6_9.then_ HH10
  have hFV6_10 := hFV6_9.then_ HH10
  have gbV7_10 := gbV7_9.then_ HH10
  have hFV7_10 := hFV7_9.then_ HH10
  clear hL_9 gbVC_9 hCC_9 gb2_9 gb3_9 gb4_9 gb5_9 hF5_9 gbV6_9 hFV6_9 gbV7_9 hFV7_9 HB9 HH10
  obtain ⟨bVP, ebVP⟩ : ∃ b, wP.heap.size = b := ⟨_, rfl⟩
  rw [ebVP] at gbVP ⊢
  clear ebVP UVP hsVP hbwP 
  go_upto_region 12 with (first | (go_at_call 20; (with_reducible refine (parse2 _ hL_10).mono ?_); rintro e wQ ⟨rfl, hbwQ⟩) | (refine wpList_store_all rfl 33 _ _ rfl wQ.heap.size 33 [] z6.toList [] (fA Fac.zero).toList rfl rfl (Blk.new _ _ _) rfl (by kernel_rfl) (by simp [Value.oneCell']) ?_; intro VQ gbVQ UVQ))
  have hsVQ : Below wQ.heap.size wQ VQ := (wa1 _ _).trans (UVQ.b _ (Nat.le_refl _))
  have HH11 := below_then hbwQ hsVQ
  have HB11 := below_then HB10 HH11
  have hL_11 := hL_10.then_ HH11
  have gbVC_11 := gbVC_10.then_ HH11
  have hCC_11 := hCC_10.then_ HH11
  have gb2_11 := gb2_10.then_ HH11
  have gb3_11 := gb3_10.then_ HH11
  have gb4_11 := gb4_10.then_ HH11
  have gb5_11 := gb5_10.then_ HH11
  have hF5_11 := hF5_10.then_ HH11
  have gbV6_11 := gbV6_10.then_ HH11
  have hFV6_11 := hFV6_10.then_ HH11
  have gbV7_11 := gbV7_10.then_ HH11
  have hFV7_11 := hFV7_10.then_ HH11
  have gbVP_11 := gbVP.then_ HH11
  clear hL_10 gbVC_10 hCC_10 gb2_10 gb3_10 gb4_10 gb5_10 hF5_10 gbV6_10 hFV6_10 gbV7_10 hFV7_10 gbVP HB10 HH11
  obtain ⟨bVQ, ebVQ⟩ : ∃ b, wQ.heap.size = b := ⟨_, rfl⟩
  rw [ebVQ] at gbVQ ⊢
  clear ebVQ UVQ hsVQ hbwQ 
  clear gbVQ
  go_upto_region 13 with (fail)
  refine name_wp ?_
  intro XR hX
  have glo : Blk XR (VQ.heap.size) 35 (bA (9, 3)) := by rw [hX]; exact blk_at (by simp)
  have hbXR : Below VQ.heap.size VQ XR := by rw [hX]; (repeat (first | with_reducible assumption | with_reducible exact Below.refl _ _ | with_reducible refine below_drewN ?_ _ | with_reducible refine Below.drew ?_ | with_reducible refine below_alloc ?_ _ | with_reducible refine Below.setCell ?_ (by first | omega | (simp; done) | (simp; omega)) _ | with_reducible refine below_then ?_ (by with_reducible assumption) | (refine below_then (a := World.drew _) ?_ (by with_reducible assumption))))
  clear hX
  obtain ⟨lo, elo⟩ : ∃ b, VQ.heap.size = b := ⟨_, rfl⟩
  rw [elo] at glo ⊢
  clear elo
  have HH12 := hbXR
  have HB12 := below_then HB11 HH12
  have hL_12 := hL_11.then_ HH12
  have gbVC_12 := gbVC_11.then_ HH12
  have hCC_12 := hCC_11.then_ HH12
  have gb2_12 := gb2_11.then_ HH12
  have gb3_12 := gb3_11.then_ HH12
  have gb4_12 := gb4_11.then_ HH12
  have gb5_12 := gb5_11.then_ HH12
  have hF5_12 := hF5_11.then_ HH12
  have gbV6_12 := gbV6_11.then_ HH12
  have hFV6_12 := hFV6_11.then_ HH12
  have gbV7_12 := gbV7_11.then_ HH12
  have hFV7_12 := hFV7_11.then_ HH12
  have gbVP_12 := gbVP_11.then_ HH12
  clear hL_11 gbVC_11 hCC_11 gb2_11 gb3_11 gb4_11 gb5_11 hF5_11 gbV6_11 hFV6_11 gbV7_11 hFV7_11 gbVP_11 HB11 HH12
  clear HPA HPB HPC HPD
  go_upto_region 14 with (first | (refine wpList_row_w (by rfl) 31 _ rfl bV6 rfl 31 _ gbV6_12 ⟨_, Tryd.underlying31⟩ (by kernel_rfl) ?_; simp only [Act.put, List.setIfInBounds_toArray, List.set_cons_succ, List.set_cons_zero]) | (refine wpList_row_w (by rfl) 33 _ rfl b3 rfl 33 _ gb3_12 ⟨_, Tryd.underlying33⟩ (by kernel_rfl) ?_; simp only [Act.put, List.setIfInBounds_toArray, List.set_cons_succ, List.set_cons_zero]) | (refine wpList_row_w (by rfl) 33 _ rfl b2 rfl 33 _ gb2_12 ⟨_, Tryd.underlying33⟩ (by kernel_rfl) ?_; simp only [Act.put, List.setIfInBounds_toArray, List.set_cons_succ, List.set_cons_zero]) | (refine wpList_row_w (by rfl) 33 _ rfl b4 rfl 33 _ gb4_12 ⟨_, Tryd.underlying33⟩ (by kernel_rfl) ?_; simp only [Act.put, List.setIfInBounds_toArray, List.set_cons_succ, List.set_cons_zero]) | (go_at_call 17; (with_reducible refine (same_l3 (l := XR.heap.size) (hFV6_12.then_ (wa1 _ _)) rfl (Blk.new _ _ _)).mono ?_); rintro e S1 ⟨rfl, hbS⟩; have gbV7' := (gbV7_12.alloc _).then_ hbS; have gb3' := (gb3_12.alloc _).then_ hbS; have gb2' := (gb2_12.alloc _).then_ hbS; have gb4' := (gb4_12.alloc _).then_ hbS) | (refine wpList_row_w (by rfl) 31 _ rfl bV7 rfl 31 _ gbV7' ⟨_, Tryd.underlying31⟩ (by kernel_rfl) ?_; simp only [Act.put, List.setIfInBounds_toArray, List.set_cons_succ, List.set_cons_zero]) | (refine wpList_row_w (by rfl) 33 _ rfl b3 rfl 33 _ gb3' ⟨_, Tryd.underlying33⟩ (by kernel_rfl) ?_; simp only [Act.put, List.setIfInBounds_toArray, List.set_cons_succ, List.set_cons_zero]) | (refine wpList_row_w (by rfl) 33 _ rfl b2 rfl 33 _ gb2' ⟨_, Tryd.underlying33⟩ (by kernel_rfl) ?_; simp only [Act.put, List.setIfInBounds_toArray, List.set_cons_succ, List.set_cons_zero]) | (refine wpList_row_w (by rfl) 33 _ rfl b4 rfl 33 _ gb4' ⟨_, Tryd.underlying33⟩ (by kernel_rfl) ?_; simp only [Act.put, List.setIfInBounds_toArray, List.set_cons_succ, List.set_cons_zero]) | (go_at_call 17; (with_reducible refine (same_l3o (l := S1.heap.size) (o := lo) (((hFV7_12.then_ (wa1 _ _)).then_ hbS).then_ (wa1 _ _)) rfl (Blk.new _ _ _) ((((glo.alloc _).then_ hbS)).alloc _)).mono ?_); rintro e S2 ⟨rfl, hbS2⟩))
  have HH13 := below_then (below_then (wa1 _ _) hbS) (below_then (wa1 _ _) hbS2)
  have HB13 := below_then HB12 HH13
  have hL_13 := hL_12.then_ HH13
  have gbVC_13 := gbVC_12.then_ HH13
  have hCC_13 := hCC_12.then_ HH13
  have gb2_13 := gb2_12.then_ HH13
  have gb3_13 := gb3_12.then_ HH13
  have gb4_13 := gb4_12.then_ HH13
  have gb5_13 := gb5_12.then_ HH13
  have hF5_13 := hF5_12.then_ HH13
  have gbV6_13 := gbV6_12.then_ HH13
  have hFV6_13 := hFV6_12.then_ HH13
  have gbV7_13 := gbV7_12.then_ HH13
  have hFV7_13 := hFV7_12.then_ HH13
  have gbVP_13 := gbVP_12.then_ HH13
  have glo_13 := glo.then_ HH13
  clear hL_12 gbVC_12 hCC_12 gb2_12 gb3_12 gb4_12 gb5_12 hF5_12 gbV6_12 hFV6_12 gbV7_12 hFV7_12 gbVP_12 glo HB12 HH13
  clear hbS hbS2 gbV7' gb3' gb2' gb4'
  have hb1 := hb1
  go_upto_region 15 with (first | (refine wpList_row_w (by rfl) 33 _ rfl bVP rfl 33 _ gbVP_13 ⟨_, Tryd.underlying33⟩ (by kernel_rfl) ?_; simp only [Act.put, List.setIfInBounds_toArray, List.set_cons_succ, List.set_cons_zero]) | (refine wpList_row_w (by rfl) 33 _ rfl b2 rfl 33 _ gb2_13 ⟨_, Tryd.underlying33⟩ (by kernel_rfl) ?_; simp only [Act.put, List.setIfInBounds_toArray, List.set_cons_succ, List.set_cons_zero]) | (go_at_call 21; (with_reducible refine (body1 _ hL_13).mono ?_); rintro e S3 ⟨rfl, hbO⟩; have gbVC' := gbVC_13.then_ hbO; have gbV7' := gbV7_13.then_ hbO) | (refine wpList_row_w (by rfl) 27 _ rfl bVC rfl 27 _ gbVC' ⟨_, Tryd.underlying27⟩ (by kernel_rfl) ?_; simp only [Act.put, List.setIfInBounds_toArray, List.set_cons_succ, List.set_cons_zero]) | (refine wpList_row_w (by rfl) 31 _ rfl bV7 rfl 31 _ gbV7' ⟨_, Tryd.underlying31⟩ (by kernel_rfl) ?_; simp only [Act.put, List.setIfInBounds_toArray, List.set_cons_succ, List.set_cons_zero]) | (go_at_call 13; (with_reducible refine (fval_true hd5.1 (hCC_13.then_ hbO) (hFV7_13.then_ hbO)).mono ?_); rintro e S4 ⟨rfl, hbV⟩))
  have HH14 := below_then hbO hbV
  have HB14 := below_then HB13 HH14
  have hL_14 := hL_13.then_ HH14
  have gbVC_14 := gbVC_13.then_ HH14
  have hCC_14 := hCC_13.then_ HH14
  have gb2_14 := gb2_13.then_ HH14
  have gb3_14 := gb3_13.then_ HH14
  have gb4_14 := gb4_13.then_ HH14
  have gb5_14 := gb5_13.then_ HH14
  have hF5_14 := hF5_13.then_ HH14
  have gbV6_14 := gbV6_13.then_ HH14
  have hFV6_14 := hFV6_13.then_ HH14
  have gbV7_14 := gbV7_13.then_ HH14
  have hFV7_14 := hFV7_13.then_ HH14
  have gbVP_14 := gbVP_13.then_ HH14
  have glo_14 := glo_13.then_ HH14
  clear hL_13 gbVC_13 hCC_13 gb2_13 gb3_13 gb4_13 gb5_13 hF5_13 gbV6_13 hFV6_13 gbV7_13 hFV7_13 gbVP_13 glo_13 HB13 HH14
  clear hbO hbV gbVC' gbV7' hb1
  have HAS := Lib.hid (fun W (hb : Below S4.heap.size S4 W) => asOf_any exB m7 9 W (hFV7_14.then_ hb) exB_B)
  rw [hd5.2.1] at HAS
  have HOP := Lib.hid (fun W (hb : Below S4.heap.size S4 W) => open_any exB m7 W (hFV7_14.then_ hb) exB_B)
  rw [hd5.2.2] at HOP
  refine wp_region_hb (fun w' => Hid (Below S4.heap.size S4 w')) [0, 1, 2, 3, 4, 5, 6, 7, 8, 9, 10, 11, 12, 13, 14, 15, 16, 17, 18, 19, 20] [21, 22, 23] (by kernel_rfl) (by kernel_rfl) (by repeat (first | with_reducible refine panOk_then ?_ | with_reducible refine panOk_block ?_ | exact panOk_body)) (Lib.hid (Below.drew (Below.refl _ _))) (fun hdir hsel hpan hHeld => ?_)
  refine wpHB_take (i := 0) (oi := ⟨some 121, _, _, _, _, _⟩) hdir hsel hpan rfl (by kernel_rfl) (by kernel_rfl) (by kernel_rfl) (Or.inl ⟨by rfl, fun _ _ => by rfl⟩) (by assumption) ?_
  try simp only [Act.put, List.setIfInBounds_toArray, List.set_cons_zero, List.set_cons_succ]
  refine wpHB_take (i := 1) (oi := ⟨some 122, _, _, _, _, _⟩) hdir hsel hpan rfl (by kernel_rfl) (by kernel_rfl) (by kernel_rfl) (Or.inl ⟨by rfl, fun _ _ => by rfl⟩) (by assumption) ?_
  try simp only [Act.put, List.setIfInBounds_toArray, List.set_cons_zero, List.set_cons_succ]
  refine wpHB_take (i := 2) (oi := ⟨some 123, _, _, _, _, _⟩) hdir hsel hpan rfl (by kernel_rfl) (by kernel_rfl) (by kernel_rfl) (Or.inl ⟨by rfl, fun _ _ => by rfl⟩) (by assumption) ?_
  try simp only [Act.put, List.setIfInBounds_toArray, List.set_cons_zero, List.set_cons_succ]
  refine wpHB_take (i := 3) (oi := ⟨some 124, _, _, _, _, _⟩) hdir hsel hpan rfl (by kernel_rfl) (by kernel_rfl) (by kernel_rfl) (Or.inl ⟨by rfl, fun _ _ => by rfl⟩) (by assumption) ?_
  try simp only [Act.put, List.setIfInBounds_toArray, List.set_cons_zero, List.set_cons_succ]
  refine wpHB_take (i := 4) (oi := ⟨some 125, _, _, _, _, _⟩) hdir hsel hpan rfl (by kernel_rfl) (by kernel_rfl) (by kernel_rfl) (Or.inl ⟨by rfl, fun _ _ => by rfl⟩) (by assumption) ?_
  try simp only [Act.put, List.setIfInBounds_toArray, List.set_cons_zero, List.set_cons_succ]
  refine wpHB_take (i := 5) (oi := ⟨some 126, _, _, _, _, _⟩) hdir hsel hpan rfl (by kernel_rfl) (by kernel_rfl) (by kernel_rfl) (yieldsIf_row (by rfl) 31 _ rfl bV7 rfl 31 _ (fun w hw => (gbV7_14.then_ hw.out)) ⟨_, Tryd.underlying31⟩ (by kernel_rfl)) (by assumption) ?_
  try simp only [Act.put, List.setIfInBounds_toArray, List.set_cons_zero, List.set_cons_succ]
  refine wpHB_take (i := 7) (oi := ⟨some 128, _, _, _, _, _⟩) hdir hsel hpan rfl (by kernel_rfl) (by kernel_rfl) (by kernel_rfl) (yieldsIf_row (by rfl) 33 _ rfl b3 rfl 33 _ (fun w hw => (gb3_14.then_ hw.out)) ⟨_, Tryd.underlying33⟩ (by kernel_rfl)) (by assumption) ?_
  try simp only [Act.put, List.setIfInBounds_toArray, List.set_cons_zero, List.set_cons_succ]
  refine wpHB_take (i := 8) (oi := ⟨some 129, _, _, _, _, _⟩) hdir hsel hpan rfl (by kernel_rfl) (by kernel_rfl) (by kernel_rfl) (yieldsIf_row (by rfl) 33 _ rfl b2 rfl 33 _ (fun w hw => (gb2_14.then_ hw.out)) ⟨_, Tryd.underlying33⟩ (by kernel_rfl)) (by assumption) ?_
  try simp only [Act.put, List.setIfInBounds_toArray, List.set_cons_zero, List.set_cons_succ]
  refine wpHB_ready (rs := [6, 9]) (by kernel_rfl) (by simp) ?_
  refine AllHB.cons (by kernel_rfl) (o := ⟨some 127, _, _, _, _, _⟩) rfl (fun K hK => ?_) ?_
  · go_simp
    (go_at_call 18; (with_reducible refine (HAS.out _ hHeld.out).mono ?_); rintro e wa ⟨⟨ma, rfl, hFa, _⟩, hba⟩)
    try (replace gq1 := gq1.then_ hba)
    refine hK.out _ _ (Lib.hid (below_then hHeld.out hba)) (fun hHeld2 => ?_)
    clear hK K hHeld
    have hHeld := hHeld2
    clear hHeld2
    try simp only [Act.put, List.setIfInBounds_toArray, List.set_cons_zero, List.set_cons_succ]
    refine wpHB_ready (rs := [9]) (by kernel_rfl) (by simp) ?_
    refine AllHB.cons (by kernel_rfl) (o := ⟨some 130, _, _, _, _, _⟩) rfl (fun K hK => ?_) AllHB.nil
    go_simp
    refine name_k ?_
    intro Vp hVp
    obtain ⟨q1, e1, gq1, hbp⟩ := (by first | exact list_new2 hVp | exact list_new2 (W := S4.drew) hVp : ∃ b, _)
    try rw [e1]
    try (have e2 : S4.heap.size = q1 := e1; rw [e2])
    clear hVp
    try (replace hFa := hFa.then_ hbp)
    refine hK.out _ _ (Lib.hid (below_then hHeld.out hbp)) (fun hHeld2 => ?_)
    clear hK K hHeld
    have hHeld := hHeld2
    clear hHeld2
    try simp only [Act.put, List.setIfInBounds_toArray, List.set_cons_zero, List.set_cons_succ]
    refine wpHB_take (i := 10) (oi := ⟨some 131, _, _, _, _, _⟩) (v := .agg #[.int .i64 1, .slice (some ⟨q1, 0, none⟩) 2 2, .slice none 0 0]) hdir hsel hpan rfl (by kernel_rfl) (by kernel_rfl) (by kernel_rfl) (Or.inl ⟨by rfl, fun w hw => by go_simp⟩) (by assumption) ?_
    try simp only [Act.put, List.setIfInBounds_toArray, List.set_cons_zero, List.set_cons_succ]
    refine wpHB_ready (rs := [11]) (by kernel_rfl) (by simp) ?_
    refine AllHB.cons (by kernel_rfl) (o := ⟨some 132, _, _, _, _, _⟩) rfl (fun K hK => ?_) AllHB.nil
    go_simp
    (go_at_call 17; (with_reducible refine (same_l2 hFa rfl gq1).mono ?_); rintro e wb ⟨rfl, hbb⟩)
    clear hFa gq1
    refine hK.out _ _ (Lib.hid (below_then hHeld.out hbb)) (fun hHeld2 => ?_)
    clear hK K hHeld
    have hHeld := hHeld2
    clear hHeld2
    try simp only [Act.put, List.setIfInBounds_toArray, List.set_cons_zero, List.set_cons_succ]
    refine wpHB_take (i := 12) (oi := ⟨some 133, _, _, _, _, _⟩) hdir hsel hpan rfl (by kernel_rfl) (by kernel_rfl) (by kernel_rfl) (Or.inl ⟨by rfl, fun _ _ => by rfl⟩) (by assumption) ?_
    try simp only [Act.put, List.setIfInBounds_toArray, List.set_cons_zero, List.set_cons_succ]
    refine wpHB_take (i := 13) (oi := ⟨some 134, _, _, _, _, _⟩) hdir hsel hpan rfl (by kernel_rfl) (by kernel_rfl) (by kernel_rfl) (Or.inl ⟨by rfl, fun _ _ => by rfl⟩) (by assumption) ?_
    try simp only [Act.put, List.setIfInBounds_toArray, List.set_cons_zero, List.set_cons_succ]
    refine wpHB_take (i := 14) (oi := ⟨some 135, _, _, _, _, _⟩) hdir hsel hpan rfl (by kernel_rfl) (by kernel_rfl) (by kernel_rfl) (yieldsIf_row (by rfl) 31 _ rfl bV7 rfl 31 _ (fun w hw => (gbV7_14.then_ hw.out)) ⟨_, Tryd.underlying31⟩ (by kernel_rfl)) (by assumption) ?_
    try simp only [Act.put, List.setIfInBounds_toArray, List.set_cons_zero, List.set_cons_succ]
    refine wpHB_take (i := 16) (oi := ⟨some 137, _, _, _, _, _⟩) hdir hsel hpan rfl (by kernel_rfl) (by kernel_rfl) (by kernel_rfl) (yieldsIf_row (by rfl) 33 _ rfl b3 rfl 33 _ (fun w hw => (gb3_14.then_ hw.out)) ⟨_, Tryd.underlying33⟩ (by kernel_rfl)) (by assumption) ?_
    try simp only [Act.put, List.setIfInBounds_toArray, List.set_cons_zero, List.set_cons_succ]
    refine wpHB_take (i := 17) (oi := ⟨some 138, _, _, _, _, _⟩) hdir hsel hpan rfl (by kernel_rfl) (by kernel_rfl) (by kernel_rfl) (yieldsIf_row (by rfl) 33 _ rfl b4 rfl 33 _ (fun w hw => (gb4_14.then_ hw.out)) ⟨_, Tryd.underlying33⟩ (by kernel_rfl)) (by assumption) ?_
    try simp only [Act.put, List.setIfInBounds_toArray, List.set_cons_zero, List.set_cons_succ]
    refine wpHB_take (i := 19) (oi := ⟨some 140, _, _, _, _, _⟩) hdir hsel hpan rfl (by kernel_rfl) (by kernel_rfl) (by kernel_rfl) (Or.inl ⟨by rfl, fun _ _ => by rfl⟩) (by assumption) ?_
    try simp only [Act.put, List.setIfInBounds_toArray, List.set_cons_zero, List.set_cons_succ]
    refine wpHB_ready (rs := [15, 18]) (by kernel_rfl) (by simp) ?_
    refine AllHB.cons (by kernel_rfl) (o := ⟨some 136, _, _, _, _, _⟩) rfl (fun K hK => ?_) ?_
    · go_simp
      (go_at_call 19; (with_reducible refine (HOP.out _ hHeld.out).mono ?_); rintro e wc ⟨⟨mc, rfl, hFc, _⟩, hbc⟩)
      try (replace gq2 := gq2.then_ hbc)
      refine hK.out _ _ (Lib.hid (below_then hHeld.out hbc)) (fun hHeld2 => ?_)
      clear hK K hHeld
      have hHeld := hHeld2
      clear hHeld2
      try simp only [Act.put, List.setIfInBounds_toArray, List.set_cons_zero, List.set_cons_succ]
      refine wpHB_ready (rs := [18]) (by kernel_rfl) (by simp) ?_
      refine AllHB.cons (by kernel_rfl) (o := ⟨some 139, _, _, _, _, _⟩) rfl (fun K hK => ?_) AllHB.nil
      go_simp
      refine name_k ?_
      intro Vp hVp
      obtain ⟨q2, e1, gq2, hbp⟩ := (by first | exact list_new2 hVp | exact list_new2 (W := S4.drew) hVp : ∃ b, _)
      try rw [e1]
      try (have e2 : S4.heap.size = q2 := e1; rw [e2])
      clear hVp
      try (replace hFc := hFc.then_ hbp)
      refine hK.out _ _ (Lib.hid (below_then hHeld.out hbp)) (fun hHeld2 => ?_)
      clear hK K hHeld
      have hHeld := hHeld2
      clear hHeld2
      try simp only [Act.put, List.setIfInBounds_toArray, List.set_cons_zero, List.set_cons_succ]
      refine wpHB_take (i := 20) (oi := ⟨some 141, _, _, _, _, _⟩) (v := .agg #[.int .i64 1, .slice (some ⟨q2, 0, none⟩) 2 2, .slice (some ⟨lo, 0, none⟩) 1 1]) hdir hsel hpan rfl (by kernel_rfl) (by kernel_rfl) (by kernel_rfl) (Or.inl ⟨by rfl, fun w hw => by go_simp⟩) (by assumption) ?_
      try simp only [Act.put, List.setIfInBounds_toArray, List.set_cons_zero, List.set_cons_succ]
      refine wpHB_tail (by kernel_rfl) (by kernel_rfl) ?_
      clear hdir hsel hpan
      simp only [opsAt, List.getElem?_toArray, List.getElem?_cons_succ, List.getElem?_cons_zero, Option.toList_some, List.cons_append, List.nil_append]
      go_wp2_with (go_at_call 17; (with_reducible refine (same_l2o hFc rfl gq2 (glo_14.then_ hHeld.out)).mono ?_); rintro e wz ⟨rfl, hbz⟩)
      go_ret
      exact ⟨rfl, below_then (below_then HB14 hHeld.out) hbz⟩
    refine AllHB.cons (by kernel_rfl) (o := ⟨some 139, _, _, _, _, _⟩) rfl (fun K hK => ?_) ?_
    · go_simp
      refine name_k ?_
      intro Vp hVp
      obtain ⟨q2, e1, gq2, hbp⟩ := (by first | exact list_new2 hVp | exact list_new2 (W := S4.drew) hVp : ∃ b, _)
      try rw [e1]
      try (have e2 : S4.heap.size = q2 := e1; rw [e2])
      clear hVp
      try (replace hFc := hFc.then_ hbp)
      refine hK.out _ _ (Lib.hid (below_then hHeld.out hbp)) (fun hHeld2 => ?_)
      clear hK K hHeld
      have hHeld := hHeld2
      clear hHeld2
      try simp only [Act.put, List.setIfInBounds_toArray, List.set_cons_zero, List.set_cons_succ]
      refine wpHB_take (i := 20) (oi := ⟨some 141, _, _, _, _, _⟩) (v := .agg #[.int .i64 1, .slice (some ⟨q2, 0, none⟩) 2 2, .slice (some ⟨lo, 0, none⟩) 1 1]) hdir hsel hpan rfl (by kernel_rfl) (by kernel_rfl) (by kernel_rfl) (Or.inl ⟨by rfl, fun w hw => by go_simp⟩) (by assumption) ?_
      try simp only [Act.put, List.setIfInBounds_toArray, List.set_cons_zero, List.set_cons_succ]
      refine wpHB_ready (rs := [15]) (by kernel_rfl) (by simp) ?_
      refine AllHB.cons (by kernel_rfl) (o := ⟨some 136, _, _, _, _, _⟩) rfl (fun K hK => ?_) AllHB.nil
      go_simp
      (go_at_call 19; (with_reducible refine (HOP.out _ hHeld.out).mono ?_); rintro e wc ⟨⟨mc, rfl, hFc, _⟩, hbc⟩)
      try (replace gq2 := gq2.then_ hbc)
      refine hK.out _ _ (Lib.hid (below_then hHeld.out hbc)) (fun hHeld2 => ?_)
      clear hK K hHeld
      have hHeld := hHeld2
      clear hHeld2
      try simp only [Act.put, List.setIfInBounds_toArray, List.set_cons_zero, List.set_cons_succ]
      refine wpHB_tail (by kernel_rfl) (by kernel_rfl) ?_
      clear hdir hsel hpan
      simp only [opsAt, List.getElem?_toArray, List.getElem?_cons_succ, List.getElem?_cons_zero, Option.toList_some, List.cons_append, List.nil_append]
      go_wp2_with (go_at_call 17; (with_reducible refine (same_l2o hFc rfl gq2 (glo_14.then_ hHeld.out)).mono ?_); rintro e wz ⟨rfl, hbz⟩)
      go_ret
      exact ⟨rfl, below_then (below_then HB14 hHeld.out) hbz⟩
    exact AllHB.nil
  refine AllHB.cons (by kernel_rfl) (o := ⟨some 130, _, _, _, _, _⟩) rfl (fun K hK => ?_) ?_
  · go_simp
    refine name_k ?_
    intro Vp hVp
    obtain ⟨q1, e1, gq1, hbp⟩ := (by first | exact list_new2 hVp | exact list_new2 (W := S4.drew) hVp : ∃ b, _)
    try rw [e1]
    try (have e2 : S4.heap.size = q1 := e1; rw [e2])
    clear hVp
    try (replace hFa := hFa.then_ hbp)
    refine hK.out _ _ (Lib.hid (below_then hHeld.out hbp)) (fun hHeld2 => ?_)
    clear hK K hHeld
    have hHeld := hHeld2
    clear hHeld2
    try simp only [Act.put, List.setIfInBounds_toArray, List.set_cons_zero, List.set_cons_succ]
    refine wpHB_take (i := 10) (oi := ⟨some 131, _, _, _, _, _⟩) (v := .agg #[.int .i64 1, .slice (some ⟨q1, 0, none⟩) 2 2, .slice none 0 0]) hdir hsel hpan rfl (by kernel_rfl) (by kernel_rfl) (by kernel_rfl) (Or.inl ⟨by rfl, fun w hw => by go_simp⟩) (by assumption) ?_
    try simp only [Act.put, List.setIfInBounds_toArray, List.set_cons_zero, List.set_cons_succ]
    refine wpHB_ready (rs := [6]) (by kernel_rfl) (by simp) ?_
    refine AllHB.cons (by kernel_rfl) (o := ⟨some 127, _, _, _, _, _⟩) rfl (fun K hK => ?_) AllHB.nil
    go_simp
    (go_at_call 18; (with_reducible refine (HAS.out _ hHeld.out).mono ?_); rintro e wa ⟨⟨ma, rfl, hFa, _⟩, hba⟩)
    try (replace gq1 := gq1.then_ hba)
    refine hK.out _ _ (Lib.hid (below_then hHeld.out hba)) (fun hHeld2 => ?_)
    clear hK K hHeld
    have hHeld := hHeld2
    clear hHeld2
    try simp only [Act.put, List.setIfInBounds_toArray, List.set_cons_zero, List.set_cons_succ]
    refine wpHB_ready (rs := [11]) (by kernel_rfl) (by simp) ?_
    refine AllHB.cons (by kernel_rfl) (o := ⟨some 132, _, _, _, _, _⟩) rfl (fun K hK => ?_) AllHB.nil
    go_simp
    (go_at_call 17; (with_reducible refine (same_l2 hFa rfl gq1).mono ?_); rintro e wb ⟨rfl, hbb⟩)
    clear hFa gq1
    refine hK.out _ _ (Lib.hid (below_then hHeld.out hbb)) (fun hHeld2 => ?_)
    clear hK K hHeld
    have hHeld := hHeld2
    clear hHeld2
    try simp only [Act.put, List.setIfInBounds_toArray, List.set_cons_zero, List.set_cons_succ]
    refine wpHB_take (i := 12) (oi := ⟨some 133, _, _, _, _, _⟩) hdir hsel hpan rfl (by kernel_rfl) (by kernel_rfl) (by kernel_rfl) (Or.inl ⟨by rfl, fun _ _ => by rfl⟩) (by assumption) ?_
    try simp only [Act.put, List.setIfInBounds_toArray, List.set_cons_zero, List.set_cons_succ]
    refine wpHB_take (i := 13) (oi := ⟨some 134, _, _, _, _, _⟩) hdir hsel hpan rfl (by kernel_rfl) (by kernel_rfl) (by kernel_rfl) (Or.inl ⟨by rfl, fun _ _ => by rfl⟩) (by assumption) ?_
    try simp only [Act.put, List.setIfInBounds_toArray, List.set_cons_zero, List.set_cons_succ]
    refine wpHB_take (i := 14) (oi := ⟨some 135, _, _, _, _, _⟩) hdir hsel hpan rfl (by kernel_rfl) (by kernel_rfl) (by kernel_rfl) (yieldsIf_row (by rfl) 31 _ rfl bV7 rfl 31 _ (fun w hw => (gbV7_14.then_ hw.out)) ⟨_, Tryd.underlying31⟩ (by kernel_rfl)) (by assumption) ?_
    try simp only [Act.put, List.setIfInBounds_toArray, List.set_cons_zero, List.set_cons_succ]
    refine wpHB_take (i := 16) (oi := ⟨some 137, _, _, _, _, _⟩) hdir hsel hpan rfl (by kernel_rfl) (by kernel_rfl) (by kernel_rfl) (yieldsIf_row (by rfl) 33 _ rfl b3 rfl 33 _ (fun w hw => (gb3_14.then_ hw.out)) ⟨_, Tryd.underlying33⟩ (by kernel_rfl)) (by assumption) ?_
    try simp only [Act.put, List.setIfInBounds_toArray, List.set_cons_zero, List.set_cons_succ]
    refine wpHB_take (i := 17) (oi := ⟨some 138, _, _, _, _, _⟩) hdir hsel hpan rfl (by kernel_rfl) (by kernel_rfl) (by kernel_rfl) (yieldsIf_row (by rfl) 33 _ rfl b4 rfl 33 _ (fun w hw => (gb4_14.then_ hw.out)) ⟨_, Tryd.underlying33⟩ (by kernel_rfl)) (by assumption) ?_
    try simp only [Act.put, List.setIfInBounds_toArray, List.set_cons_zero, List.set_cons_succ]
    refine wpHB_take (i := 19) (oi := ⟨some 140, _, _, _, _, _⟩) hdir hsel hpan rfl (by kernel_rfl) (by kernel_rfl) (by kernel_rfl) (Or.inl ⟨by rfl, fun _ _ => by rfl⟩) (by assumption) ?_
    try simp only [Act.put, List.setIfInBounds_toArray, List.set_cons_zero, List.set_cons_succ]
    refine wpHB_ready (rs := [15, 18]) (by kernel_rfl) (by simp) ?_
    refine AllHB.cons (by kernel_rfl) (o := ⟨some 136, _, _, _, _, _⟩) rfl (fun K hK => ?_) ?_
    · go_simp
      (go_at_call 19; (with_reducible refine (HOP.out _ hHeld.out).mono ?_); rintro e wc ⟨⟨mc, rfl, hFc, _⟩, hbc⟩)
      try (replace gq2 := gq2.then_ hbc)
      refine hK.out _ _ (Lib.hid (below_then hHeld.out hbc)) (fun hHeld2 => ?_)
      clear hK K hHeld
      have hHeld := hHeld2
      clear hHeld2
      try simp only [Act.put, List.setIfInBounds_toArray, List.set_cons_zero, List.set_cons_succ]
      refine wpHB_ready (rs := [18]) (by kernel_rfl) (by simp) ?_
      refine AllHB.cons (by kernel_rfl) (o := ⟨some 139, _, _, _, _, _⟩) rfl (fun K hK => ?_) AllHB.nil
      go_simp
      refine name_k ?_
      intro Vp hVp
      obtain ⟨q2, e1, gq2, hbp⟩ := (by first | exact list_new2 hVp | exact list_new2 (W := S4.drew) hVp : ∃ b, _)
      try rw [e1]
      try (have e2 : S4.heap.size = q2 := e1; rw [e2])
      clear hVp
      try (replace hFc := hFc.then_ hbp)
      refine hK.out _ _ (Lib.hid (below_then hHeld.out hbp)) (fun hHeld2 => ?_)
      clear hK K hHeld
      have hHeld := hHeld2
      clear hHeld2
      try simp only [Act.put, List.setIfInBounds_toArray, List.set_cons_zero, List.set_cons_succ]
      refine wpHB_take (i := 20) (oi := ⟨some 141, _, _, _, _, _⟩) (v := .agg #[.int .i64 1, .slice (some ⟨q2, 0, none⟩) 2 2, .slice (some ⟨lo, 0, none⟩) 1 1]) hdir hsel hpan rfl (by kernel_rfl) (by kernel_rfl) (by kernel_rfl) (Or.inl ⟨by rfl, fun w hw => by go_simp⟩) (by assumption) ?_
      try simp only [Act.put, List.setIfInBounds_toArray, List.set_cons_zero, List.set_cons_succ]
      refine wpHB_tail (by kernel_rfl) (by kernel_rfl) ?_
      clear hdir hsel hpan
      simp only [opsAt, List.getElem?_toArray, List.getElem?_cons_succ, List.getElem?_cons_zero, Option.toList_some, List.cons_append, List.nil_append]
      go_wp2_with (go_at_call 17; (with_reducible refine (same_l2o hFc rfl gq2 (glo_14.then_ hHeld.out)).mono ?_); rintro e wz ⟨rfl, hbz⟩)
      go_ret
      exact ⟨rfl, below_then (below_then HB14 hHeld.out) hbz⟩
    refine AllHB.cons (by kernel_rfl) (o := ⟨some 139, _, _, _, _, _⟩) rfl (fun K hK => ?_) ?_
    · go_simp
      refine name_k ?_
      intro Vp hVp
      obtain ⟨q2, e1, gq2, hbp⟩ := (by first | exact list_new2 hVp | exact list_new2 (W := S4.drew) hVp : ∃ b, _)
      try rw [e1]
      try (have e2 : S4.heap.size = q2 := e1; rw [e2])
      clear hVp
      try (replace hFc := hFc.then_ hbp)
      refine hK.out _ _ (Lib.hid (below_then hHeld.out hbp)) (fun hHeld2 => ?_)
      clear hK K hHeld
      have hHeld := hHeld2
      clear hHeld2
      try simp only [Act.put, List.setIfInBounds_toArray, List.set_cons_zero, List.set_cons_succ]
      refine wpHB_take (i := 20) (oi := ⟨some 141, _, _, _, _, _⟩) (v := .agg #[.int .i64 1, .slice (some ⟨q2, 0, none⟩) 2 2, .slice (some ⟨lo, 0, none⟩) 1 1]) hdir hsel hpan rfl (by kernel_rfl) (by kernel_rfl) (by kernel_rfl) (Or.inl ⟨by rfl, fun w hw => by go_simp⟩) (by assumption) ?_
      try simp only [Act.put, List.setIfInBounds_toArray, List.set_cons_zero, List.set_cons_succ]
      refine wpHB_ready (rs := [15]) (by kernel_rfl) (by simp) ?_
      refine AllHB.cons (by kernel_rfl) (o := ⟨some 136, _, _, _, _, _⟩) rfl (fun K hK => ?_) AllHB.nil
      go_simp
      (go_at_call 19; (with_reducible refine (HOP.out _ hHeld.out).mono ?_); rintro e wc ⟨⟨mc, rfl, hFc, _⟩, hbc⟩)
      try (replace gq2 := gq2.then_ hbc)
      refine hK.out _ _ (Lib.hid (below_then hHeld.out hbc)) (fun hHeld2 => ?_)
      clear hK K hHeld
      have hHeld := hHeld2
      clear hHeld2
      try simp only [Act.put, List.setIfInBounds_toArray, List.set_cons_zero, List.set_cons_succ]
      refine wpHB_tail (by kernel_rfl) (by kernel_rfl) ?_
      clear hdir hsel hpan
      simp only [opsAt, List.getElem?_toArray, List.getElem?_cons_succ, List.getElem?_cons_zero, Option.toList_some, List.cons_append, List.nil_append]
      go_wp2_with (go_at_call 17; (with_reducible refine (same_l2o hFc rfl gq2 (glo_14.then_ hHeld.out)).mono ?_); rintro e wz ⟨rfl, hbz⟩)
      go_ret
      exact ⟨rfl, below_then (below_then HB14 hHeld.out) hbz⟩
    exact AllHB.nil
  exact AllHB.nil
end Go.Proofs.YtemkghgcdpmlbaaDoor
