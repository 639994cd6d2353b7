/- Contracts of functions and plain laws, joined: Krp, Lc0, OpM2. -/
import Derived.Test.YtcplneglfbdooaaMb25
import Derived.Test.YtcplneglfbdooaaMb26
import Derived.Test.YtcplneglfbdooaaMb27
import Derived.Test.YtcplneglfbdooaaMb28
import Derived.Test.YtcplneglfbdooaaMb29
import Derived.Test.YtcplneglfbdooaaMb13
/- The walk of the law's head. -/
namespace Go.Proofs.Ytcplneglfbdooaa
open Go.RowKit

set_option maxRecDepth 100000 in
set_option maxHeartbeats 6400000 in
theorem head_any (w : World) : Calls Try.prog 9 #[] w fun e w' => e = .returned (.bool true) ∧ Below w.heap.size w w' := by
  have HE := Lib.hid (fun W => example_any W)
  have HC := Lib.hid (fun n W => clause_any n W)
  go_enter Try.func9, Try.ntmps9
  go_upto_region 2 with (first | (go_at_call 21; (with_reducible refine (HE.out _).mono ?_); rintro e w1 ⟨⟨m, rfl, hc1, ho1⟩, hb1⟩) | (refine wpList_store_all rfl 27 _ _ rfl w1.heap.size 27 [] coZ.toList [] (coA Con.ex m).toList rfl rfl (Blk.new _ _ _) rfl (by kernel_rfl) (by simp [Value.oneCell']) ?_; intro w2 g2 U2))
  have hb2 : Below w1.heap.size w1 w2 := (wa1 _ _).trans (U2.b _ (Nat.le_refl _))
  have hC2 : Cont w2 Con.ex m := hc1.then_ hb2
  have HB2 : Below w.heap.size w w2 := below_then hb1 hb2
  have l2 := g2.lt
  obtain ⟨bc, ec⟩ : ∃ b, w1.heap.size = b := ⟨_, rfl⟩
  rw [ec] at g2 l2 ⊢
  clear U2 hb2 hb1 hc1 ho1 ec
  go_upto_region 5 with (first | (go_at_call 24; (with_reducible refine (HC.out _ _).mono ?_); rintro e w3 ⟨rfl, hb3⟩) | (refine wpList_store_all rfl 49 _ _ rfl w3.heap.size 49 [] pZ [] (pL (Pat.plus 7) ⟨none, 0, none, 0⟩).toList rfl rfl (Blk.new _ _ _) rfl (by kernel_rfl) (by simp [Value.oneCell']) ?_; intro w4 g4 U4))
  have hb4 : Below w2.heap.size w2 w4 := below_then hb3 ((wa1 _ _).trans (U4.b _ (Nat.le_refl _)))
  have gC4 := g2.then_ hb4
  have s4 := hb4.size
  have hC4 := hC2.then_ hb4
  have HB4 := below_then HB2 hb4
  have l4 := g4.lt
  obtain ⟨b4, e4⟩ : ∃ b, w3.heap.size = b := ⟨_, rfl⟩
  rw [e4] at g4 l4 ⊢
  clear U4 hb4 hb3 e4 g2 hC2 HB2
  go_upto_region 6 with (first | (go_at_call 24; (with_reducible refine (HC.out _ _).mono ?_); rintro e w5 ⟨rfl, hb5⟩) | (refine wpList_store_all rfl 49 _ _ rfl w5.heap.size 49 [] pZ [] (pL (Pat.repl 0 5) ⟨some ⟨w4.heap.size, 0, none⟩, 1, none, 0⟩).toList rfl rfl (Blk.new _ _ _) rfl (by kernel_rfl) (by simp [Value.oneCell']) ?_; intro w6 g6 U6))
  have hb6 : Below w5.heap.size w5 w6 := (wa1 _ _).trans (U6.b _ (Nat.le_refl _))
  have hb46 : Below w4.heap.size w4 w6 := (wa1 _ _).trans ((hb5.trans (hb6.mono hb5.size)).mono (wa1 _ _).size)
  have l5 := hb5.size
  simp only [World.alloc, Array.size_push] at l5
  have gi := (((Blk.new w4 _ _).then_ hb5).then_ hb6)
  have hP6 : PatM w6 (Pat.repl 0 5) ⟨some ⟨w4.heap.size, 0, none⟩, 1, none, 0⟩ := ⟨blk_seg (xs := [0]) eI_len gi, (by show 1 ≤ 1000000; decide), Nat.le_refl _, kok_at 5 w6⟩
  have hP4 : PatM w6 (Pat.plus 7) ⟨none, 0, none, 0⟩ := ⟨Seg.nil _ _ _ _ _, Nat.zero_le _, Nat.zero_le _, kok_at 7 w6⟩
  have gC6 := gC4.then_ hb46
  have g46 := g4.then_ hb46
  have hC6 := hC4.then_ hb46
  have HB6 := Lib.hid (below_then HB4 hb46)
  have l46 := hb46.size
  obtain ⟨p5, ep5⟩ : ∃ pm : Pm, (⟨some ⟨w4.heap.size, 0, none⟩, 1, none, 0⟩ : Pm) = pm := ⟨_, rfl⟩
  rw [ep5] at g6 hP6
  obtain ⟨b5, e5⟩ : ∃ b, w5.heap.size = b := ⟨_, rfl⟩
  rw [e5] at g6 ⊢
  have l6 : bc < w6.heap.size := by omega
  have l64 : b4 < w6.heap.size := by omega
  have l65 := g6.lt
  clear U6 hb6 hb46 hb5 l5 gi gC4 g4 hC4 HB4 l46 ep5 e5 l4 l2 s4
  have GC := Lib.hid gC6
  have G4 := Lib.hid g46
  have G5 := Lib.hid g6
  have HCO := Lib.hid hC6
  have HP5 := Lib.hid hP6
  have HP4 := Lib.hid hP4
  clear gC6 g46 g6 hC6 hP6 hP4
  have HW := Lib.hid (fun i W => lwaive_any i W)
  have HS := Lib.hid (fun i d W => lspan_any i d W)
  simp only [Act.put]
  refine head_r6 (by repeat (first | with_reducible refine panOk_then ?_ | with_reducible refine panOk_block ?_ | exact panOk_body)) m bc b4 b5 p5 w6 GC G4 G5 HCO HP5 HP4 (Lib.hid ?_)
  intro v6 v7 v8 v28 v29 v30 v31 v32 v33 v34 v35 v36 v37 v38 v39 wc hcut
  dsimp only [Exit.then]
  obtain ⟨A6, k6, b6', M6, rfl, rfl, rfl, hg6, hm6, em6, lm6, lb6, hb6⟩ := hcut
  obtain ⟨w7, rfl⟩ : ∃ W, W = wc := ⟨_, rfl⟩
  replace GC := Lib.hid (GC.out.then_ hb6)
  replace G4 := Lib.hid (G4.out.then_ hb6)
  replace G5 := Lib.hid (G5.out.then_ hb6)
  replace HCO := Lib.hid (HCO.out.then_ hb6)
  replace HP5 := Lib.hid (HP5.out.then_ hb6)
  replace HP4 := Lib.hid (HP4.out.then_ hb6)
  have GP6 := Lib.hid hg6
  have HQ6 := Lib.hid hm6
  have EQ6 := Lib.hid em6
  have HB7 := Lib.hid (below_then HB6.out hb6)
  clear hb6 hg6 lb6 hm6 em6 HB6
  go_upto_region 7 with (fail)
  refine head_r7 (by repeat (first | with_reducible refine panOk_then ?_ | with_reducible refine panOk_block ?_ | exact panOk_body)) m bc b4 b5 p5 w7 GC G4 G5 HCO HP5 HP4 (Lib.hid ?_)
  intro v9 v10 v11 v40 v41 v42 v43 v44 v45 v46 v47 v48 v49 v50 v51 wc hcut
  dsimp only [Exit.then]
  obtain ⟨A7, k7, b7', M7, rfl, rfl, rfl, hg7, lm7, lb7, hb7⟩ := hcut
  obtain ⟨w8, rfl⟩ : ∃ W, W = wc := ⟨_, rfl⟩
  replace GC := Lib.hid (GC.out.then_ hb7)
  replace G4 := Lib.hid (G4.out.then_ hb7)
  replace G5 := Lib.hid (G5.out.then_ hb7)
  replace HCO := Lib.hid (HCO.out.then_ hb7)
  replace HP5 := Lib.hid (HP5.out.then_ hb7)
  replace HP4 := Lib.hid (HP4.out.then_ hb7)
  replace GP6 := Lib.hid (GP6.out.then_ hb7)
  replace HQ6 := Lib.hid (HQ6.out.then_ hb7)
  have GP7 := Lib.hid hg7
  have HB8 := Lib.hid (below_then HB7.out hb7)
  clear hb7 hg7 lb7 HB7
  go_upto_region 8 with (fail)
  refine head_r8 (by repeat (first | with_reducible refine panOk_then ?_ | with_reducible refine panOk_block ?_ | exact panOk_body)) m bc b4 b5 p5 w8 GC G4 G5 HCO HP5 HP4 (Lib.hid ?_)
  intro v12 v13 v14 v52 v53 v54 v55 v56 v57 v58 v59 v60 v61 v62 v63 wc hcut
  dsimp only [Exit.then]
  obtain ⟨A8, k8, b8', M8, rfl, rfl, rfl, hg8, hm8, em8, lm8, lb8, hb8⟩ := hcut
  obtain ⟨w9, rfl⟩ : ∃ W, W = wc := ⟨_, rfl⟩
  replace GC := Lib.hid (GC.out.then_ hb8)
  replace G4 := Lib.hid (G4.out.then_ hb8)
  replace G5 := Lib.hid (G5.out.then_ hb8)
  replace HCO := Lib.hid (HCO.out.then_ hb8)
  replace HP5 := Lib.hid (HP5.out.then_ hb8)
  replace HP4 := Lib.hid (HP4.out.then_ hb8)
  replace GP6 := Lib.hid (GP6.out.then_ hb8)
  replace HQ6 := Lib.hid (HQ6.out.then_ hb8)
  replace GP7 := Lib.hid (GP7.out.then_ hb8)
  have GP8 := Lib.hid hg8
  have HQ8 := Lib.hid hm8
  have EQ8 := Lib.hid em8
  have HB9 := Lib.hid (below_then HB8.out hb8)
  clear hb8 hg8 lb8 hm8 em8 HB8
  go_upto_region 9 with (fail)
  refine head_r9 (by repeat (first | with_reducible refine panOk_then ?_ | with_reducible refine panOk_block ?_ | exact panOk_body)) m bc b4 b5 p5 w9 GC G4 G5 HCO HP5 HP4 (Lib.hid ?_)
  intro v15 v16 v17 v64 v65 v66 v67 v68 v69 v70 v71 v72 v73 v74 v75 v76 wc hcut
  dsimp only [Exit.then]
  obtain ⟨A9, k9, b9', M9, rfl, rfl, rfl, hg9, lm9, lb9, hb9⟩ := hcut
  obtain ⟨w10, rfl⟩ : ∃ W, W = wc := ⟨_, rfl⟩
  replace GC := Lib.hid (GC.out.then_ hb9)
  replace G4 := Lib.hid (G4.out.then_ hb9)
  replace G5 := Lib.hid (G5.out.then_ hb9)
  replace HCO := Lib.hid (HCO.out.then_ hb9)
  replace HP5 := Lib.hid (HP5.out.then_ hb9)
  replace HP4 := Lib.hid (HP4.out.then_ hb9)
  replace GP6 := Lib.hid (GP6.out.then_ hb9)
  replace HQ6 := Lib.hid (HQ6.out.then_ hb9)
  replace GP7 := Lib.hid (GP7.out.then_ hb9)
  replace GP8 := Lib.hid (GP8.out.then_ hb9)
  replace HQ8 := Lib.hid (HQ8.out.then_ hb9)
  have GP9 := Lib.hid hg9
  have HB10 := Lib.hid (below_then HB9.out hb9)
  clear hb9 hg9 lb9 HB9
  go_upto_region 10 with (fail)
  go_upto_region 11 with (first | (refine wpList_row_w (by rfl) 27 _ rfl bc rfl 27 _ GC.out ⟨_, Try.underlying27⟩ (by kernel_rfl) ?_; simp only [Act.put, List.setIfInBounds_toArray, List.set_cons_succ, List.set_cons_zero]) | (go_at_call 11; (with_reducible refine (all_at m M8 A8 k8 _ HCO.out HQ8.out EQ8.out).mono ?_); rintro e wa ⟨⟨md, rfl, hmd⟩, hba⟩) | (refine wpList_store_all rfl 27 _ _ rfl wa.heap.size 27 [] coZ.toList [] (coA Con.exd md).toList rfl rfl (Blk.new _ _ _) rfl (by kernel_rfl) (by simp [Value.oneCell']) ?_; intro w11 g11 U11))
  have hs11 : Below wa.heap.size wa w11 := (wa1 _ _).trans (U11.b _ (Nat.le_refl _))
  have hb10 := below_then hba hs11
  obtain ⟨kd, od, ek, lk, ck3, ck2⟩ := exd_cells (hmd.then_ hs11)
  obtain ⟨bd, ebd⟩ : ∃ b, wa.heap.size = b := ⟨_, rfl⟩
  rw [ebd] at g11 ⊢
  have hxd : ExD w11 bd md kd od := ⟨g11, ek, ck3, ck2, lk⟩
  clear U11 hs11 hba hmd ebd g11 ek lk ck3 ck2
  replace GC := Lib.hid (GC.out.then_ hb10)
  replace G4 := Lib.hid (G4.out.then_ hb10)
  replace G5 := Lib.hid (G5.out.then_ hb10)
  replace HCO := Lib.hid (HCO.out.then_ hb10)
  replace HP5 := Lib.hid (HP5.out.then_ hb10)
  replace HP4 := Lib.hid (HP4.out.then_ hb10)
  replace GP6 := Lib.hid (GP6.out.then_ hb10)
  replace HQ6 := Lib.hid (HQ6.out.then_ hb10)
  replace GP7 := Lib.hid (GP7.out.then_ hb10)
  replace GP8 := Lib.hid (GP8.out.then_ hb10)
  replace HQ8 := Lib.hid (HQ8.out.then_ hb10)
  replace GP9 := Lib.hid (GP9.out.then_ hb10)
  have HXD := Lib.hid hxd
  have HB11 := Lib.hid (below_then HB10.out hb10)
  clear hb10 hxd HB10
  refine head_r11 (by repeat (first | with_reducible refine panOk_then ?_ | with_reducible refine panOk_block ?_ | exact panOk_body)) m bc b4 b5 p5 A6 A8 M6 M8 k6 k8 b7' b9' w11 GC G4 G5 HCO HP5 HP4 HQ6 HQ8 GP7 GP9 EQ6 EQ8 (Lib.hid ?_)
  intro v20 v83 v84 v85 v86 v87 v88 v89 v90 v91 v92 v93 v94 v95 v96 v97 v98 v99 v100 v101 v102 v103 v104 v105 v106 v107 v108 v109 v110 v111 v112 v113 v114 v115 v116 v117 v118 v119 v120 v121 v122 v123 v124 wc hcut
  dsimp only [Exit.then]
  obtain ⟨rfl, hb11⟩ := hcut
  obtain ⟨w12, rfl⟩ : ∃ W, W = wc := ⟨_, rfl⟩
  replace GC := Lib.hid (GC.out.then_ hb11)
  replace G4 := Lib.hid (G4.out.then_ hb11)
  replace G5 := Lib.hid (G5.out.then_ hb11)
  replace HCO := Lib.hid (HCO.out.then_ hb11)
  replace HP5 := Lib.hid (HP5.out.then_ hb11)
  replace HP4 := Lib.hid (HP4.out.then_ hb11)
  replace GP6 := Lib.hid (GP6.out.then_ hb11)
  replace HQ6 := Lib.hid (HQ6.out.then_ hb11)
  replace GP7 := Lib.hid (GP7.out.then_ hb11)
  replace GP8 := Lib.hid (GP8.out.then_ hb11)
  replace HQ8 := Lib.hid (HQ8.out.then_ hb11)
  replace GP9 := Lib.hid (GP9.out.then_ hb11)
  replace HXD := Lib.hid (HXD.out.then_ hb11)
  have HB12 := Lib.hid (below_then HB11.out hb11)
  clear hb11 HB11
  go_upto_region 12 with (fail)
  go_cut [21] from 125 to 147 (fun v21 W => v21 = .bool true ∧ w12 = W)
  case first =>
    have q4 : w12.cell? ⟨bd, 4, none⟩ = some (.slice (some ⟨kd, od, none⟩) 4 md.kc) := by rw [← HXD.out.k]; exact HXD.out.g.cell 4
    have q3 := HXD.out.c3
    have q2 := HXD.out.c2
    clear GC G4 G5 HCO HP5 HP4 GP6 HQ6 GP7 GP8 HQ8 GP9
    go_wp2
    go_meet
    case rel => exact ⟨rfl, rfl⟩
  obtain ⟨rfl, rfl⟩ := hcut
  go_upto_region 13 with (fail)
  refine head_r13 (by repeat (first | with_reducible refine panOk_then ?_ | with_reducible refine panOk_block ?_ | exact panOk_body)) m bc b4 b5 p5 w12 GC G4 G5 HCO HP5 HP4 (Lib.hid ?_)
  intro v0 v148 v149 v150 v151 v152 v153 v154 v155 v156 v157 v158 v159 v160 v161 v162 v163 v164 v165 v166 v167 v168 v169 v170 v171 v172 v173 v174 v175 v176 v177 v178 v179 v180 v181 v182 v183 v184 v185 v186 v187 v188 v189 wc hcut
  dsimp only [Exit.then]
  obtain ⟨rfl, hb13⟩ := hcut
  go_wp2
  go_ret
  exact ⟨rfl, below_then HB12.out hb13⟩
end Go.Proofs.Ytcplneglfbdooaa
/- What the laws on merge have in common: what small contracts and patches give, and contracts of the calls with written results. -/
namespace Go.Proofs.Ytcplneglfbdooaa
open Go.RowKit

theorem smallC {c : Con} {n : Nat} (h : c.small n = true) : c.hold.length ≤ 20 ∧ c.un.length ≤ 30 ∧ c.ac.length ≤ 70 ∧ c.cl.length ≤ n ∧ c.off.length ≤ 100 ∧ ∀ k ∈ c.cl, k.start.length ≤ 20 := by
  unfold Con.small at h
  simp only [Bool.and_eq_true, Bool.not_eq_true', Bool.or_eq_false_iff, decide_eq_false_iff_not, List.all_eq_true] at h
  obtain ⟨⟨⟨⟨⟨h1, h2⟩, h3⟩, h4⟩, h5⟩, h6⟩ := h
  refine ⟨by omega, by omega, by omega, by omega, by omega, fun k hk => ?_⟩
  have := h6 k hk
  omega
theorem smallA_con {w : World} {c : Con} {m : Cm} {l : List Pat} (h : ContW w c m) (hs : smallA c l = true) : Cont w c m ∧ c.cl.length ≤ 20 := by
  unfold smallA at hs
  simp only [Bool.and_eq_true] at hs
  obtain ⟨h1, h2, h3, h4, h5, h6⟩ := smallC (n := 20) hs.2.1
  exact ⟨h.cont (by omega) (by omega) (by omega) (by omega) (by omega) (fun k hk => Nat.le_trans (h6 k hk) (by decide)), h4⟩
theorem smallA_pats {w : World} {c : Con} {L : List Pk} {A : Option Addr} {k : Nat} (h : PatsW w A L k) (hs : smallA c (pats L) = true) : Pats w A L ∧ L.length ≤ 70 ∧ L.length ≤ k := by
  unfold smallA at hs
  simp only [Bool.and_eq_true, List.all_eq_true, decide_eq_true_eq, List.length_map] at hs
  refine ⟨⟨h.2.2.2, fun x hx => (h.2.2.1 x hx).patM ?_ ?_, by omega⟩, by omega, h.1⟩
  all_goals
    have := hs.1 x.p (List.mem_map_of_mem hx)
    unfold Pat.small at this
    simp only [Bool.and_eq_true, decide_eq_true_eq] at this
    omega
theorem patsW_then {w w' : World} {A : Option Addr} {L : List Pk} {k : Nat} (h : PatsW w A L k) (hb : Below w.heap.size w w') : Seg w' w'.heap.size 19 eP A L := (h.2.2.2.below hb).more hb.size
theorem pats_nil (w : World) : Pats w none [] := ⟨Seg.nil _ _ _ _ _, fun x hx => (by cases hx), by decide⟩
/-- the contract of small with its result as a letter -/
theorem small_at {w : World} (c : Con) (m : Cm) (L : List Pk) (A : Option Addr) (k : Nat) (B : Bool) (h : ContW w c m) (hL : PatsW w A L k) (hB : smallA c (pats L) = B) (W : World) (hb : Below w.heap.size w W) :
    Calls Try.prog 10 #[.agg (coA c m), .slice A L.length k] W fun e w' => e = .returned (.bool B) ∧ Below W.heap.size W w' := by
  subst hB
  exact small_any c m L A k W ((h.k.2.2.2.below hb).more hb.size) h.e (patsW_then hL hb) (Nat.le_trans hL.1 hL.2.1.1)
theorem all_to (c C : Con) (m : Cm) (L : List Pk) (A : Option Addr) (cap n : Nat) (E : Int) (w : World) (h : Cont w c m) (hL : Pats w A L) (hn : L.length = n) (hE : c.allE (pats L) = E) (hC : c.allC (pats L) = C) :
    Calls Try.prog 11 #[.agg (coA c m), .slice A n cap] w fun e w' => (∃ m', e = .returned (.tuple #[.agg (coA C m'), .int .i64 E]) ∧ Cont w' C m') ∧ Below w.heap.size w w' := by
  subst hE
  subst hC
  subst hn
  exact all_any c m L A cap w h hL
theorem mrg_to (c : Con) (m : Cm) (L R : List Pk) (A1 A2 : Option Addr) (nL nR k1 k2 : Nat) (W : World) (E : Int) (i j : Int) (l : List Pat) (h : Cont W c m) (hL : Pats W A1 L) (hR : Pats W A2 R) (n1 : L.length = nL) (n2 : R.length = nR) (hk : nL ≤ k1) (he : c.mrE (pats L) (pats R) = (E, i.toNat, j.toNat)) (hi : 0 ≤ i ∧ 0 ≤ j) (hl : (if E = 0 then c.mrL (pats L) (pats R) else []) = l) :
    Calls Try.prog 13 #[.agg (coA c m), .slice A1 nL k1, .slice A2 nR k2] W fun e w' => (∃ A cap M, e = .returned (.tuple #[.slice A (M : List Pk).length cap, .agg (pairA i j), .int .i64 E]) ∧ pats M = l ∧ Pats w' A M ∧ M.length ≤ cap) ∧ Below W.heap.size W w' := by
  subst n1
  subst n2
  refine (merge_any (Lib.hid same_any) c m L R A1 A2 _ _ W h hL hR hk).mono ?_
  rintro e w' ⟨⟨A, cap, M, rfl, h1, h2, h3⟩, hb⟩
  rw [he] at h1
  exact ⟨⟨A, cap, M, by rw [he]; show Ending.returned (.tuple #[_, .agg (pairA (i.toNat : Int) (j.toNat : Int)), _]) = _; rw [Int.toNat_of_nonneg hi.1, Int.toNat_of_nonneg hi.2], by rw [h1, ← hl], h2, h3⟩, hb⟩
theorem same_to (L R : List Pk) (A1 A2 : Option Addr) (c1 c2 nL nR : Nat) (B : Bool) (W : World) (hL : Pats W A1 L) (hR : Pats W A2 R) (n1 : L.length = nL) (n2 : R.length = nR) (he : decide (pats L = pats R) = B) :
    Calls Try.prog 14 #[.slice A1 nL c1, .slice A2 nR c2] W fun e w' => e = .returned (.bool B) ∧ Below W.heap.size W w' := by
  subst n1
  subst n2
  subst he
  exact rpats_any A1 A2 c1 c2 L R W hL.s hR.s hL.t hR.t hL.n
theorem scon_to (a b : Con) (ma mb : Cm) (B : Bool) (w : World) (ha : Cont w a ma) (hb : Cont w b mb) (he : decide (a = b) = B) : Calls Try.prog 12 #[.agg (coA a ma), .agg (coA b mb)] w fun e w' => e = .returned (.bool B) ∧ Below w.heap.size w w' := by
  subst he
  exact rcon_any a b ma mb w ha hb
theorem eqP2 (a b c d : Int) (w : World) : (Op.equalIn 10000 36 (.agg #[.int .i64 a, .int .i64 b]) (.agg #[.int .i64 c, .int .i64 d])).run Try.prog w = .ok (decide (a = c ∧ b = d)) w := by
  have p1 : (part 3 #[.int .i64 a, .int .i64 b] 0).run Try.prog w = .ok (.int .i64 a) w := by kernel_rfl
  have p2 : (part 3 #[.int .i64 a, .int .i64 b] 1).run Try.prog w = .ok (.int .i64 b) w := by kernel_rfl
  have p3 : (part 3 #[.int .i64 c, .int .i64 d] 0).run Try.prog w = .ok (.int .i64 c) w := by kernel_rfl
  have p4 : (part 3 #[.int .i64 c, .int .i64 d] 1).run Try.prog w = .ok (.int .i64 d) w := by kernel_rfl
  have hc : Try.prog.cellsOf 3 = 1 := by kernel_rfl
  have u := Try.underlying3
  obtain ⟨i, hi⟩ := Option.isSome_iff_exists.1 (show (Try.prog.info? 3).isSome = true by kernel_rfl)
  show (Op.equalIn (9998 + 1 + 1) _ _ _).run _ _ = _
  rw [run_equalIn_array w (9998 + 1) _ _ Try.underlying36 hi, hc]
  simp only [show List.range 2 = [0, 1] from rfl, Nat.mul_one, Op.eqItems, Sem.run_bind, p1, p2, p3, p4, Result.andThen_ok, run_equalIn_int w 9998 3 .i64 .i64 _ _ u, Sem.run_ite, Sem.run_pure]
  by_cases h1 : a = c <;> by_cases h2 : b = d <;> simp [h1, h2]
/-- load of a whole array -/
theorem wpList_arr {P : Program} {ops : Array Oper} {rest : List Oper} {Q : Exit → Act → World → Prop} {o : Oper} {a : Act} {w : World} (hw : Region.wanted o (yielded ops a.tmps) = true) (ty : TypeId) (x : Operand) (ho : o.op = .load ty x) (g : Nat) (hx : a.eval x = .pointer (some ⟨g, 0, none⟩)) (t : TypeId) (cs : Array Value) (hg : Blk w g t cs)
    {n : Nat} {e : TypeId} (hu : P.underlying ty = some (.array n e)) (hi : (P.info? ty).map (·.size) = some cs.size)
    (h : wpList P ops Q rest (a.put o.dst (.agg cs)) w) : wpList P ops Q (o :: rest) a w :=
  wpList_wanted hw fun _K hK => wp_load_row ty x ho g hx t cs (0, 0) _ hg hu rfl hi (hK _ _ h)
end Go.Proofs.Ytcplneglfbdooaa
/- All arguments once more in a later world; a small number's bounds. -/
namespace Go.Proofs.Ytcplneglfbdooaa
open Go.ChangeShapes Go.WideShapes Go.ChangeAt Go.RowKit Go.Deep

section
variable {H : Type} {enc : TypeId × Value → H}
theorem below_all {W W' : World} (hb : Below W.heap.size W W') {ts : List TypeId} : ∀ {vs : List Value} {ds : List (DataW H)} {ps : List MemPlace}, (ts.all fun t => Try.prog.readableRec t && decide (t < Try.prog.types.size)) = true →
    DataW.TrodAll enc Try.prog W 0 (fun _ => true) true ts vs ds ps → (∀ x ∈ ps, x.block < W.heap.size) → DataW.TrodAll enc Try.prog W' 0 (fun b => decide (b < W.heap.size)) true ts vs ds ps := by
  induction ts with
  | nil =>
    intro vs ds ps _ h _
    obtain ⟨rfl, rfl, rfl⟩ := trodAll_nil h
    simp [DataW.TrodAll]
  | cons t ts ih =>
    intro vs ds ps ht h hp
    obtain ⟨v, vs', d, ds', p, q, rfl, rfl, rfl, h1, h2⟩ := trodAll_cons h
    rw [List.all_cons, Bool.and_eq_true, Bool.and_eq_true] at ht
    exact trodAll_cons_mk (Below.trod Try.laidOut ht.1.1 (of_decide_eq_true ht.1.2) h1 hb fun x hx => hp x (by simp [hx])) (ih ht.2 h2 fun x hx => hp x (by simp [hx]))
end
theorem wf_u16 {n : Int} (h : (Lit.int .u16 n).wf = true) : 0 ≤ n ∧ n ≤ 65535 := by
  simp [Lit.wf, IntKind.min, IntKind.max, IntKind.signed, IntKind.bits] at h
  omega
end Go.Proofs.Ytcplneglfbdooaa
