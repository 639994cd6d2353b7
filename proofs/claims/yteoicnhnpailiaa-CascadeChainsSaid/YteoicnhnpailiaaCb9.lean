/- The walk of cascade.spread. -/
import Derived.Test.YteoicnhnpailiaaCb8
import Derived.DeepKeys
namespace Go.Proofs.Yteoicnhnpailiaa
open Go.RowKit Go.Sort Go.Maps

abbrev mapO (w : World) (b n : Nat) (D : DataW Unit) : Prop := w.ownsMap Try.prog 3 (plainElem Try.prog 3) b n D
/-- what spread gives -/
def SpP (p : Pf) (w w' : World) (e : Ending) : Prop :=
  (∃ K, SpNo p K ∧ e = .returned (.tuple #[.agg #[.bool false, .bool false, .bool false, .bool false, .bool false, .bool false, .bool false, .bool false, .bool false, .bool false, .bool false, .bool false], .map none, .int .i64 2])) ∨
  (∃ K bM cnt D, SpOk p K ∧ e = .returned (.tuple #[.agg (setA (Dk p K)), .map (some bM), .int .i64 0]) ∧ mapO w' bM cnt D ∧ MapIs p K 0 D ∧ w.heap.size ≤ bM)
theorem keyI : Keyed Try.prog 3 := int_keyed Try.underlying3
theorem zeroI (w : World) : (zeroValue 3).run Try.prog w = .ok (.int .i64 0) w := by kernel_rfl
theorem set0 : setA (List.replicate 12 false) = #[.bool false, .bool false, .bool false, .bool false, .bool false, .bool false, .bool false, .bool false, .bool false, .bool false, .bool false, .bool false] := by simp [setA]
theorem eqv12 (y0 y1 y2 y3 y4 y5 y6 y7 y8 y9 y10 y11 z0 z1 z2 z3 z4 z5 z6 z7 z8 z9 z10 z11 : Bool) (w : World) : (Op.equalIn 10000 66 (.agg #[.bool y0, .bool y1, .bool y2, .bool y3, .bool y4, .bool y5, .bool y6, .bool y7, .bool y8, .bool y9, .bool y10, .bool y11]) (.agg #[.bool z0, .bool z1, .bool z2, .bool z3, .bool z4, .bool z5, .bool z6, .bool z7, .bool z8, .bool z9, .bool z10, .bool z11])).run Try.prog w = .ok (decide ([y0, y1, y2, y3, y4, y5, y6, y7, y8, y9, y10, y11] = [z0, z1, z2, z3, z4, z5, z6, z7, z8, z9, z10, z11])) w := by
  obtain ⟨r, h1, h2⟩ := run_equalIn_deep (P := Try.prog) 9998 2 66 (by kernel_rfl) w 3 3 (.agg #[.bool y0, .bool y1, .bool y2, .bool y3, .bool y4, .bool y5, .bool y6, .bool y7, .bool y8, .bool y9, .bool y10, .bool y11]) (.agg #[.bool z0, .bool z1, .bool z2, .bool z3, .bool z4, .bool z5, .bool z6, .bool z7, .bool z8, .bool z9, .bool z10, .bool z11]) ([y0, y1, y2, y3, y4, y5, y6, y7, y8, y9, y10, y11].map Lit.bool) ([z0, z1, z2, z3, z4, z5, z6, z7, z8, z9, z10, z11].map Lit.bool) (by kernel_rfl) (by kernel_rfl) (by kernel_rfl) (by kernel_rfl)
  refine h1.trans ?_
  congr 1
  have h3 : ([y0, y1, y2, y3, y4, y5, y6, y7, y8, y9, y10, y11].map Lit.bool = [z0, z1, z2, z3, z4, z5, z6, z7, z8, z9, z10, z11].map Lit.bool) ↔ ([y0, y1, y2, y3, y4, y5, y6, y7, y8, y9, y10, y11] = [z0, z1, z2, z3, z4, z5, z6, z7, z8, z9, z10, z11]) := by simp
  cases r
  · exact (decide_eq_false (fun e => by simpa using h2.2 (h3.2 e))).symm
  · exact (decide_eq_true (h3.1 (h2.1 rfl))).symm
theorem Kp.grown {b : Nat} {w w' : World} (h : w.grownBy w' (some b)) : Kp b b w w' := ⟨h.os, h.tape, h.output, h.size, fun k hk h1 _ => h.block k hk (fun e => h1 (by injection e))⟩
theorem name_post {P : Program} {fn : Func} {R : Ending → World → Prop} {x : Exit} {a : Act} {w : World} (h : ∀ w', w' = w → bodyPost P fn R x a w') : bodyPost P fn R x a w := h w rfl
theorem ret_spread {fn : Func} {a : Act} {w : World} {r t u g : Nat} {ty : TypeId} {v0 v1 v2 v3 v4 v5 v6 v7 v8 v9 v10 v11 : Bool} (hres : fn.results = #[.cell r 66, .tmp t, .tmp u]) (hp : a.tmps.getD r undef = .pointer (some ⟨g, 0, none⟩)) (hk : Blk w g ty (setA [v0, v1, v2, v3, v4, v5, v6, v7, v8, v9, v10, v11])) :
    (results fn a.tmps).run Try.prog w = .ok (.tuple #[.agg (setA [v0, v1, v2, v3, v4, v5, v6, v7, v8, v9, v10, v11]), a.tmps.getD t undef, a.tmps.getD u undef]) w := by
  obtain ⟨e0, e1, e2, e3, e4, e5, e6, e7, e8, e9, e10, e11⟩ := cells12 hk
  rw [Array.getD_eq_getD_getElem?] at hp
  simp [results, hres, hp, go_sem, setA, e0, e1, e2, e3, e4, e5, e6, e7, e8, e9, e10, e11]
set_option maxRecDepth 100000 in
set_option maxHeartbeats 6400000 in
theorem spread_any (p : Pf) (m : Ms) (w : World) (hv : VP p) (hm : Pm w p m) :
    Calls Try.prog 30 #[.agg (pfA p m)] w fun e w' => SpP p w w' e ∧ Below w.heap.size w w' := by
  have hmm := @run_makeMap Try.prog
  have HV := Lib.hid hv
  have HM := Lib.hid hm
  have n1 := hv.n1
  have n12 := hv.n12
  have nl := hv.len
  clear hv hm
  go_enter Try.func30, Try.ntmps30
  go_upto_region 3 with (fail)
  refine name_wp ?_
  intro X hX
  have gP : Blk X w.heap.size 27 (pfA p m) := by rw [hX]; exact (((Blk.new _ _ _).alloc _).alloc _).alloc _
  have gR : Blk X (w.heap.size + 1) 66 #[.bool false, .bool false, .bool false, .bool false, .bool false, .bool false, .bool false, .bool false, .bool false, .bool false, .bool false, .bool false] := by
    rw [hX]
    have := ((Blk.new (w.alloc (.cells (pfA p m) 27)) 66 #[.bool false, .bool false, .bool false, .bool false, .bool false, .bool false, .bool false, .bool false, .bool false, .bool false, .bool false, .bool false]).alloc (.cells #[.bool false, .bool false, .bool false, .bool false, .bool false, .bool false, .bool false, .bool false, .bool false, .bool false, .bool false, .bool false] 66)).alloc (.map #[] 0)
    simpa using this
  have gD : Blk X (w.heap.size + 1 + 1) 66 #[.bool false, .bool false, .bool false, .bool false, .bool false, .bool false, .bool false, .bool false, .bool false, .bool false, .bool false, .bool false] := by
    rw [hX]
    have := (Blk.new ((w.alloc (.cells (pfA p m) 27)).alloc (.cells #[.bool false, .bool false, .bool false, .bool false, .bool false, .bool false, .bool false, .bool false, .bool false, .bool false, .bool false, .bool false] 66)) 66 #[.bool false, .bool false, .bool false, .bool false, .bool false, .bool false, .bool false, .bool false, .bool false, .bool false, .bool false, .bool false]).alloc (.map #[] 0)
    simpa using this
  have gM : mapO X (w.heap.size + 1 + 1 + 1) 0 (.map []) := by
    rw [hX]
    have := World.ownsMap_made (H := Unit) (((w.alloc (.cells (pfA p m) 27)).alloc (.cells #[.bool false, .bool false, .bool false, .bool false, .bool false, .bool false, .bool false, .bool false, .bool false, .bool false, .bool false, .bool false] 66)).alloc (.cells #[.bool false, .bool false, .bool false, .bool false, .bool false, .bool false, .bool false, .bool false, .bool false, .bool false, .bool false, .bool false] 66)) Try.prog 3 (plainElem Try.prog 3)
    simpa using this
  have hbX : Below w.heap.size w X := by rw [hX]; exact below_alloc (below_alloc (below_alloc (below_alloc (Below.refl _ _) _) _) _) _
  clear hX
  obtain ⟨bR, e1⟩ : ∃ b, w.heap.size + 1 = b := ⟨_, rfl⟩
  rw [e1] at gR gD gM ⊢
  obtain ⟨bD, e2⟩ : ∃ b, bR + 1 = b := ⟨_, rfl⟩
  rw [e2] at gD gM ⊢
  obtain ⟨bM, e3⟩ : ∃ b, bD + 1 = b := ⟨_, rfl⟩
  rw [e3] at gM ⊢
  obtain ⟨bP, e0⟩ : ∃ b, w.heap.size = b := ⟨_, rfl⟩
  have NE := Lib.hid (show bP ≠ bD ∧ bP ≠ bR ∧ bP ≠ bM ∧ bR ≠ bD ∧ bR ≠ bM ∧ bD ≠ bM ∧ w.heap.size ≤ bR ∧ w.heap.size ≤ bD ∧ w.heap.size ≤ bM by omega)
  rw [e0] at gP ⊢
  have GP0 := Lib.hid gP
  have GR0 := Lib.hid gR
  have GD0 := Lib.hid gD
  have GM0 := Lib.hid gM
  have HX := Lib.hid hbX
  clear gP gR gD gM hbX e0 e1 e2 e3
  go_wp2
  go_loopw [7] (fun x wr => ∃ (K cnt : Nat) (D : DataW Unit), x = .int .i64 ((K : Int) + 1) ∧ Hid (Spr p K ∧ cnt ≤ 12 * K ∧ Blk wr bP 27 (pfA p m) ∧ Blk wr bR 66 #[.bool false, .bool false, .bool false, .bool false, .bool false, .bool false, .bool false, .bool false, .bool false, .bool false, .bool false, .bool false] ∧ Blk wr bD 66 (setA (Dk p K)) ∧ mapO wr bM cnt D ∧ MapIs p K 0 D ∧ Below w.heap.size w wr)) (fun x _ => 20 - (intOf x).toNat)
  case atStart => exact ⟨0, 0, .map [], by go_num, ⟨⟨fun j hj => by omega, fun j hj => by omega⟩, by omega, GP0.out, GR0.out, by rw [show Dk p 0 = List.replicate 12 false from rfl, set0]; exact GD0.out, GM0.out, MapIs.start p, HX.out⟩⟩
  case round =>
    obtain ⟨K, cnt, D, rfl, hrel⟩ := hrel
    have HR := Lib.hid hrel
    clear hrel
    obtain ⟨hS, hcnt, gP, gR, gD, gM, hMI, hbw⟩ := HR.out.out
    have HS := Lib.hid hS
    have GP := Lib.hid gP
    have GR := Lib.hid gR
    have GD := Lib.hid gD
    have GM := Lib.hid gM
    have HMI := Lib.hid hMI
    have HBW := Lib.hid hbw
    have hK := hS.le HV.out
    clear hS gP gR gD gM hMI hbw HR GP0 GR0 GD0 GM0 HX
    obtain ⟨z0, z1, z2, z3, z4, z5, z6, z7, z8, z9, z10, z11, hz⟩ := ex12 (Dk_len p K)
    have HZ := Lib.hid hz
    clear hz
    go_upto_region 6 with (fail)
    refine name_wp ?_
    intro V hV
    obtain ⟨bN, eN⟩ : ∃ b, wr.heap.size = b := ⟨_, rfl⟩
    have gN : Blk V bN 66 #[.bool false, .bool false, .bool false, .bool false, .bool false, .bool false, .bool false, .bool false, .bool false, .bool false, .bool false, .bool false] := by rw [hV, ← eN]; exact Blk.new _ _ _
    have hbV : Below wr.heap.size wr V := by rw [hV]; exact wa1 _ _
    have GPV := Lib.hid (GP.out.then_ hbV)
    have GRV := Lib.hid (GR.out.then_ hbV)
    have GDV := Lib.hid (GD.out.then_ hbV)
    have GMV := Lib.hid (show mapO V bM cnt D by rw [hV]; exact GM.out.alloc _)
    have GN := Lib.hid gN
    have HBV := Lib.hid (below_then HBW.out hbV)
    have NN := Lib.hid (show bP < bN ∧ bR < bN ∧ bD < bN ∧ bM < bN ∧ w.heap.size ≤ bN by rw [← eN]; exact ⟨GP.out.lt, GR.out.lt, GD.out.lt, GM.out.lt, HBW.out.size⟩)
    have lN : bN < V.heap.size := gN.lt
    rw [eN]
    obtain ⟨k0, k1, k2, k3, k4, k5⟩ := pfCells GPV.out
    have lPV := GPV.out.lt
    clear hV gN hbV eN GP GR GD GM HBW
    go_upto_region 7 with (fail)
    go_loopw [20] (fun y WQ => ∃ j : Nat, (j : Int) ≤ p.n ∧ y = .int .i64 j ∧ Hid (∀ i : Int, 0 ≤ i → i < j → (ow p (Dk p K) i).isSome = true) ∧ Blk WQ bN 66 (setA (nxP p (Dk p K) j)) ∧ Kp bN bN V WQ) (fun y _ => 100 - (intOf y).toNat)
    case atStart => exact ⟨0, by omega, rfl, fun i h0 h1 => by omega, by rw [nxP_0, set0]; exact GN.out, Kp.refl _ _ _⟩
    case round =>
      obtain ⟨j, hj, rfl, hok, hgn, hkp⟩ := hrel
      have HGN := Lib.hid hgn
      have HKP := Lib.hid hkp
      have gp := hkp.blk GPV.out (by have := NN.out; omega) (by have := NN.out; omega)
      have gd := hkp.blk GDV.out (by have := NN.out; omega) (by have := NN.out; omega)
      rw [HZ.out] at gd
      clear k0 k1 k2 k3 k4 k5
      obtain ⟨k0, k1, k2, k3, k4, k5⟩ := pfCells gp
      have lpr := gp.lt
      have ldr := gd.lt
      have lnr := hgn.lt
      obtain ⟨qz0, qz1, qz2, qz3, qz4, qz5, qz6, qz7, qz8, qz9, qz10, qz11⟩ := cells12 gd
      have HGP := Lib.hid gp
      have hbq := HBV.out.trans (hkp.below NN.out.2.2.2.2 NN.out.2.2.2.2 HBV.out.size)
      have HBQ := Lib.hid hbq
      clear hgn hkp gp gd hbq
      by_cases hlt : (j : Int) < p.n
      · obtain ⟨o, ho⟩ : ∃ o, ow p (Dk p K) j = o := ⟨_, rfl⟩
        have HO : Hid (Calls Try.prog 35 #[.agg (pfA p m), .int .i64 j, .agg #[.bool z0, .bool z1, .bool z2, .bool z3, .bool z4, .bool z5, .bool z6, .bool z7, .bool z8, .bool z9, .bool z10, .bool z11]] wr fun e w' => e = .returned (.tuple #[.agg #[.int .i64 (stN o), .int .i64 (stD o)], .int .i64 (stE o)]) ∧ Below wr.heap.size wr w') := by
          have := owed_any p m [z0, z1, z2, z3, z4, z5, z6, z7, z8, z9, z10, z11] j wr HV.out (HM.out.then_ HBQ.out) rfl
          rw [show ow p [z0, z1, z2, z3, z4, z5, z6, z7, z8, z9, z10, z11] j = o by rw [← HZ.out]; exact ho] at this
          exact this
        have HOO := Lib.hid ho
        clear ho
        cases o with
        | none =>
          simp only [stN, stD, stE] at HO
          have gr := HKP.out.blk GRV.out (by have := NN.out; omega) (by have := NN.out; omega)
          have GRQ := Lib.hid gr
          clear gr
          go_wp2_with (go_at_call 35; with_reducible refine HO.out.mono ?_; rintro e w6 ⟨rfl, hk⟩; have gr6 := GRQ.out.then_ hk; have lr6 := gr6.lt; have gf6 := free12 gr6; obtain ⟨ff0, ff1, ff2, ff3, ff4, ff5, ff6, ff7, ff8, ff9, ff10, ff11⟩ := gf6; have gc6 := cells12 (show Blk w6 bR 66 (setA (List.replicate 12 false)) by rw [set0]; exact gr6); obtain ⟨rr0, rr1, rr2, rr3, rr4, rr5, rr6, rr7, rr8, rr9, rr10, rr11⟩ := gc6)
          refine name_post ?_
          intro W hW
          have hB : Blk W bR 66 (setA [false, false, false, false, false, false, false, false, false, false, false, false]) := by rw [hW]; exact (Blk.st12 (GRQ.out.then_ hk)).alloc _
          have hL : Below w.heap.size w W := by rw [hW]; exact below_alloc (below_st12 _ _ _ _ _ _ _ _ _ _ _ _ (HBQ.out.trans (hk.mono HBQ.out.size)) NE.out.2.2.2.2.2.2.1) _
          clear hW
          refine bodyPost_ret (ret_spread rfl rfl hB) rfl ⟨?_, hL⟩
          refine .inl ⟨K, ⟨HS.out, fun h => ?_⟩, rfl⟩
          have := h j (by omega) hlt
          rw [HOO.out] at this
          cases this
        | some q =>
          simp only [stN, stD, stE] at HO
          obtain ⟨x, hx⟩ : ∃ x, p.as[j]? = some x := ⟨_, List.getElem?_eq_getElem (by omega)⟩
          obtain ⟨r, r1, r2, r3⟩ := rat_of_vld (HV.out.as x (List.mem_of_getElem? hx)).1
          have hr : asQ p j = r := by unfold asQ; rw [hx]; show Rat.divInt x.1 x.2 = r; rw [← r2, ← r3, Rat.num_divInt_den]
          have hq : inR q = true := ow_inR HOO.out
          obtain ⟨c, hc⟩ : ∃ c, cmpN q r = c := ⟨_, rfl⟩
          have HCM : Hid (∀ W, Calls Try.prog 18 #[.agg #[.int .i64 q.num, .int .i64 q.den], .agg #[.int .i64 x.1, .int .i64 x.2]] W fun e w' => e = .returned (.int .i64 c) ∧ Below W.heap.size W w') := fun W => by
            have := cmp_any q r W hq r1
            rwa [hc, r2, r3] at this
          have HCV : Hid (decide (0 < c) = ovr p (Dk p K) j) := by
            rw [Hid, ovr_some HOO.out, Int.toNat_natCast, hr, ← hc]
            unfold cmpN
            by_cases h1 : q < r
            · simp [h1, Rat.not_lt.2 (Rat.le_of_lt h1)]
            · by_cases h2 : r < q
              · simp [h1, h2]
              · simp [h1, h2]
          have hsx := HM.out.s1
          have HXA := Lib.hid hx
          clear hx r1 r2 r3 hr hq hc
          go_upto_region 12 with (go_at_call 35; with_reducible refine HO.out.mono ?_; rintro e w6 ⟨rfl, hk⟩)
          refine name_wp ?_
          intro Y hY
          have hbY : Below wr.heap.size wr Y := by rw [hY]; exact below_then hk (wa1 _ _)
          have gy : Blk Y w6.heap.size 44 #[.int .i64 q.num, .int .i64 q.den] := by rw [hY]; exact Blk.new _ _ _
          obtain ⟨y0, y1, _, _⟩ := gy.two
          have hbw2 := HBQ.out.trans (hbY.mono HBQ.out.size)
          obtain ⟨b, off, ea, hb, x0, x1⟩ := segA (hsx.below hbw2) HXA.out
          have HBY := Lib.hid hbw2
          have gpy := HGP.out.then_ hbY
          have gny := HGN.out.then_ hbY
          have HNY := Lib.hid gny
          have HKY := Lib.hid (HKP.out.trans (Kp.of hbY))
          have hbl : b < Y.heap.size := Nat.lt_of_lt_of_le hb hbw2.size
          clear hY hbY gy hbw2 hsx k0 k1 k2 k3 k4 k5 qz0 qz1 qz2 qz3 qz4 qz5 qz6 qz7 qz8 qz9 qz10 qz11
          obtain ⟨k0, k1, k2, k3, k4, k5⟩ := pfCells gpy
          have lpy := gpy.lt
          have lny := gny.lt
          rw [ea] at k1
          clear gpy gny ea hk
          have rg0 := cell_regrown y0
          have rg1 := cell_regrown y1
          have rg2 := cell_regrown k1
          have rg3 := cell_regrown x0
          have rg4 := cell_regrown x1
          refine wp_region_qt [0, 1, 2, 3, 4, 5, 6, 7, 8, 9] [10] (by kernel_rfl) (by kernel_rfl) (by repeat (first | with_reducible refine panOk_then ?_ | with_reducible refine panOk_block ?_ | exact panOk_body)) ?_
          simp only [opsAt, List.getElem?_toArray, List.getElem?_cons_succ, List.getElem?_cons_zero, Option.toList_some, List.cons_append, List.nil_append]
          repeat (go_big_quiet_step ((go_at_call 18; exact qt_call (fun W' _ => HCM.out W') _ _)))
          refine wpQuiet_nil ?_
          intro W2 hw2
          have hbW2 := qt_world hw2
          clear hw2 rg0 rg1 rg2 rg3 rg4
          have gn2 := HNY.out.then_ hbW2
          have HN2 := Lib.hid gn2
          have fn2 := gn2.frozen j
          have cn2 : W2.cell? ⟨bN, j, none⟩ = some (.bool (has (nxP p (Dk p K) j) j)) := by
            rw [gn2.cell]
            have := setA_get (nxP_len p (Dk p K) j) (i := (j : Int)) (by omega) (by omega)
            rwa [Int.toNat_natCast] at this
          have ln2 := gn2.lt
          clear gn2 y0 y1 k0 k1 k2 k3 k4 k5 x0 x1
          go_wp2
          go_roundw
          case rel =>
            refine ⟨j + 1, by omega, by go_num, fun i i0 i1 => ?_, ?_, (HKY.out.trans (Kp.of hbW2)).setX _⟩
            · by_cases hij : i = j
              · subst hij; rw [HOO.out]; rfl
              · exact hok i i0 (by omega)
            · have := HN2.out.set_ j (.bool (ovr p (Dk p K) j))
              rw [nxP_step _ hlt (by omega)] at this
              rw [HCV.out]
              exact this
          case measure => simp [intOf]; omega
      · have hjn : (j : Int) = p.n := by omega
        have HOK : Hid (okS p (Dk p K)) := fun i i0 i1 => hok i i0 (by omega)
        have hgn : Blk wr bN 66 (setA (Dk p (K + 1))) := by
          have := HGN.out
          rwa [nxP_n _ hjn] at this
        have HGN2 := Lib.hid hgn
        have gr := HKP.out.blk GRV.out (by have := NN.out; omega) (by have := NN.out; omega)
        have gd := HKP.out.blk GDV.out (by have := NN.out; omega) (by have := NN.out; omega)
        have gm : mapO wr bM cnt D := GMV.out.kept ⟨HKP.out.os, HKP.out.tape, HKP.out.output, HKP.out.size, fun k h1 h2 => HKP.out.block k h1 (fun e => h2 (by rw [e])) (fun e => h2 (by rw [e]))⟩ (by have := NN.out; intro e; injection e with e; omega)
        have GRQ := Lib.hid gr
        have GDQ := Lib.hid gd
        have GMQ := Lib.hid gm
        have HJN := Lib.hid hjn
        have hge : p.n ≤ (j : Int) := by omega
        clear hgn gd gm hok GRV GDV GMV GPV HGN hj hlt hjn
        by_cases hE : Dk p (K + 1) = Dk p K
        · have lr := gr.lt
          obtain ⟨ff0, ff1, ff2, ff3, ff4, ff5, ff6, ff7, ff8, ff9, ff10, ff11⟩ := free12 gr
          obtain ⟨rr0, rr1, rr2, rr3, rr4, rr5, rr6, rr7, rr8, rr9, rr10, rr11⟩ := cells12 (show Blk wr bR 66 (setA (List.replicate 12 false)) by rw [set0]; exact gr)
          have hn := HGN2.out
          rw [hE, HZ.out] at hn
          obtain ⟨qy0, qy1, qy2, qy3, qy4, qy5, qy6, qy7, qy8, qy9, qy10, qy11⟩ := cells12 hn
          have HEE := Lib.hid hE
          have hq := fun W => eqv12 z0 z1 z2 z3 z4 z5 z6 z7 z8 z9 z10 z11 z0 z1 z2 z3 z4 z5 z6 z7 z8 z9 z10 z11 W
          simp only [decide_true] at hq
          clear hE hn gr
          go_wp2
          refine name_post ?_
          intro W hW
          have hB : Blk W bR 66 (setA [z0, z1, z2, z3, z4, z5, z6, z7, z8, z9, z10, z11]) := by rw [hW]; exact Blk.st12 GRQ.out
          have hL : Below w.heap.size w W := by rw [hW]; exact below_st12 _ _ _ _ _ _ _ _ _ _ _ _ HBQ.out NE.out.2.2.2.2.2.2.1
          have hMM : mapO W bM cnt D := by rw [hW]; exact map_st12 _ _ _ _ _ _ _ _ _ _ _ _ GMQ.out NE.out.2.2.2.2.1.symm
          clear hW
          refine bodyPost_ret (ret_spread rfl rfl hB) rfl ⟨?_, hL⟩
          exact .inr ⟨K, bM, cnt, D, ⟨HS.out, HOK.out, HEE.out⟩, by rw [HZ.out]; rfl, hMM, HMI.out, NE.out.2.2.2.2.2.2.2.2⟩
        · obtain ⟨y0, y1, y2, y3, y4, y5, y6, y7, y8, y9, y10, y11, hy⟩ := ex12 (Dk_len p (K + 1))
          have HY := Lib.hid hy
          have hn := HGN2.out
          rw [hy] at hn
          obtain ⟨qy0, qy1, qy2, qy3, qy4, qy5, qy6, qy7, qy8, qy9, qy10, qy11⟩ := cells12 hn
          have HEE := Lib.hid hE
          have hq := fun W => eqv12 y0 y1 y2 y3 y4 y5 y6 y7 y8 y9 y10 y11 z0 z1 z2 z3 z4 z5 z6 z7 z8 z9 z10 z11 W
          rw [← HY.out, ← HZ.out, decide_eq_false hE] at hq
          clear hE hn gr hy
          go_upto_region 17 with (fail)
          have HGN3 := HGN2
          clear qy0 qy1 qy2 qy3 qy4 qy5 qy6 qy7 qy8 qy9 qy10 qy11 hq
          go_loopw [52] (fun y WQ => ∃ (i cnt2 : Nat) (D2 : DataW Unit), (i : Int) ≤ p.n ∧ y = .int .i64 i ∧ Hid (cnt2 ≤ cnt + i ∧ mapO WQ bM cnt2 D2 ∧ MapIs p K i D2 ∧ Kp bM bM wr WQ)) (fun y _ => 100 - (intOf y).toNat)
          case atStart => exact ⟨0, cnt, D, by omega, rfl, ⟨by omega, GMQ.out, HMI.out, Kp.refl _ _ _⟩⟩
          case round =>
            obtain ⟨i, cnt2, D2, hin, rfl, hrel⟩ := hrel
            obtain ⟨hc2, hm2, hi2, hk2⟩ := hrel.out
            have GM2 := Lib.hid hm2
            have HI2 := Lib.hid hi2
            have HK2 := Lib.hid hk2
            have hcl := hcnt
            have gn := hk2.blk HGN3.out (by have := NN.out; omega) (by have := NN.out; omega)
            have lgn := gn.lt
            have HOS : Hid (∀ q, q < K + 1 → okS p (Dk p q)) := fun q hq => by
              by_cases h : q = K
              · subst h; exact HOK.out
              · exact HS.out.ok q (by omega)
            by_cases hlt : (i : Int) < p.n
            · have cn := gn.cell i
              have e := setA_get (Dk_len p (K + 1)) (i := (i : Int)) (by omega) (by omega)
              rw [Int.toNat_natCast] at e
              rw [e] at cn
              have HKEY := Lib.hid (keyOf_int_mk (P := Try.prog) (k := 3) (q := .i64) (a := (i : Int)) Try.underlying3 (by simp [Lit.wf, IntKind.min, IntKind.max, IntKind.signed, IntKind.bits]; omega))
              have HWF := Lib.hid (show (Lit.int .i64 ((K : Int) + 1)).wf = true by simp [Lit.wf, IntKind.min, IntKind.max, IntKind.signed, IntKind.bits]; omega)
              clear e gn hm2 hi2 hk2 hrel
              rcases hbb (Maps.has D2 (.int .i64 i)) with hx | hx
              · have HNX := Lib.hid (HI2.out.stay HV.out HOS.out (by omega) hlt (.inl hx))
                rcases hbb (has (Dk p (K + 1)) i) with hh | hh
                · rw [hh] at cn
                  go_wp2_with (at_lookup; (refine wpList_lookup_own_ok_int _ rfl _ _ 67 rfl 3 3 .i64 keyI Try.underlying67 Try.underlying3 (zeroI _) bM cnt2 D2 rfl GM2.out _ _ rfl HKEY.out ?_); intro c hat hwc; rw [hx])
                  go_roundw
                  case rel => exact ⟨i + 1, cnt2, D2, by omega, by go_num, ⟨by omega, GM2.out, by have := HNX.out; simpa using this, HK2.out⟩⟩
                  case measure => simp [intOf]; omega
                · rw [hh] at cn
                  go_wp2_with (at_lookup; (refine wpList_lookup_own_ok_int _ rfl _ _ 67 rfl 3 3 .i64 keyI Try.underlying67 Try.underlying3 (zeroI _) bM cnt2 D2 rfl GM2.out _ _ rfl HKEY.out ?_); intro c hat hwc; rw [hx])
                  go_roundw
                  case rel => exact ⟨i + 1, cnt2, D2, by omega, by go_num, ⟨by omega, GM2.out, by have := HNX.out; simpa using this, HK2.out⟩⟩
                  case measure => simp [intOf]; omega
              · rcases hbb (has (Dk p (K + 1)) i) with hh | hh
                · have HNX := Lib.hid (HI2.out.enter HV.out HOS.out GM2.out.isMap (by omega) hlt hx hh)
                  rw [hh] at cn
                  go_wp2_with (first | (at_lookup; (refine wpList_lookup_own_ok_int _ rfl _ _ 67 rfl 3 3 .i64 keyI Try.underlying67 Try.underlying3 (zeroI _) bM cnt2 D2 rfl GM2.out _ _ rfl HKEY.out ?_); intro c hat hwc; rw [hx]) | (at_mapUpdate; (refine wpList_mapUpdate_own _ rfl _ _ _ 67 rfl 3 3 keyI Try.underlying67 _ bM cnt2 _ rfl GM2.out (by unfold maxLen; omega) _ _ _ rfl rfl HKEY.out _ [] (plainElem_int Try.underlying3 HWF.out) ?_); intro w1 hown1 hgrow1))
                  go_roundw
                  case rel => exact ⟨i + 1, cnt2 + 1, _, by omega, by go_num, ⟨by omega, hown1, by have := HNX.out; simpa using this, HK2.out.trans (Kp.grown hgrow1)⟩⟩
                  case measure => simp [intOf]; omega
                · have HNX := Lib.hid (HI2.out.stay HV.out HOS.out (by omega) hlt (.inr hh))
                  rw [hh] at cn
                  go_wp2_with (at_lookup; (refine wpList_lookup_own_ok_int _ rfl _ _ 67 rfl 3 3 .i64 keyI Try.underlying67 Try.underlying3 (zeroI _) bM cnt2 D2 rfl GM2.out _ _ rfl HKEY.out ?_); intro c hat hwc; rw [hx])
                  go_roundw
                  case rel => exact ⟨i + 1, cnt2, D2, by omega, by go_num, ⟨by omega, GM2.out, by have := HNX.out; simpa using this, HK2.out⟩⟩
                  case measure => simp [intOf]; omega
            · have hie : (i : Int) = p.n := by omega
              have HNX := Lib.hid (HI2.out.next hie)
              rw [HY.out] at gn
              obtain ⟨qy0, qy1, qy2, qy3, qy4, qy5, qy6, qy7, qy8, qy9, qy10, qy11⟩ := cells12 gn
              have gd := hk2.blk GDQ.out (by have := NE.out; omega) (by have := NE.out; omega)
              have HGD := Lib.hid gd
              have ld := gd.lt
              obtain ⟨ff0, ff1, ff2, ff3, ff4, ff5, ff6, ff7, ff8, ff9, ff10, ff11⟩ := free12 gd
              rw [HZ.out] at gd
              obtain ⟨rr0, rr1, rr2, rr3, rr4, rr5, rr6, rr7, rr8, rr9, rr10, rr11⟩ := cells12 gd
              have HSP : Hid (Spr p (K + 1)) := ⟨HOS.out, fun q hq => by
                by_cases h : q = K
                · subst h; exact HEE.out
                · exact HS.out.ne q (by omega)⟩
              have HCN := Lib.hid (show cnt2 ≤ 12 * (K + 1) by omega)
              have hige : p.n ≤ (i : Int) := by omega
              have HGP2 := Lib.hid (hk2.blk HGP.out (by have := NE.out; omega) (by have := NE.out; omega))
              have HGR2 := Lib.hid (hk2.blk GRQ.out (by have := NE.out; omega) (by have := NE.out; omega))
              have HB2 := Lib.hid (HBQ.out.trans (hk2.below NE.out.2.2.2.2.2.2.2.2 NE.out.2.2.2.2.2.2.2.2 HBQ.out.size))
              clear gn gd hm2 hi2 hk2 hrel hie
              go_wp2
              go_roundw
              case rel =>
                refine ⟨K + 1, cnt2, D2, by go_num, ⟨HSP.out, HCN.out, HGP2.out.st12_far _ _ _ _ _ _ _ _ _ _ _ _ NE.out.1, HGR2.out.st12_far _ _ _ _ _ _ _ _ _ _ _ _ NE.out.2.2.2.1, ?_, map_st12 _ _ _ _ _ _ _ _ _ _ _ _ GM2.out NE.out.2.2.2.2.2.1.symm, HNX.out, below_st12 _ _ _ _ _ _ _ _ _ _ _ _ HB2.out NE.out.2.2.2.2.2.2.2.1⟩⟩
                have hgd := HGD.out
                rw [HZ.out] at hgd
                rw [HY.out]
                exact Blk.st12 hgd
              case measure => simp [intOf]; omega
end Go.Proofs.Yteoicnhnpailiaa
