/- The walk of TypingBeginning. -/
import Derived.Test.YtcfjehohemdanaaDoorTe1
import Derived.Test.YtcfjehohemdanaaDoorTa4
namespace Go.Proofs.YtcfjehohemdanaaDoor
open Go.RowKit Go.Sort

section
variable {P : Program} {ops : Array Oper} {Q : Exit → Act → World → Prop} {a : Act} {w : World} {rest : List Oper} {o : Oper}
/-- a guarded load of a part of a block -/
theorem wpList_mid_w (hw : Region.wanted o (yielded ops a.tmps) = true) (ty : TypeId) (x : Operand) (ho : o.op = .load ty x) (b i : Nat) (hx : a.eval x = .pointer (some ⟨b, i, none⟩)) (cs : List Value) (d : TypeDesc) (hc : w.rangeAt b i cs)
    (hu : P.underlying ty = some d) (hd : d.isRow = true) (hi : (P.info? ty).map (·.size) = some cs.length)
    (h : wpList P ops Q rest (a.put o.dst (.agg cs.toArray)) w) : wpList P ops Q (o :: rest) a w :=
  wpList_wanted hw fun _ hK => wp_load_mid ty x ho b i hx cs d hc hu hd hi (hK _ _ h)
end
theorem Blk.range {w : World} {g : Nat} {t : TypeId} {cs : Array Value} (h : Blk w g t cs) (o : Nat) (vs : List Value) (hv : ∀ j v, vs[j]? = some v → cs[o + j]? = some v) : w.rangeAt g o vs := fun j v hj => (h.cell (o + j)).trans (hv j v hj)
theorem faults_eq (A B : Option Addr) (c d : Nat) (a : List (Int × Int)) (w : World) (ha : a.length ≤ 1000000) (hA : Seg w w.heap.size 2 encF A a) (hB : Seg w w.heap.size 2 encF B a) :
    Calls Tryd.prog 13 #[.slice A a.length c, .slice B a.length d] w fun e w' => e = .returned (.bool true) ∧ Below w.heap.size w w' :=
  (faults_any A B c d a a w ha ha hA hB).mono fun _ _ ⟨h1, h2⟩ => ⟨h1.trans (by simp), h2⟩
set_option maxRecDepth 100000 in
set_option maxHeartbeats 6400000 in
theorem beginning_any (s : Sy) (m : Sm) (y mo dd days : Int) (w : World) (h : Beg w s m) : Calls Tryd.prog 8 #[.agg (syA s m), .agg #[.int .i64 y, .int .i64 mo, .int .i64 dd], .int .i64 days] w fun e w' => e = .returned (.bool true) ∧ Below w.heap.size w w' := by
  have H := Lib.hid h
  have HH := Lib.hid (fun W (hb : Below w.heap.size w W) => head_any W (h.nr.below hb) (h.tb.below hb))
  have HS := Lib.hid (fun W (hb : Below w.heap.size w W) => small_any s m W (h.sm.then_ hb))
  have HN := Lib.hid (fun y mo dd W (hb : Below w.heap.size w W) => nNumber_any y mo dd W (h.tb.below hb))
  clear h
  obtain ⟨b, hb⟩ : ∃ b, small s = b := ⟨_, rfl⟩
  rw [hb] at HS
  go_enter Tryd.func8, Tryd.ntmps8
  go_upto_region 1 with (fail)
  refine name_wp ?_
  intro X hX
  have gX : Blk X w.heap.size 34 (syA s m) := by rw [hX]; exact (Blk.new _ _ _).alloc _
  have gC : Blk X (w.heap.size + 1) 23 #[.int .i64 y, .int .i64 mo, .int .i64 dd] := by rw [hX]; exact blk_new1 _ _ _ _
  have hbX : Below w.heap.size w X := by rw [hX]; exact below_alloc (wa1 _ _) _
  have lX := gX.lt
  obtain ⟨b1, e1⟩ : ∃ b, w.heap.size = b := ⟨_, rfl⟩
  obtain ⟨b2, e2⟩ : ∃ b, w.heap.size + 1 = b := ⟨_, rfl⟩
  rw [e2] at gC ⊢
  rw [e1] at gX ⊢
  have HBX := Lib.hid hbX
  have E := Lib.hid (show b1 ≠ b2 ∧ w.heap.size ≤ b1 ∧ w.heap.size ≤ b2 by omega)
  clear hX hbX e1 e2
  have hz := Below.refl X.heap.size X
  cases b with
  | false =>
    clear hb
    go_wp2_with (first | (refine wpList_row_w (by rfl) 34 _ rfl b1 rfl 34 (syA s m) (by (repeat (first | with_reducible assumption | with_reducible exact Blk.new _ _ _ | with_reducible refine Blk.drew ?_ | with_reducible refine Blk.alloc ?_ _ | with_reducible refine Blk.drewN ?_ _ | with_reducible apply Blk.setT0 | with_reducible apply Blk.setT1 | with_reducible refine Blk.far ?_ (by first | (simp; done) | omega | (simp; omega)) _ | with_reducible refine Blk.then_ ?_ (by with_reducible assumption)))) ⟨_, Tryd.underlying34⟩ (by kernel_rfl) ?_; simp only [Act.put, List.setIfInBounds_toArray, List.set_cons_succ, List.set_cons_zero]) | (go_at_call 9; (with_reducible refine (HH.out _ HBX.out).mono ?_); rintro e w1 ⟨rfl, hb1⟩) | (go_at_call 10; (with_reducible refine (HS.out _ (below_then HBX.out hb1)).mono ?_); rintro e w2 ⟨rfl, hb2⟩))
    go_ret
    exact ⟨rfl, below_then (below_then HBX.out hb1) hb2⟩
  | true =>
    have HSB := Lib.hid (H.out.sm.smb hb)
    clear hb
    have HCK := Lib.hid (fun W (hb : Below w.heap.size w W) => check_any s m W (H.out.nr.below hb) (H.out.tb.below hb) (HSB.out.then_ hb))
    obtain ⟨L, hL⟩ : ∃ L, chk s = L := ⟨_, rfl⟩
    rw [hL] at HCK
    cases L with
    | cons f L =>
      have hl : decide (0 < ((f :: L).length : Int)) = true := decide_eq_true (by simp)
      go_wp2_with (first | (refine wpList_row_w (by rfl) 34 _ rfl b1 rfl 34 (syA s m) (by (repeat (first | with_reducible assumption | with_reducible exact Blk.new _ _ _ | with_reducible refine Blk.drew ?_ | with_reducible refine Blk.alloc ?_ _ | with_reducible refine Blk.drewN ?_ _ | with_reducible apply Blk.setT0 | with_reducible apply Blk.setT1 | with_reducible refine Blk.far ?_ (by first | (simp; done) | omega | (simp; omega)) _ | with_reducible refine Blk.then_ ?_ (by with_reducible assumption)))) ⟨_, Tryd.underlying34⟩ (by kernel_rfl) ?_; simp only [Act.put, List.setIfInBounds_toArray, List.set_cons_succ, List.set_cons_zero]) | (go_at_call 9; (with_reducible refine (HH.out _ HBX.out).mono ?_); rintro e w1 ⟨rfl, hb1⟩) | (go_at_call 10; (with_reducible refine (HS.out _ (below_then HBX.out hb1)).mono ?_); rintro e w2 ⟨rfl, hb2⟩) | (go_at_call 11; (with_reducible refine (HCK.out _ (below_then (below_then HBX.out hb1) hb2)).mono ?_); rintro e w4 ⟨v4, rfl, hb4, hO4⟩; obtain ⟨A4, c4, rfl, _, _⟩ := hO4.seg encF_len))
      go_ret
      exact ⟨rfl, below_then (below_then (below_then HBX.out hb1) hb2) hb4⟩
    | nil =>
      obtain ⟨f1, ⟨f2, f2'⟩, f3, f4, f5, f6, _⟩ := beg_facts hL
      have HO := Lib.hid (chk_beg hL y mo dd days)
      clear hL
      go_upto_region 4 with (first | (refine wpList_row_w (by rfl) 34 _ rfl b1 rfl 34 (syA s m) (by (repeat (first | with_reducible assumption | with_reducible exact Blk.new _ _ _ | with_reducible refine Blk.drew ?_ | with_reducible refine Blk.alloc ?_ _ | with_reducible refine Blk.drewN ?_ _ | with_reducible apply Blk.setT0 | with_reducible apply Blk.setT1 | with_reducible refine Blk.far ?_ (by first | (simp; done) | omega | (simp; omega)) _ | with_reducible refine Blk.then_ ?_ (by with_reducible assumption)))) ⟨_, Tryd.underlying34⟩ (by kernel_rfl) ?_; simp only [Act.put, List.setIfInBounds_toArray, List.set_cons_succ, List.set_cons_zero]) | (go_at_call 9; (with_reducible refine (HH.out _ HBX.out).mono ?_); rintro e w1 ⟨rfl, hb1⟩) | (go_at_call 10; (with_reducible refine (HS.out _ (below_then HBX.out hb1)).mono ?_); rintro e w2 ⟨rfl, hb2⟩) | (go_at_call 11; (with_reducible refine (HCK.out _ (below_then (below_then HBX.out hb1) hb2)).mono ?_); rintro e w4 ⟨v4, rfl, hb4, hO4⟩; obtain ⟨A4, c4, rfl, _, _⟩ := hO4.seg encF_len))
      refine name_wp ?_
      intro Y hY
      subst hY
      have gY := ((gX.then_ hb1).then_ hb2).then_ hb4
      have gD := ((gC.then_ hb1).then_ hb2).then_ hb4
      have hbY := below_then (below_then (below_then HBX.out hb1) hb2) hb4
      clear hb1 hb2 hb4 hO4 gX gC lX hz HBX HS HH HCK
      have hn : nuN s.y s.mo s.dd = num s.y s.mo s.dd ∧ nuE s.y s.mo s.dd = 0 := by simp [nuN, nuE, f1]
      have HNS := Lib.hid (HN.out s.y s.mo s.dd)
      simp only [hn.1, hn.2] at HNS
      have hnb := num_bd f1
      obtain ⟨N, hN⟩ : ∃ N, num s.y s.mo s.dd = N := ⟨_, rfl⟩
      rw [hN] at HNS f3 hnb
      clear hn hN f1
      have GY := Lib.hid gY
      have GD := Lib.hid gD
      have HBY := Lib.hid hbY
      clear gY gD hbY
      have hr : Y.rangeAt b1 1 [.int .i64 s.y, .int .i64 s.mo, .int .i64 s.dd] := GY.out.range 1 _ (by intro j v hj; match j, hj with | 0, hj => cases hj; rfl | 1, hj => cases hj; rfl | 2, hj => cases hj; rfl)
      have lY := GY.out.lt
      go_upto_region 5 with (first | (refine wpList_load_mid rfl 23 _ rfl b1 1 rfl _ _ hr Tryd.underlying23 rfl (by kernel_rfl) ?_; simp only [Act.put, List.setIfInBounds_toArray, List.set_cons_succ, List.set_cons_zero]) | (go_at_call 15; (with_reducible refine (HNS.out _ HBY.out).mono ?_); rintro e w5 ⟨rfl, hb5⟩))
      refine name_wp ?_
      intro Z hZ
      subst hZ
      have gZ := GY.out.then_ hb5
      have gE := GD.out.then_ hb5
      have HBZ := Lib.hid (below_then HBY.out hb5)
      have GZ := Lib.hid gZ
      have GE := Lib.hid gE
      clear hb5 hr lY GY GD HBY gZ gE HNS
      have lZ := GZ.out.lt
      have lC := GE.out.lt
      have c4 : Z.cell? ⟨b1, 4, none⟩ = some (.int .i64 s.days) := GZ.out.cell 4
      have c13 : Z.cell? ⟨b1, 13, none⟩ = some (.slice m.p s.par.length m.pc) := GZ.out.cell 13
      have c14 : Z.cell? ⟨b1, 14, none⟩ = some (.slice m.r s.ro.length m.rc) := GZ.out.cell 14
      have hr : Z.rangeAt b1 5 [.bool s.wk.1, .bool s.wk.2.1, .bool s.wk.2.2.1, .bool s.wk.2.2.2.1, .bool s.wk.2.2.2.2.1, .bool s.wk.2.2.2.2.2.1, .bool s.wk.2.2.2.2.2.2, .slice m.h s.hol.length m.hc] := GZ.out.range 5 _ (by intro j v hj; match j, hj with | 0, hj => cases hj; rfl | 1, hj => cases hj; rfl | 2, hj => cases hj; rfl | 3, hj => cases hj; rfl | 4, hj => cases hj; rfl | 5, hj => cases hj; rfl | 6, hj => cases hj; rfl | 7, hj => cases hj; rfl)
      have hsy := (HSB.out.then_ HBZ.out)
      have HCV := Lib.hid (calv_any s.wk.1 s.wk.2.1 s.wk.2.2.1 s.wk.2.2.2.1 s.wk.2.2.2.2.1 s.wk.2.2.2.2.2.1 s.wk.2.2.2.2.2.2 m.h s.hol m.hc Z (by have := hsy.lh; omega) hsy.y.h)
      rw [show vldC ⟨[s.wk.1, s.wk.2.1, s.wk.2.2.1, s.wk.2.2.2.1, s.wk.2.2.2.2.1, s.wk.2.2.2.2.2.1, s.wk.2.2.2.2.2.2], s.hol⟩ = true from f6] at HCV
      clear hsy f6
      have d1 : decide (s.days < 1) = false := decide_eq_false (by omega)
      have d2 : decide (2000 < s.days) = false := decide_eq_false (by omega)
      have d3 : decide (73048 < N + s.days) = false := decide_eq_false (by omega)
      have d4 : ((s.par.length : Int) == 0) = false := by simpa using f4
      have d5 : ((s.ro.length : Int) == 0) = false := by simpa using f5
      go_upto_region 7 with (first | (refine wpList_mid_w (by rfl) 27 _ rfl b1 5 rfl _ _ hr Tryd.underlying27 rfl (by kernel_rfl) ?_; simp only [Act.put, List.setIfInBounds_toArray, List.set_cons_succ, List.set_cons_zero]) | (go_at_call 16; (with_reducible refine HCV.out.mono ?_); rintro e w6 ⟨rfl, hb6⟩))
      have GF := Lib.hid (GZ.out.then_ hb6)
      have GG := Lib.hid (GE.out.then_ hb6)
      have HB6 := Lib.hid (below_then HBZ.out hb6)
      clear hb6 hr HCV lZ lC c4 c13 c14 GZ GE HBZ d1 d2 d3 d4 d5 f2 f2' f3 f4 f5 hnb
      go_upto_region 8 with (first | (refine wpList_row_w (by rfl) 34 _ rfl b1 rfl 34 (syA s m) GF.out ⟨_, Tryd.underlying34⟩ (by kernel_rfl) ?_; simp only [Act.put, List.setIfInBounds_toArray, List.set_cons_succ, List.set_cons_zero]) | (refine wpList_new 34 el18 _ _ rfl rfl rfl rfl rfl rfl _ rfl (by simp [Value.oneCell']) (by simp) rfl ?_; simp only [Act.put, List.setIfInBounds_toArray, List.set_cons_succ, List.set_cons_zero]))
      refine name_wp ?_
      intro Y hY
      have gO : Blk Y w6.heap.size 34 (syA s m) := by rw [hY]; exact Blk.new _ _ _
      have gC : Blk Y b2 23 #[.int .i64 y, .int .i64 mo, .int .i64 dd] := by rw [hY]; exact GG.out.alloc _
      have hbY : Below w.heap.size w Y := by rw [hY]; exact below_alloc HB6.out _
      obtain ⟨b3, e3⟩ : ∃ b, w6.heap.size = b := ⟨_, rfl⟩
      have hb3 : w.heap.size ≤ b3 := by rw [← e3]; exact HB6.out.size
      rw [e3] at gO ⊢
      clear hY GF GG HB6 e3
      have GO := Lib.hid gO
      have HBY := Lib.hid hbY
      have lO := gO.lt
      go_upto_region 9 with (first | (refine wpList_row_w (by rfl) 23 _ rfl b2 rfl 23 _ gC ⟨_, Tryd.underlying23⟩ (by kernel_rfl) ?_; simp only [Act.put, List.setIfInBounds_toArray, List.set_cons_succ, List.set_cons_zero]) | (refine wpList_store_blk rfl 23 _ _ rfl rfl b3 34 [.string s.nm] [.int .i64 s.y, .int .i64 s.mo, .int .i64 s.dd] ((syA s m).toList.drop 4) [.int .i64 y, .int .i64 mo, .int .i64 dd] rfl rfl GO.out rfl (by kernel_rfl) (by simp [Value.oneCell']) ?_))
      refine name_wp ?_
      intro Z hZ
      have gP : Blk Z b3 34 (syA (s.beg y mo dd s.days) m) := by
        rw [hZ]
        exact setCells_blk (g := b3) (t := 34) [.int .i64 y, .int .i64 mo, .int .i64 dd] [.string s.nm] [.int .i64 s.y, .int .i64 s.mo, .int .i64 s.dd] ((syA s m).toList.drop 4) Y rfl GO.out
      have gC' : Blk Z b2 23 #[.int .i64 y, .int .i64 mo, .int .i64 dd] := by rw [hZ]; exact setCells_far (gC.ne_ty gO (by decide)) _ _ _ gC
      have hbZ : Below w.heap.size w Z := by rw [hZ]; exact setCells_below hb3 _ _ _ hbY
      clear hZ gO GO HBY lO gC hbY
      have lP := gP.lt
      have c4 : Z.cell? ⟨b3, 4, none⟩ = some (.int .i64 s.days) := gP.cell 4
      have f4 : Z.frozen? ⟨b3, 4, none⟩ = false := gP.frozen 4
      have GC := Lib.hid gC'
      have GP := Lib.hid gP
      have HBZ := Lib.hid hbZ
      clear gP gC' hbZ
      go_upto_region 10 with (fail)
      refine name_wp ?_
      intro U hU
      have gU : Blk U b3 34 (syA (s.beg y mo dd days) m) := by rw [hU]; exact GP.out.set_ 4 _
      have gC' : Blk U b2 23 #[.int .i64 y, .int .i64 mo, .int .i64 dd] := by rw [hU]; exact GC.out.far (p := ⟨b3, 4, none⟩) (GC.out.ne_ty GP.out (by decide)) _
      have hbU : Below w.heap.size w U := by rw [hU]; exact HBZ.out.setCell (p := ⟨b3, 4, none⟩) hb3 _
      clear hU c4 f4 lP GC GP HBZ
      have HNS := Lib.hid (HN.out y mo dd U hbU)
      go_upto_region 11 with (first | (refine wpList_row_w (by rfl) 23 _ rfl b2 rfl 23 _ gC' ⟨_, Tryd.underlying23⟩ (by kernel_rfl) ?_; simp only [Act.put, List.setIfInBounds_toArray, List.set_cons_succ, List.set_cons_zero]) | (go_at_call 15; (with_reducible refine HNS.out.mono ?_); rintro e w7 ⟨rfl, hb7⟩))
      have GU := Lib.hid (gU.then_ hb7)
      have HB7 := Lib.hid (below_then hbU hb7)
      clear gU gC' hbU hb7 HNS HN
      have HK := Lib.hid (check_any (s.beg y mo dd days) m w7 (H.out.nr.below HB7.out) (H.out.tb.below HB7.out) (by
        have h := HSB.out.then_ HB7.out
        exact ⟨⟨h.y.h, h.y.p, h.y.r, h.y.u, h.y.a, h.y.c, h.y.e, h.y.t⟩, h.cu, h.lp, h.lr, h.lu, h.la, h.lc, h.lh, h.lx, h.bu, h.ba, h.bc⟩))
      rw [HO.out] at HK
      clear HO
      cases hok : okC y mo dd with
      | false =>
        have hg : gdB y mo dd days = false := by simp [gdB, hok]
        rw [show nuN y mo dd = 0 by simp [nuN, hok], show nuE y mo dd = 1 by simp [nuE, hok]]
        clear hok
        rw [if_neg (by simp [hg])] at HK
        clear hg
        go_wp2_with (first | (refine wpList_row_w (by rfl) 34 _ rfl b3 rfl 34 (syA (s.beg y mo dd days) m) GU.out ⟨_, Tryd.underlying34⟩ (by kernel_rfl) ?_; simp only [Act.put, List.setIfInBounds_toArray, List.set_cons_succ, List.set_cons_zero]) | (go_at_call 11; (with_reducible refine HK.out.mono ?_); rintro e1 w8 ⟨v8, rfl, hb8, hO8⟩; obtain ⟨A8, c8, rfl, _, hS8⟩ := hO8.seg encF_len; have HS8 := Lib.hid hS8; have HB8 := Lib.hid hb8; clear hO8 hS8 hb8) | (go_at_call 13; refine (faults_eq A8 _ c8 _ [(2, -1)] _ (by simp) ((HS8.out.below (wa1 _ _)).more (wa1 _ _).size) (seg_of encF_len (Blk.new _ _ _) rfl)).mono ?_; rintro e2 w9 ⟨rfl, hb9⟩))
        go_ret
        exact ⟨rfl, below_then (below_alloc (below_then HB7.out HB8.out) _) hb9⟩
      | true =>
        rw [show nuN y mo dd = num y mo dd by simp [nuN, hok], show nuE y mo dd = 0 by simp [nuE, hok]]
        have hnb := num_bd hok
        have HG : Hid (gdB y mo dd days = (inn days 1 2000 && !decide (73048 < num y mo dd + days))) := by unfold Hid gdB; rw [hok]; rfl
        obtain ⟨N2, hN⟩ : ∃ N2, num y mo dd = N2 := ⟨_, rfl⟩
        rw [hN] at HG hnb ⊢
        clear hok hN
        by_cases h1 : 1 ≤ days
        · have d1 : decide (1 ≤ days) = true := decide_eq_true h1
          by_cases h2 : days ≤ 2000
          · have d2 : decide (days ≤ 2000) = true := decide_eq_true h2
            have hi : inn days 1 2000 = true := by unfold inn; rw [d1, d2]; rfl
            by_cases h3 : N2 + days ≤ 73048
            · have d3 : decide (N2 + days ≤ 73048) = true := decide_eq_true h3
              have hg : gdB y mo dd days = true := by rw [HG.out, hi, decide_eq_false (by omega)]; rfl
              clear HG hi
              rw [if_pos hg] at HK
              clear hg
              go_wp2_with (first | (refine wpList_row_w (by rfl) 34 _ rfl b3 rfl 34 (syA (s.beg y mo dd days) m) GU.out ⟨_, Tryd.underlying34⟩ (by kernel_rfl) ?_; simp only [Act.put, List.setIfInBounds_toArray, List.set_cons_succ, List.set_cons_zero]) | (go_at_call 11; (with_reducible refine HK.out.mono ?_); rintro e1 w8 ⟨v8, rfl, hb8, hO8⟩; obtain ⟨A8, c8, rfl, _, hS8⟩ := hO8.seg encF_len; have HS8 := Lib.hid hS8; have HB8 := Lib.hid hb8; clear hO8 hS8 hb8) | (go_at_call 13; refine (faults_eq A8 _ c8 _ [(2, -1)] _ (by simp) ((HS8.out.below (wa1 _ _)).more (wa1 _ _).size) (seg_of encF_len (Blk.new _ _ _) rfl)).mono ?_; rintro e2 w9 ⟨rfl, hb9⟩))
              go_ret
              exact ⟨rfl, below_then HB7.out HB8.out⟩
            · have d3 : decide (N2 + days ≤ 73048) = false := decide_eq_false h3
              have hg : gdB y mo dd days = false := by rw [HG.out, hi, decide_eq_true (by omega)]; rfl
              clear HG hi h3
              rw [if_neg (by simp [hg])] at HK
              clear hg
              go_wp2_with (first | (refine wpList_row_w (by rfl) 34 _ rfl b3 rfl 34 (syA (s.beg y mo dd days) m) GU.out ⟨_, Tryd.underlying34⟩ (by kernel_rfl) ?_; simp only [Act.put, List.setIfInBounds_toArray, List.set_cons_succ, List.set_cons_zero]) | (go_at_call 11; (with_reducible refine HK.out.mono ?_); rintro e1 w8 ⟨v8, rfl, hb8, hO8⟩; obtain ⟨A8, c8, rfl, _, hS8⟩ := hO8.seg encF_len; have HS8 := Lib.hid hS8; have HB8 := Lib.hid hb8; clear hO8 hS8 hb8) | (go_at_call 13; refine (faults_eq A8 _ c8 _ [(2, -1)] _ (by simp) ((HS8.out.below (wa1 _ _)).more (wa1 _ _).size) (seg_of encF_len (Blk.new _ _ _) rfl)).mono ?_; rintro e2 w9 ⟨rfl, hb9⟩))
              go_ret
              exact ⟨rfl, below_then (below_alloc (below_then HB7.out HB8.out) _) hb9⟩
          · have d2 : decide (days ≤ 2000) = false := decide_eq_false h2
            have hg : gdB y mo dd days = false := by rw [HG.out]; unfold inn; rw [d2, Bool.and_false, Bool.false_and]
            clear HG h2
            rw [if_neg (by simp [hg])] at HK
            clear hg
            go_wp2_with (first | (refine wpList_row_w (by rfl) 34 _ rfl b3 rfl 34 (syA (s.beg y mo dd days) m) GU.out ⟨_, Tryd.underlying34⟩ (by kernel_rfl) ?_; simp only [Act.put, List.setIfInBounds_toArray, List.set_cons_succ, List.set_cons_zero]) | (go_at_call 11; (with_reducible refine HK.out.mono ?_); rintro e1 w8 ⟨v8, rfl, hb8, hO8⟩; obtain ⟨A8, c8, rfl, _, hS8⟩ := hO8.seg encF_len; have HS8 := Lib.hid hS8; have HB8 := Lib.hid hb8; clear hO8 hS8 hb8) | (go_at_call 13; refine (faults_eq A8 _ c8 _ [(2, -1)] _ (by simp) ((HS8.out.below (wa1 _ _)).more (wa1 _ _).size) (seg_of encF_len (Blk.new _ _ _) rfl)).mono ?_; rintro e2 w9 ⟨rfl, hb9⟩))
            go_ret
            exact ⟨rfl, below_then (below_alloc (below_then HB7.out HB8.out) _) hb9⟩
        · have d1 : decide (1 ≤ days) = false := decide_eq_false h1
          have hg : gdB y mo dd days = false := by rw [HG.out]; unfold inn; rw [d1, Bool.false_and, Bool.false_and]
          clear HG h1
          rw [if_neg (by simp [hg])] at HK
          clear hg
          go_wp2_with (first | (refine wpList_row_w (by rfl) 34 _ rfl b3 rfl 34 (syA (s.beg y mo dd days) m) GU.out ⟨_, Tryd.underlying34⟩ (by kernel_rfl) ?_; simp only [Act.put, List.setIfInBounds_toArray, List.set_cons_succ, List.set_cons_zero]) | (go_at_call 11; (with_reducible refine HK.out.mono ?_); rintro e1 w8 ⟨v8, rfl, hb8, hO8⟩; obtain ⟨A8, c8, rfl, _, hS8⟩ := hO8.seg encF_len; have HS8 := Lib.hid hS8; have HB8 := Lib.hid hb8; clear hO8 hS8 hb8) | (go_at_call 13; refine (faults_eq A8 _ c8 _ [(2, -1)] _ (by simp) ((HS8.out.below (wa1 _ _)).more (wa1 _ _).size) (seg_of encF_len (Blk.new _ _ _) rfl)).mono ?_; rintro e2 w9 ⟨rfl, hb9⟩))
          go_ret
          exact ⟨rfl, below_then (below_alloc (below_then HB7.out HB8.out) _) hb9⟩
end Go.Proofs.YtcfjehohemdanaaDoor
