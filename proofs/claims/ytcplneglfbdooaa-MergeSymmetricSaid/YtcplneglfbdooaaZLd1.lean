/- The walk of the law's exchanged. -/
import Derived.Test.YtcplneglfbdooaaZLd0
namespace Go.Proofs.Ytcplneglfbdooaa
open Go.RowKit

set_option maxRecDepth 100000 in
set_option maxHeartbeats 6400000 in
theorem exch_any (c : Con) (m : Cm) (n a b : Nat) (w : World) (h : Cont w c m) (hl : n + a + b = c.cl.length) (hcd : ∀ k ∈ c.cl, ∀ s ∈ k.start, 0 ≤ s.1 ∧ s.1 ≤ 1000000) :
    Calls Try.prog 16 #[.agg (coA c m), .int .i64 n, .int .i64 a, .int .i64 b] w fun e w' => (∃ m', e = .returned (.agg (coA (c.wc (exchL n a b c.cl)) m')) ∧ Cont w' (c.wc (exchL n a b c.cl)) m') ∧ Below w.heap.size w w' := by
  obtain ⟨ri, hi, hz0, hz1, hz2⟩ := info_parts zero_kla
  obtain ⟨rc, hj, hy0, hy1, hy2⟩ := info_parts zero_cnd
  have HC := Lib.hid h
  have nk := h.nk
  have ck := h.ck
  have hlk : m.ks.length = c.cl.length := by have := congrArg List.length h.e; simpa using this
  have HCD := Lib.hid hcd
  clear h hcd
  obtain ⟨N, hN⟩ : ∃ N, c.cl.length = N := ⟨_, rfl⟩
  rw [hN] at nk ck hlk hl
  have HN := Lib.hid hN
  have hsl1 := fun W => take_at (t := 25) (A := m.k) (len := N) (cap := m.kc) (size := 16) (i := n) (by omega) (by kernel_rfl) (fun W => by kernel_rfl) W
  have hsl2 : ∀ W : World, (Instr.slice 25 (.slice m.k N m.kc) (some (.int .i64 ((n : Int) + a))) none none).run Try.prog W = .ok (.slice (subA m.k m.kc (n + a) 16) (N - (n + a)) (m.kc - (n + a))) W := fun W => tail_at (t := 25) (A := m.k) (len := N) (cap := m.kc) (size := 16) (l := n + a) (by omega) (by kernel_rfl) (fun W => by kernel_rfl) W
  have hsl3 : ∀ W : World, (Instr.slice 25 (.slice m.k N m.kc) (some (.int .i64 (n : Int))) (some (.int .i64 ((n : Int) + a))) none).run Try.prog W = .ok (.slice (subA m.k m.kc n 16) a (m.kc - n)) W := fun W => by
    have h := sub_at (t := 25) (A := m.k) (len := N) (cap := m.kc) (size := 16) (l := n) (h := n + a) (by omega) (by omega) (by kernel_rfl) (fun W => by kernel_rfl) W
    rw [show n + a - n = a by omega] at h
    exact h
  have hwna : IntKind.i64.wrap ((n : Int) + (a : Int)) = (n : Int) + (a : Int) := by rw [IntKind.wrap_i64]; omega
  go_enter Try.func16, Try.ntmps16
  go_upto_region 1 with (fail)
  refine name_wp ?_
  intro X hX
  have gbc : Blk X w.heap.size 27 (coA c m) := by rw [hX]; exact (blk_at (by simp)).alloc _
  have gbr : Blk X (w.heap.size + 1) 27 (coZ) := by rw [hX]; exact blk_at (by simp)
  have HB : Below w.heap.size w X := by rw [hX]; (repeat (first | with_reducible assumption | with_reducible exact Below.refl _ _ | with_reducible refine below_drewN ?_ _ | with_reducible refine Below.drew ?_ | with_reducible refine below_alloc ?_ _ | with_reducible refine Below.setCell ?_ (by first | omega | (simp; done) | (simp; omega)) _ | with_reducible refine below_then ?_ (by with_reducible assumption) | (refine below_then (a := World.drew _) ?_ (by with_reducible assumption))))
  clear hX
  obtain ⟨br, ebr⟩ : ∃ b, w.heap.size + 1 = b := ⟨_, rfl⟩
  obtain ⟨bc, ebc⟩ : ∃ b, w.heap.size = b := ⟨_, rfl⟩
  have lbc : w.heap.size ≤ bc := by omega
  have lbr : w.heap.size ≤ br := by omega
  have nbcbr : bc ≠ br := by omega
  rw [ebr] at gbr ⊢
  rw [ebc] at gbc ⊢
  clear ebc ebr
  have g0 : Blk X bc 27 (coK c m m.k N m.kc) := by rw [← hN]; exact gbc
  have HB0 := HB
  have lX := HB0.size
  clear gbc HB hN
  go_upto_region 2 with (first | (refine wpList_row_w (by rfl) 27 _ rfl bc rfl 27 _ g0 ⟨_, Try.underlying27⟩ (by kernel_rfl) ?_; simp only [Act.put, List.setIfInBounds_toArray, List.set_cons_succ, List.set_cons_zero]) | (refine wpList_store_all rfl 27 _ _ rfl X.heap.size 27 [] coZ.toList [] (coK c m m.k N m.kc).toList rfl rfl (Blk.new _ _ _) rfl (by kernel_rfl) (by simp [Value.oneCell']) ?_; intro w1 go1 U1))
  have hs1 : Below X.heap.size X w1 := (wa1 _ _).trans (U1.b _ (Nat.le_refl _))
  have gc1 := g0.then_ hs1
  have gr1 := gbr.then_ hs1
  replace go1 : Blk w1 X.heap.size 27 (coK c m m.k N m.kc) := go1
  have HB1 := below_then HB0 hs1
  have lbo : br < X.heap.size := gbr.lt
  have lbc2 : bc < X.heap.size := g0.lt
  obtain ⟨bo, ebo⟩ : ∃ b, X.heap.size = b := ⟨_, rfl⟩
  rw [ebo] at go1 lbo lbc2 lX ⊢
  clear g0 gbr HB0 hs1 U1 ebo
  have hSeg1 : Hid (Seg w1 w1.heap.size 16 eK m.k m.ks) := (HC.out.then_ HB1).k
  have q4 : (w1.alloc (.cells #[] 47)).cell? ⟨bc, 4, none⟩ = some (.slice m.k N m.kc) := (gc1.alloc _).cell 4
  have l1 := HB1.size
  have lb1 := go1.lt
  have hO0 : Own (w1.alloc (.cells #[] 47)) w.heap.size 47 16 eK (.slice (some ⟨w1.heap.size, 0, none⟩) 0 0) [] := own_new0 rfl l1
  go_upto_region 3 with (first | (at_builtin; go_loud (refine wpList_app_seg _ rfl (.tmp 15) (.tmp 19) _ rfl w.heap.size 47 ri _ 16 136 Try.underlying25 hi hz0 hz1 hz2 rfl (by omega) (by omega) eK eK_len one_kla _ [] rfl hO0 m.k (m.ks.take n) m.kc n rfl (by rw [List.length_take]; omega) (by rw [List.length_take]; simp only [List.length_nil]; omega) w1.heap.size ((seg_take hSeg1.out n).below (wa1 _ _)) (by simp; omega) ?_); intro v2 w2 hO2 hb2 hg2; rw [List.nil_append] at hO2; obtain ⟨A2, k2, ev2, hk2, hs2⟩ := hO2.seg eK_len; rw [show (m.ks.take n).length = n from by rw [List.length_take]; omega] at ev2 hk2; subst ev2; have go2 := (go1.alloc _).grownO hO0 (by decide) hg2; have c2 := go2.cell 4; have f2 := go2.frozen 4))
  refine name_wp ?_
  intro Y hY
  have goY : Blk Y bo 27 (coK c m A2 (n) k2) := by rw [hY]; exact (go2).set_ 4 (.slice A2 (n) k2)
  have gcY : Blk Y bc 27 (coK c m m.k N m.kc) := by rw [hY]; exact ((gc1.alloc _).grownO hO0 (by decide) hg2).far (show bc ≠ bo by omega) _
  have grY : Blk Y br 27 coZ := by rw [hY]; exact ((gr1.alloc _).grownO hO0 (by decide) hg2).far (show br ≠ bo by omega) _
  have hOY : Own Y w.heap.size 47 16 eK (.slice A2 (n) k2) (m.ks.take n) := by rw [hY]; exact (hO2).setOther (p := ⟨bo, 4, none⟩) (go2) (by decide) (.slice A2 (n) k2)
  have HBY : Below w.heap.size w Y := by rw [hY]; exact ((HB1.alloc l1 _).trans hb2).setCell (p := ⟨bo, 4, none⟩) (by omega) _
  clear hY
  clear gc1 gr1 HB1 hSeg1 q4 hO0 hO2 hb2 hg2 go2 c2 f2 hs2 go1 lb1 l1 hsl1 hk2
  have q4 := gcY.cell 4
  have qo := goY.cell 4
  simp only [List.getElem?_toArray, List.getElem?_cons_succ, List.getElem?_cons_zero] at q4 qo
  have q4 : Y.cell? ⟨bc, 4, none⟩ = some (.slice m.k N m.kc) := gcY.cell 4
  have qo : Y.cell? ⟨bo, 4, none⟩ = some (.slice A2 (n) k2) := goY.cell 4
  have rg0 := cell_regrown q4
  have rg1 := cell_regrown qo
  refine wp_region_qt [0, 1, 2, 3, 4, 5, 6, 7] [8, 9, 10] (by kernel_rfl) (by kernel_rfl) (by repeat (first | with_reducible refine panOk_then ?_ | with_reducible refine panOk_block ?_ | exact panOk_body)) ?_
  simp only [opsAt, List.getElem?_toArray, List.getElem?_cons_succ, List.getElem?_cons_zero, Option.toList_some, List.cons_append, List.nil_append]
  repeat (go_big_quiet_step (fail))
  refine wpQuiet_nil ?_
  intro X3 hw2
  have hbX3 := qt_world hw2
  clear hw2 rg0 rg1
  have gcx := gcY.then_ hbX3
  have grx := grY.then_ hbX3
  have gox := goY.then_ hbX3
  have hOx := hOY.below hbX3
  have HBx := HBY.trans (hbX3.mono HBY.size)
  have lBx := HBx.size
  have hSx : Seg X3 X3.heap.size 16 eK (subA m.k m.kc (n + a) 16) (m.ks.drop (n + a)) := by have := sub_seg (cap := m.kc) (l := n + a) (h := N - (n + a)) ((HC.out.then_ HBx).k) (by omega); rwa [List.take_of_length_le (by rw [List.length_drop]; omega)] at this
  clear q4 qo gcY grY goY hOY HBY hbX3
  go_upto_region 4 with (at_builtin; go_loud (refine wpList_app_seg _ rfl (.tmp 23) (.tmp 29) _ rfl w.heap.size 47 ri _ 16 136 Try.underlying25 hi hz0 hz1 hz2 rfl (by omega) (by omega) eK eK_len one_kla _ (m.ks.take n) rfl hOx (subA m.k m.kc (n + a) 16) (m.ks.drop (n + a)) (m.kc - (n + a)) (N - (n + a)) rfl (by simp; omega) (by simp; omega) _ hSx lBx ?_); intro v4 w4 hO4 hb4 hg4; obtain ⟨A4_3, k4_3, ev4, hk4, hs4⟩ := hO4.seg eK_len; rw [show (m.ks.take n ++ m.ks.drop (n + a)).length = N - a from by simp; omega] at ev4 hk4; subst ev4; have hK_3 := hk4; have go4 := gox.grownO hOx (by decide) hg4; have c4 := go4.cell 4; have f4 := go4.frozen 4)
  refine name_wp ?_
  intro Z hZ
  have goZ : Blk Z bo 27 (coK c m A4_3 (N - a) k4_3) := by rw [hZ]; exact (go4).set_ 4 (.slice A4_3 (N - a) k4_3)
  have gcZ : Blk Z bc 27 (coK c m m.k N m.kc) := by rw [hZ]; exact (gcx.grownO hOx (by decide) hg4).far (show bc ≠ bo by omega) _
  have grZ : Blk Z br 27 coZ := by rw [hZ]; exact (grx.grownO hOx (by decide) hg4).far (show br ≠ bo by omega) _
  have hOZ : Own Z w.heap.size 47 16 eK (.slice A4_3 (N - a) k4_3) (m.ks.take n ++ m.ks.drop (n + a)) := by rw [hZ]; exact (hO4).setOther (p := ⟨bo, 4, none⟩) (go4) (by decide) (.slice A4_3 (N - a) k4_3)
  have HBZ : Below w.heap.size w Z := by rw [hZ]; exact (HBx.trans hb4).setCell (p := ⟨bo, 4, none⟩) (by omega) _
  clear hZ
  clear gcx grx gox hOx HBx lBx hSx hO4 hb4 hg4 go4 c4 f4 hk4 hs4
  have q4 := gcZ.cell 4
  have qo := goZ.cell 4
  simp only [List.getElem?_toArray, List.getElem?_cons_succ, List.getElem?_cons_zero] at q4 qo
  have q4 : Z.cell? ⟨bc, 4, none⟩ = some (.slice m.k N m.kc) := gcZ.cell 4
  have qo : Z.cell? ⟨bo, 4, none⟩ = some (.slice A4_3 (N - a) k4_3) := goZ.cell 4
  have rg0 := cell_regrown q4
  have rg1 := cell_regrown qo
  refine wp_region_qt [0, 1, 2, 3, 4, 5, 6, 7, 8] [9, 10, 11] (by kernel_rfl) (by kernel_rfl) (by repeat (first | with_reducible refine panOk_then ?_ | with_reducible refine panOk_block ?_ | exact panOk_body)) ?_
  simp only [opsAt, List.getElem?_toArray, List.getElem?_cons_succ, List.getElem?_cons_zero, Option.toList_some, List.cons_append, List.nil_append]
  repeat (go_big_quiet_step (fail))
  refine wpQuiet_nil ?_
  intro X4 hw2
  have hbX4 := qt_world hw2
  clear hw2 rg0 rg1
  have gcx := gcZ.then_ hbX4
  have grx := grZ.then_ hbX4
  have gox := goZ.then_ hbX4
  have hOx := hOZ.below hbX4
  have HBx := HBZ.trans (hbX4.mono HBZ.size)
  have lBx := HBx.size
  have hSx : Seg X4 X4.heap.size 16 eK (subA m.k m.kc n 16) ((m.ks.drop n).take a) := by have := sub_seg (cap := m.kc) (l := n) (h := a) ((HC.out.then_ HBx).k) (by omega); exact this
  clear q4 qo gcZ grZ goZ hOZ HBZ hbX4
  go_upto_region 5 with (at_builtin; go_loud (refine wpList_app_seg _ rfl (.tmp 33) (.tmp 40) _ rfl w.heap.size 47 ri _ 16 136 Try.underlying25 hi hz0 hz1 hz2 rfl (by omega) (by omega) eK eK_len one_kla _ (m.ks.take n ++ m.ks.drop (n + a)) rfl hOx (subA m.k m.kc n 16) ((m.ks.drop n).take a) (m.kc - n) (a) rfl (by simp; omega) (by simp; omega) _ hSx lBx ?_); intro v4 w4 hO4 hb4 hg4; obtain ⟨A4_4, k4_4, ev4, hk4, hs4⟩ := hO4.seg eK_len; rw [show (m.ks.take n ++ m.ks.drop (n + a) ++ (m.ks.drop n).take a).length = N from by simp; omega] at ev4 hk4; subst ev4; have hK_4 := hk4; have go4 := gox.grownO hOx (by decide) hg4; have c4 := go4.cell 4; have f4 := go4.frozen 4)
  refine name_wp ?_
  intro V hV
  have goV : Blk V bo 27 (coK c m A4_4 (N) k4_4) := by rw [hV]; exact (go4).set_ 4 (.slice A4_4 (N) k4_4)
  have gcV : Blk V bc 27 (coK c m m.k N m.kc) := by rw [hV]; exact (gcx.grownO hOx (by decide) hg4).far (show bc ≠ bo by omega) _
  have grV : Blk V br 27 coZ := by rw [hV]; exact (grx.grownO hOx (by decide) hg4).far (show br ≠ bo by omega) _
  have hOV : Own V w.heap.size 47 16 eK (.slice A4_4 (N) k4_4) (exO n a m.ks) := by rw [hV]; exact (hO4).setOther (p := ⟨bo, 4, none⟩) (go4) (by decide) (.slice A4_4 (N) k4_4)
  have HBV : Below w.heap.size w V := by rw [hV]; exact (HBx.trans hb4).setCell (p := ⟨bo, 4, none⟩) (by omega) _
  clear hV
  clear gcx grx gox hOx HBx lBx hSx hO4 hb4 hg4 go4 c4 f4 hk4 hs4
  obtain ⟨A, eA⟩ : ∃ A, A4_4 = A := ⟨_, rfl⟩
  obtain ⟨K, eK_⟩ : ∃ K, k4_4 = K := ⟨_, rfl⟩
  skip
  have GO := Lib.hid goV
  have GR := Lib.hid grV
  have HO := Lib.hid hOV
  have HBV' := Lib.hid HBV
  have hEL : Hid ((exO n a m.ks).length = N) := by unfold Hid; rw [exO_len (b := b) (by omega), hlk]
  have hKI : ∀ x ∈ exO n a m.ks, KOk V x := fun x hx => (HC.out.t x (exO_mem hx)).then_ HBV
  have HKI := Lib.hid hKI
  have hNK := hK_4
  clear hK_3 hK_4
  have hNE : ∀ x ∈ exO n a m.ks, ∀ p : Addr, 0 < x.k.start.length → x.A = some p → A4_4 ≠ some ⟨p.block, 0, none⟩ ∧ p.block ≠ br := fun x hx p h0 hp => by
    have h1 : p.block < w.heap.size := HC.out.off.t x (exO_mem hx) h0 p hp
    exact ⟨fun e => by have h2 : w.heap.size ≤ p.block := own_ge hOV ⟨p.block, 0, none⟩ e; omega, by omega⟩
  have HNE := Lib.hid hNE
  have lV := HBV.size
  have HSV : Hid (w.heap.size ≤ V.heap.size) := lV
  clear goV grV gcV hOV HBV eA eK_ hKI hNE lV hsl2 hsl3 hi hz0 hz1 hz2
  go_upto_region 6 with (fail)
  go_loopw [10] (fun v WR => ∃ (i : Nat) (ks' : List Km), i ≤ N ∧ v = .int .i64 i ∧ Hid (ks'.length = N) ∧ Hid (Own WR w.heap.size 47 16 eK (.slice A4_4 N k4_4) ks') ∧ Hid (∀ j x, ks'[j]? = some x → ∃ y, (exO n a m.ks)[j]? = some y ∧ x.k = if j < i then y.k.mapC (exI n a b) else y.k) ∧ Hid (∀ x ∈ ks', KOk WR x) ∧ Hid (∀ x ∈ ks', ∀ p : Addr, 0 < x.k.start.length → x.A = some p → A4_4 ≠ some ⟨p.block, 0, none⟩ ∧ p.block ≠ br) ∧ Hid (Blk WR bo 27 (coK c m A4_4 N k4_4)) ∧ Hid (Blk WR br 27 coZ) ∧ Hid (Below w.heap.size w WR) ∧ Hid (w.heap.size ≤ WR.heap.size)) (fun v _ => 2000000 - (intOf v).toNat)
  case atStart => exact ⟨0, exO n a m.ks, by omega, rfl, hEL, HO, (fun j x hx => ⟨x, hx, by rw [if_neg (by omega)]⟩), HKI, HNE, GO, GR, HBV', HSV⟩
  case round =>
    clear GO GR HO HBV' HKI HNE HSV
    obtain ⟨i, ks', hi', rfl, hl', hO, hF, hT, hA, hG, hGr, hB, hS⟩ := hrel
    have q4 : wr.cell? ⟨bo, 4, none⟩ = some (.slice A4_4 N k4_4) := hG.out.cell 4
    by_cases hlt : i < N
    · have tn : decide ((i : Int) < (N : Int)) = true := decide_eq_true (by omega)
      have tnn : decide (i < N) = true := decide_eq_true hlt
      obtain ⟨g, hg⟩ := own_some hO.out (by omega)
      obtain ⟨x, hx⟩ : ∃ x, ks'[i]? = some x := ⟨_, List.getElem?_eq_getElem (by rw [hl'.out]; exact hlt)⟩
      obtain ⟨y, hy, hxk⟩ := hF.out i x hx
      rw [if_neg (by omega)] at hxk
      have hcx : ∀ s ∈ x.k.start, 0 ≤ s.1 ∧ s.1 ≤ 1000000 := by rw [hxk]; exact HCD.out y.k (by rw [← HC.out.e]; exact List.mem_map_of_mem (exO_mem (List.mem_of_getElem? hy)))
      have HCX := Lib.hid hcx
      have HXK : Hid (x.k = y.k) := hxk
      have HY := Lib.hid hy
      have hOg : Own wr w.heap.size 47 16 eK (.slice (some ⟨g, 0, none⟩) N k4_4) ks' := by rw [← hg]; exact hO.out
      have HG := Lib.hid hg
      have lg := hOg.lt_
      have KX : Hid (KOk wr x) := hT.out x (List.mem_of_getElem? hx)
      have nS := KX.out.n
      have hix : ∀ W : World, (Instr.indexAt 25 (.slice A4_4 N k4_4) (.int .i64 (i : Nat))).run Try.prog W = .ok (.pointer (some ⟨g, i * 16, none⟩)) W := fun W => by have h := idx_at (t := 25) (size := 16) (cap := k4_4) (len := N) (k := i) (A := A4_4) hg hlt (by kernel_rfl) (fun W => by kernel_rfl) W; rwa [Nat.zero_add] at h
      obtain ⟨z1, z2⟩ := hOg.getAt eK_len hl'.out hx (j := 4) (by omega)
      have q1 : wr.cell? ⟨g, i * 16 + 4, none⟩ = some (.slice x.A x.k.start.length x.cap) := z1
      have Q1 := Lib.hid q1
      have Q2 : Hid (wr.frozen? ⟨g, i * 16 + 4, none⟩ = false) := z2
      have HX := Lib.hid hx
      have hwi := wrap_small (n := i) (by omega)
      have HOG := Lib.hid hOg
      obtain ⟨S, eS'⟩ : ∃ S, x.k.start.length = S := ⟨_, rfl⟩
      rw [eS'] at q1 nS
      have HS' := Lib.hid eS'
      clear hcx hxk hy hx hg z1 z2 hOg eS'
      go_upto_region 10 with (fail)
      clear q4 q1
      obtain ⟨wo, rfl⟩ : ∃ wo : World, wo = wr := ⟨_, rfl⟩
      go_loopw [11, 12] (fun v y WQ => ∃ (k : Nat) (V : Value), k ≤ S ∧ V = v ∧ y = .int .i64 k ∧ Hid (Own WQ wo.heap.size 77 2 eS V ((x.k.start.take k).map (exS n a b))) ∧ Hid (Below wo.heap.size wo WQ)) (fun _ y _ => 2000000 - (intOf y).toNat)
      case atStart => exact ⟨0, _, by omega, rfl, rfl, Own.nil _ _ _ _ _, Below.refl _ _⟩
      case round =>
        skip
        obtain ⟨k, v_l, hk', rfl, rfl, hOl, hBq⟩ := hrel
        have q4 : wr.cell? ⟨bo, 4, none⟩ = some (.slice A4_4 N k4_4) := (hG.out.then_ hBq.out).cell 4
        have q1 : wr.cell? ⟨g, i * 16 + 4, none⟩ = some (.slice x.A S x.cap) := by rw [← HS'.out]; exact (hBq.out.cell (p := ⟨g, _, none⟩) lg.2).trans Q1.out
        by_cases hkt : k < S
        · have tk : decide ((k : Int) < (S : Int)) = true := decide_eq_true (by omega)
          have tkn : decide (k < S) = true := decide_eq_true hkt
          obtain ⟨s, hs⟩ : ∃ s, x.k.start[k]? = some s := ⟨_, List.getElem?_eq_getElem (by rw [HS'.out]; exact hkt)⟩
          have hsb := HCX.out s (List.mem_of_getElem? hs)
          obtain ⟨bs, os, eAs, hbs, hcs⟩ := segAt ((KX.out.then_ hBq.out).s) hs
          have hrg : wr.rangeAt bs (os + k * 2) (eS s) := fun j v hv => hcs j v hv
          have hix2 := fun W => idx_at (t := 43) (size := 2) (cap := x.cap) (len := S) (k := k) eAs hkt (by kernel_rfl) (fun W => by kernel_rfl) W
          have HSS := Lib.hid hs
          have hwk := wrap_small (n := k) (by omega)
          have hnb : ∀ q, v_l.ownBlock = some q → q ≠ wr.heap.size := fun q hq => by have := (World.ownsRow.lt hOl.out q hq).2; omega
          have HNB := Lib.hid hnb
          have lq := hBq.out.size
          clear hs hcs eAs hnb
          go_upto_region 13 with (refine wpList_elem 77 elS _ _ _ rfl rfl rfl rfl rfl rfl rfl rfl rfl bs _ rfl (eS s) rfl hrg (by simp [Value.oneCell', eS]) (by decide) (by simp) (by simp) ?_; simp only [Act.put, List.setIfInBounds_toArray, List.set_cons_succ, List.set_cons_zero])
          refine name_wp ?_
          intro Z0 hZ
          have gZ0 : Blk Z0 wr.heap.size 77 (eS s).toArray := by rw [hZ]; exact Blk.new _ _ _
          have hOZ0 : Own Z0 wo.heap.size 77 2 eS v_l ((x.k.start.take k).map (exS n a b)) := by rw [hZ]; exact hOl.out.alloc _
          have hBZ0 : Below wo.heap.size wo Z0 := by rw [hZ]; exact hBq.out.alloc lq _
          clear hZ q1 q4 hix hix2 hrg tk tkn
          obtain ⟨bx, ebx⟩ : ∃ q, wr.heap.size = q := ⟨_, rfl⟩
          rw [ebx] at gZ0 HNB lq ⊢
          clear ebx hOl hBq
          have z0 : Z0.cell? ⟨bx, 0, none⟩ = some (.int .i64 s.1) := gZ0.cell 0
          have zf : Z0.frozen? ⟨bx, 0, none⟩ = false := gZ0.frozen 0
          go_upto_if 75 with (fail)
          go_cut [] from 75 to 75 (fun W => Blk W bx 77 #[.int .i64 (exS n a b s).1, .int .i64 (exS n a b s).2] ∧ Own W wo.heap.size 77 2 eS v_l ((x.k.start.take k).map (exS n a b)) ∧ Below wo.heap.size wo W)
          case first =>
            by_cases h1 : (n : Int) + (a : Int) ≤ s.1
            · have u1 : decide ((n : Int) + (a : Int) ≤ s.1) = true := decide_eq_true h1
              have hws : IntKind.i64.wrap (s.1 - (a : Int)) = s.1 - (a : Int) := by rw [IntKind.wrap_i64]; omega
              have HV : Hid (exS n a b s = (s.1 - a, s.2)) := by unfold Hid exS exI; rw [if_pos h1]
              go_wp2
              go_meet
              case rel => exact ⟨by rw [HV.out]; exact gZ0.set_ 0 _, hOZ0.setNe (p := ⟨bx, 0, none⟩) HNB.out _, hBZ0.setCell (p := ⟨bx, 0, none⟩) (by omega) _⟩
            · by_cases h2 : (n : Int) ≤ s.1
              · have u1 : decide ((n : Int) + (a : Int) ≤ s.1) = false := decide_eq_false h1
                have u2 : decide ((n : Int) ≤ s.1) = true := decide_eq_true h2
                have hws : IntKind.i64.wrap (s.1 + (b : Int)) = s.1 + (b : Int) := by rw [IntKind.wrap_i64]; omega
                have HV : Hid (exS n a b s = (s.1 + b, s.2)) := by unfold Hid exS exI; rw [if_neg h1, if_pos h2]
                have h1' : s.1 < (n : Int) + (a : Int) := by omega
                go_wp2
                go_meet
                case rel => exact ⟨by rw [HV.out]; exact gZ0.set_ 0 _, hOZ0.setNe (p := ⟨bx, 0, none⟩) HNB.out _, hBZ0.setCell (p := ⟨bx, 0, none⟩) (by omega) _⟩
              · have u1 : decide ((n : Int) + (a : Int) ≤ s.1) = false := decide_eq_false h1
                have u2 : decide ((n : Int) ≤ s.1) = false := decide_eq_false h2
                have HV : Hid (exS n a b s = (s.1, s.2)) := by unfold Hid exS exI; rw [if_neg h1, if_neg h2]
                have h1' : s.1 < (n : Int) + (a : Int) := by omega
                have h2' : s.1 < (n : Int) := by omega
                go_wp2
                go_meet
                case rel => exact ⟨by rw [HV.out]; exact gZ0, hOZ0, hBZ0⟩
          obtain ⟨gZ, hOZ, hBZ⟩ := hcut
          obtain ⟨Z, rfl⟩ : ∃ W, W = wc := ⟨_, rfl⟩
          clear z0 zf gZ0 hOZ0 hBZ0 HNB
          have lz := gZ.lt
          have lz2 := hBZ.size
          go_wp2_with (first | (refine wpList_row_w (by rfl) 77 _ rfl bx rfl 77 _ gZ ⟨_, Try.underlying77⟩ (by kernel_rfl) ?_; simp only [Act.put, List.setIfInBounds_toArray, List.set_cons_succ, List.set_cons_zero]) | (at_builtin; go_loud (refine wpList_app _ rfl (.tmp 90) (.tmp 92) _ rfl wo.heap.size 77 rc _ 2 16 Try.underlying43 hj hy0 hy1 hy2 rfl (by omega) (by omega) eS eS_len one_cnd _ ((x.k.start.take k).map (exS n a b)) rfl (hOZ.alloc _) (by rw [List.length_map, List.length_take]; omega) Z.heap.size 1 (exS n a b s) rfl (Blk.new _ _ _) (by simp; omega) ?_); intro v4 w4 hO4 hb4 hg4))
          refine ⟨⟨k + 1, _, by omega, rfl, by simp, by unfold Hid; rw [take_snocA (l := x.k.start) (i := k) (p := s) HSS.out, List.map_append]; exact hO4, (hBZ.alloc lz2 _).trans hb4⟩, by simp [intOf]; omega⟩
        · have tk : decide ((k : Int) < (S : Int)) = false := decide_eq_false (by omega)
          have tkn : decide (k < S) = false := decide_eq_false hkt
          obtain rfl : k = S := by omega
          obtain ⟨A', c', rfl, hc', hs'⟩ := hOl.out.seg eS_len
          have hln : ((x.k.start.take k).map (exS n a b)).length = k := by rw [List.length_map, List.length_take, HS'.out]; omega
          rw [hln] at hc'
          have q2 : wr.frozen? ⟨g, i * 16 + 4, none⟩ = false := (hBq.out.frozen (p := ⟨g, _, none⟩) lg.2).trans Q2.out
          have htk : x.k.start.take k = x.k.start := List.take_of_length_le (by rw [HS'.out]; exact Nat.le_refl _)
          rw [hln]
          have HOl : Hid (Own wr wo.heap.size 77 2 eS (.slice A' k c') (x.k.start.map (exS n a b))) := by have := hOl.out; rw [hln, htk] at this; exact this
          clear hOl hs' hln htk
          go_upto_region 7 with (fail)
          refine name_wp ?_
          intro W5 hW5
          have U : Upd wr W5 g := by rw [hW5]; exact (Upd.refl _ _).setCell _ _
          have HW5 := Lib.hid hW5
          clear hW5 q1 q2 q4 hix
          have lwq := hBq.out.size
          have lS := hS.out
          have hA'g : ∀ p : Addr, A' = some p → wo.heap.size ≤ p.block := fun p hp => own_ge HOl.out p hp
          have HA' := Lib.hid hA'g
          clear hA'g
          go_wp2
          go_roundw
          case rel =>
            have hnew : Own W5 w.heap.size 47 16 eK (.slice (some ⟨g, 0, none⟩) N k4_4) (ks'.set i ⟨x.k.mapC (exI n a b), A', c'⟩) := by rw [HW5.out]; exact (HOG.out.below hBq.out).setAt eK_len hl'.out HX.out (j := 4) (y := ⟨x.k.mapC (exI n a b), A', c'⟩) (u := .slice A' k c') (by omega) (by rw [mapC_eq]; simp only [eK, List.length_map, HS'.out]; rfl)
            refine ⟨i + 1, ks'.set i ⟨x.k.mapC (exI n a b), A', c'⟩, by omega, by simp, by unfold Hid; rw [List.length_set]; exact hl'.out, ?_, ?_, ?_, ?_, ?_, ?_, ?_, ?_⟩
            · unfold Hid; rw [HG.out]; exact hnew
            · intro j z hz
              by_cases hji : j = i
              · subst hji
                rw [List.getElem?_set_self (by rw [hl'.out]; omega)] at hz
                cases hz
                exact ⟨y, HY.out, by rw [if_pos (by omega), HXK.out]⟩
              · rw [List.getElem?_set_ne (fun e => hji e.symm)] at hz
                obtain ⟨y', h1, h2⟩ := hF.out j z hz
                refine ⟨y', h1, ?_⟩
                rw [h2]
                by_cases hj2 : j < i
                · rw [if_pos hj2, if_pos (by omega)]
                · rw [if_neg hj2, if_neg (by omega)]
            · intro z hz
              rcases List.mem_or_eq_of_mem_set hz with hz | rfl
              · have h := (hT.out z hz).then_ hBq.out
                have hp : SegP (· ≠ g) z.A z.k.start := fun h0 p hp e => (hA.out z hz p h0 hp).1 (by rw [HG.out, e])
                exact ⟨by rw [U.s]; exact h.s.upd2 U hp, h.v, h.n, h.c⟩
              · refine ⟨by rw [U.s]; exact (HOl.out.segA eS_len).upd2 U (fun _ p hp e => by have := HA'.out p hp; omega), KX.out.v, ?_, ?_⟩
                · rw [mapC_eq]; simp only [List.length_map, HS'.out]; omega
                · rw [mapC_eq]; simp only [List.length_map, HS'.out]; exact hc'
            · intro z hz p h0 hp
              rcases List.mem_or_eq_of_mem_set hz with hz | rfl
              · exact hA.out z hz p h0 hp
              · have h3 := HA'.out p hp; have h4 := hGr.out.lt; exact ⟨fun e => by rw [HG.out] at e; injection e with e; injection e with e; omega, by omega⟩
            · exact (hG.out.then_ hBq.out).upd U (fun e => by subst e; exact own_blk_ne (HOG.out.below hBq.out) (hG.out.then_ hBq.out) (by decide))
            · exact (hGr.out.then_ hBq.out).upd U (fun e => by subst e; exact own_blk_ne (HOG.out.below hBq.out) (hGr.out.then_ hBq.out) (by decide))
            · exact (below_then hB.out hBq.out).trans (U.b _ lg.1)
            · unfold Hid; rw [U.s]; omega
          case measure => simp [intOf]; omega
    · have tn : decide ((i : Int) < (N : Int)) = false := decide_eq_false (by omega)
      have tnn : decide (i < N) = false := decide_eq_false hlt
      obtain rfl : i = N := by omega
      have GO := hG.out
      have GR := hGr.out
      go_wp2_with (first | (refine wpList_row_w (by rfl) 27 _ rfl bo rfl 27 _ GO ⟨_, Try.underlying27⟩ (by kernel_rfl) ?_; simp only [Act.put, List.setIfInBounds_toArray, List.set_cons_succ, List.set_cons_zero]) | (refine wpList_store_all rfl 27 _ _ rfl br 27 [] coZ.toList [] (coK c m A4_4 i k4_4).toList rfl rfl GR rfl (by kernel_rfl) (by simp [Value.oneCell']) ?_; intro we ge ue))
      have hEe : (exchL n a b c.cl).length = i := by rw [exchL_eq, List.length_map, exO_len (b := b) (by rw [HN.out]; omega), HN.out]
      have hKs : ks'.map (·.k) = exchL n a b c.cl := by
        apply List.ext_getElem?
        intro j
        rw [exchL_eq, List.getElem?_map, List.getElem?_map]
        cases hz : ks'[j]? with
        | none =>
          have h1 : (exO n a c.cl)[j]? = none := List.getElem?_eq_none (by have := List.getElem?_eq_none_iff.1 hz; rw [hl'.out] at this; rw [exO_len (b := b) (by rw [HN.out]; omega), HN.out]; exact this)
          rw [h1]; rfl
        | some z =>
          obtain ⟨y, h1, h2⟩ := hF.out j z hz
          have h3 := (List.getElem?_eq_some_iff.1 hz).1
          rw [hl'.out] at h3
          rw [if_pos h3] at h2
          have h4 : (exO n a c.cl)[j]? = some y.k := by rw [← HC.out.e, ← exO_map, List.getElem?_map, h1]; rfl
          rw [h4]; simp [h2]
      have hCF := HC.out.then_ hB.out
      have hOF : Off (· ≠ br) c m := HC.out.off.mono fun q hq e => by omega
      refine bodyPost_ret (ret_row rfl rfl ge ⟨_, Try.underlying27⟩ (by kernel_rfl)) rfl ?_
      have hne : ∀ p : Addr, A4_4 = some p → p.block ≠ br := fun p hp e => by
        have h1 := own_blk_neA hO.out (hGr.out) (by decide) p hp
        exact h1 e
      refine ⟨⟨⟨m.h, m.hc, m.u, m.uc, m.a, m.ac, A4_4, k4_4, m.o, m.oc, ks'⟩, ?_, ?_⟩, hB.out.trans (ue.b _ lbr)⟩
      · show Ending.returned (.agg (coK c m A4_4 i k4_4)) = Ending.returned (.agg #[.int .i64 c.par, .slice m.h c.hold.length m.hc, .slice m.u c.un.length m.uc, .slice m.a c.ac.length m.ac, .slice A4_4 (exchL n a b c.cl).length k4_4, .int .i64 c.days, .slice m.o c.off.length m.oc])
        rw [hEe]
      · refine ⟨by rw [ue.s]; exact hCF.h.upd2 ue hOF.h, by rw [ue.s]; exact hCF.u.upd2 ue hOF.u, by rw [ue.s]; exact hCF.a.upd2 ue hOF.a, by rw [ue.s]; exact (hO.out.segA eK_len).upd2 ue (fun _ p hp => hne p hp), by rw [ue.s]; exact hCF.o.upd2 ue hOF.o, hKs, ?_, hCF.bu, hCF.ba, hCF.nh, hCF.nu, hCF.na, by show (exchL n a b c.cl).length ≤ _; rw [hEe]; exact nk, hCF.no, hCF.ch, hCF.cu, hCF.ca, ?_, hCF.co⟩
        · intro z hz
          have h := hT.out z hz
          have hp : SegP (· ≠ br) z.A z.k.start := fun h0 p hp e => (hA.out z hz p h0 hp).2 e
          exact ⟨by rw [ue.s]; exact h.s.upd2 ue hp, h.v, h.n, h.c⟩
        · show (exchL n a b c.cl).length ≤ k4_4; rw [hEe]; exact hNK
end Go.Proofs.Ytcplneglfbdooaa
