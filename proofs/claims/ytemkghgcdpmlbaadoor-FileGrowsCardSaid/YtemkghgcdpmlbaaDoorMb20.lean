/- Contracts of functions and plain laws, joined: Fc2. -/
import Derived.Test.YtemkghgcdpmlbaaDoorMb14
/- The walk of file.Order. -/
namespace Go.Proofs.YtemkghgcdpmlbaaDoor
open Go.RowKit Go.Sort

set_option maxRecDepth 100000 in
set_option maxHeartbeats 6400000 in
theorem order_any (c : Con) (m : Cm) (f : Fil) (k : Fm) (x : Int × Int) (w : World) (h : Cont w c m) (hk : Filt w f k) :
    Calls Tryd.prog 12 #[.agg (coA c m), .agg (flA f k), .agg (bA x)] w fun e w' => RetF w (f.ordF c x) (f.ordE c x) e w' := by
  obtain ⟨E, eE⟩ : ∃ E, f.ordE c x = E := ⟨_, rfl⟩
  obtain ⟨F, eF'⟩ : ∃ F, f.ordF c x = F := ⟨_, rfl⟩
  rw [eE, eF']
  have HV := Lib.hid (fun W (hb : Below w.heap.size w W) => fvalid_any c m f k W (h.then_ hb) (hk.then_ hb))
  have HK := Lib.hid hk
  have nf := hk.nf
  have no := hk.no
  have cf_ := hk.cf
  have co_ := hk.co
  have mf_ := hk.mf
  have mo_ := hk.mo
  obtain ⟨V, eV⟩ : ∃ b, f.ok c = b := ⟨_, rfl⟩
  rw [eV] at HV
  have HEE := Lib.hid eE
  have HEF := Lib.hid eF'
  obtain ⟨V2, eV2⟩ : ∃ b, (!(x.1 == x.2)) = b := ⟨_, rfl⟩
  have HV1 := Lib.hid eV
  have HV2 := Lib.hid eV2
  have zer : ∀ e : Int, e ≠ 0 → E = e → E = e ∧ F = Fil.zero := fun e h1 h2 => ⟨h2, by rw [← eF']; unfold Fil.ordF; rw [if_neg (by rw [eE, h2]; exact h1)]⟩
  have ZER := Lib.hid zer
  clear zer h hk eE eF' eV eV2
  go_enter Tryd.func12, Tryd.ntmps12
  go_upto_region 1 with (fail)
  refine name_wp ?_
  intro X hX
  have gba : Blk X w.heap.size 27 (coA c m) := by rw [hX]; exact (((blk_at (by simp)).alloc _).alloc _).alloc _
  have gbf : Blk X (w.heap.size + 1) 31 (flA f k) := by rw [hX]; exact ((blk_at (by simp)).alloc _).alloc _
  have gbx : Blk X (w.heap.size + 2) 35 (bA x) := by rw [hX]; exact (blk_at (by simp)).alloc _
  have gbr : Blk X (w.heap.size + 3) 31 (zF) := by rw [hX]; exact blk_at (by simp)
  have HB : Below w.heap.size w X := by rw [hX]; (repeat (first | with_reducible assumption | with_reducible exact Below.refl _ _ | with_reducible refine below_drewN ?_ _ | with_reducible refine Below.drew ?_ | with_reducible refine below_alloc ?_ _ | with_reducible refine Below.setCell ?_ (by first | omega | (simp; done) | (simp; omega)) _ | with_reducible refine below_then ?_ (by with_reducible assumption) | (refine below_then (a := World.drew _) ?_ (by with_reducible assumption))))
  clear hX
  obtain ⟨br, ebr⟩ : ∃ b, w.heap.size + 3 = b := ⟨_, rfl⟩
  obtain ⟨bx, ebx⟩ : ∃ b, w.heap.size + 2 = b := ⟨_, rfl⟩
  obtain ⟨bf, ebf⟩ : ∃ b, w.heap.size + 1 = b := ⟨_, rfl⟩
  obtain ⟨ba, eba⟩ : ∃ b, w.heap.size = b := ⟨_, rfl⟩
  have lba : w.heap.size ≤ ba := by omega
  have lbf : w.heap.size ≤ bf := by omega
  have lbx : w.heap.size ≤ bx := by omega
  have lbr : w.heap.size ≤ br := by omega
  have nbabf : ba ≠ bf := by omega
  have nbabx : ba ≠ bx := by omega
  have nbabr : ba ≠ br := by omega
  have nbfbx : bf ≠ bx := by omega
  have nbfbr : bf ≠ br := by omega
  have nbxbr : bx ≠ br := by omega
  rw [ebr] at gbr ⊢
  rw [ebx] at gbx ⊢
  rw [ebf] at gbf ⊢
  rw [eba] at gba ⊢
  clear eba ebf ebx ebr
  have HBX := Lib.hid HB
  clear HB
  have x0 : X.cell? ⟨bx, 0, none⟩ = some (.int .i64 x.1) := (gbx).cell 0
  have x1 : X.cell? ⟨bx, 1, none⟩ = some (.int .i64 x.2) := (gbx).cell 1
  cases V with
  | false =>
    have hz : Hid (E = 1 ∧ F = Fil.zero) := ZER.out _ (by decide) (by rw [← HEE.out]; unfold Fil.ordE; rw [HV1.out]; rfl)
    clear ZER HEE HEF
    go_upto_region 2 with (first | (refine wpList_row_w (by rfl) 27 _ rfl ba rfl 27 _ gba ⟨_, Tryd.underlying27⟩ (by kernel_rfl) ?_; simp only [Act.put, List.setIfInBounds_toArray, List.set_cons_succ, List.set_cons_zero]) | (refine wpList_row_w (by rfl) 31 _ rfl bf rfl 31 _ gbf ⟨_, Tryd.underlying31⟩ (by kernel_rfl) ?_; simp only [Act.put, List.setIfInBounds_toArray, List.set_cons_succ, List.set_cons_zero]) | (go_at_call 13; (with_reducible refine (HV.out _ HBX.out).mono ?_); rintro e w1 ⟨rfl, hb1⟩; have gr1 := gbr.then_ hb1))
    go_wp2_with ((refine wpList_store_all rfl 31 _ _ rfl br 31 [] zF.toList [] zF.toList rfl rfl gr1 rfl (by kernel_rfl) (by simp [Value.oneCell']) ?_; intro we ge ue))
    refine bodyPost_ret (ret_row2 rfl rfl ge ⟨_, Tryd.underlying31⟩ (by kernel_rfl)) rfl ?_
    exact by rw [(hz.out).1, (hz.out).2]; exact RetF.zero ((HBX.out.trans (hb1.mono HBX.out.size)).trans (ue.b _ lbr))
  | true =>
  cases teq : (x.1 == x.2) with
  | true =>
    have hz : Hid (E = 1 ∧ F = Fil.zero) := ZER.out _ (by decide) (by rw [← HEE.out]; unfold Fil.ordE; rw [HV1.out]; simp only [Bool.true_and]; rw [teq]; rfl)
    clear ZER HEE HEF
    go_upto_region 2 with (first | (refine wpList_row_w (by rfl) 27 _ rfl ba rfl 27 _ gba ⟨_, Tryd.underlying27⟩ (by kernel_rfl) ?_; simp only [Act.put, List.setIfInBounds_toArray, List.set_cons_succ, List.set_cons_zero]) | (refine wpList_row_w (by rfl) 31 _ rfl bf rfl 31 _ gbf ⟨_, Tryd.underlying31⟩ (by kernel_rfl) ?_; simp only [Act.put, List.setIfInBounds_toArray, List.set_cons_succ, List.set_cons_zero]) | (go_at_call 13; (with_reducible refine (HV.out _ HBX.out).mono ?_); rintro e w1 ⟨rfl, hb1⟩; have gx1 := gbx.then_ hb1; have gr1 := gbr.then_ hb1; clear x0 x1; have x0 : w1.cell? ⟨bx, 0, none⟩ = some (.int .i64 x.1) := gx1.cell 0; have x1 : w1.cell? ⟨bx, 1, none⟩ = some (.int .i64 x.2) := gx1.cell 1))
    go_wp2_with ((refine wpList_store_all rfl 31 _ _ rfl br 31 [] zF.toList [] zF.toList rfl rfl gr1 rfl (by kernel_rfl) (by simp [Value.oneCell']) ?_; intro we ge ue))
    refine bodyPost_ret (ret_row2 rfl rfl ge ⟨_, Tryd.underlying31⟩ (by kernel_rfl)) rfl ?_
    exact by rw [(hz.out).1, (hz.out).2]; exact RetF.zero ((HBX.out.trans (hb1.mono HBX.out.size)).trans (ue.b _ lbr))
  | false =>
  have HV2' : Hid ((!(x.1 == x.2)) = true) := by unfold Hid; rw [teq]; rfl
  go_upto_region 3 with (first | (refine wpList_row_w (by rfl) 27 _ rfl ba rfl 27 _ gba ⟨_, Tryd.underlying27⟩ (by kernel_rfl) ?_; simp only [Act.put, List.setIfInBounds_toArray, List.set_cons_succ, List.set_cons_zero]) | (refine wpList_row_w (by rfl) 31 _ rfl bf rfl 31 _ gbf ⟨_, Tryd.underlying31⟩ (by kernel_rfl) ?_; simp only [Act.put, List.setIfInBounds_toArray, List.set_cons_succ, List.set_cons_zero]) | (go_at_call 13; (with_reducible refine (HV.out _ HBX.out).mono ?_); rintro e w1 ⟨rfl, hb1⟩; have gf1 := gbf.then_ hb1; have gx1 := gbx.then_ hb1; have gr1 := gbr.then_ hb1; clear x0 x1; have x0 : w1.cell? ⟨bx, 0, none⟩ = some (.int .i64 x.1) := gx1.cell 0; have x1 : w1.cell? ⟨bx, 1, none⟩ = some (.int .i64 x.2) := gx1.cell 1))
  have HB1 := Lib.hid (below_then HBX.out hb1)
  have HTE := Lib.hid teq
  clear teq hb1 HBX HV gba gbf gbx gbr HV2
  have f0 : w1.cell? ⟨bf, 0, none⟩ = some (.int .i64 f.house) := (gf1).cell 0
  have f1 : w1.cell? ⟨bf, 1, none⟩ = some (.slice k.f f.facts.length k.fc) := (gf1).cell 1
  have f2 : w1.cell? ⟨bf, 2, none⟩ = some (.slice k.o f.ords.length k.oc) := (gf1).cell 2
  have hg := Fil.ok_iff.1 HV1.out
  have HPF := Lib.hid hg.pf
  have HPO := Lib.hid hg.po
  clear hg
  have HRF := Lib.hid (fun r W (hb : Below w.heap.size w W) => ref_any k.f k.fc f.facts r W nf ((HK.out.sf.below hb).more hb.size) HPF.out)
  obtain ⟨R1, eR1⟩ : ∃ R, hasRef f.facts x.1 = R := ⟨_, rfl⟩
  obtain ⟨R2, eR2⟩ : ∃ R, hasRef f.facts x.2 = R := ⟨_, rfl⟩
  have HRF1 := Lib.hid (HRF.out x.1)
  rw [eR1] at HRF1
  have HRF2 := Lib.hid (HRF.out x.2)
  rw [eR2] at HRF2
  have HR1 := Lib.hid eR1
  have HR2 := Lib.hid eR2
  clear eR1 eR2 HRF
  go_upto_region 4 with ((go_at_call 24; (with_reducible refine (HRF1.out _ HB1.out).mono ?_); rintro e w2 ⟨rfl, hb2⟩))
  have gf2 := gf1.then_ hb2
  have gx2 := gx1.then_ hb2
  have gr2 := gr1.then_ hb2
  have HB2 := Lib.hid (below_then HB1.out hb2)
  clear gf1 gx1 gr1 hb2 HB1 HRF1 f0 f1 f2 x0 x1
  have f0 : w2.cell? ⟨bf, 0, none⟩ = some (.int .i64 f.house) := (gf2).cell 0
  have f1 : w2.cell? ⟨bf, 1, none⟩ = some (.slice k.f f.facts.length k.fc) := (gf2).cell 1
  have f2 : w2.cell? ⟨bf, 2, none⟩ = some (.slice k.o f.ords.length k.oc) := (gf2).cell 2
  have x0 : w2.cell? ⟨bx, 0, none⟩ = some (.int .i64 x.1) := (gx2).cell 0
  have x1 : w2.cell? ⟨bx, 1, none⟩ = some (.int .i64 x.2) := (gx2).cell 1
  go_upto_region 5 with ((go_at_call 24; (with_reducible refine (HRF2.out _ HB2.out).mono ?_); rintro e w3 ⟨rfl, hb3⟩))
  have gf3 := gf2.then_ hb3
  have gx3 := gx2.then_ hb3
  have gr3 := gr2.then_ hb3
  have HB3 := Lib.hid (below_then HB2.out hb3)
  clear gf2 gx2 gr2 hb3 HB2 HRF2 f0 f1 f2 x0 x1
  have f0 : w3.cell? ⟨bf, 0, none⟩ = some (.int .i64 f.house) := (gf3).cell 0
  have f1 : w3.cell? ⟨bf, 1, none⟩ = some (.slice k.f f.facts.length k.fc) := (gf3).cell 1
  have f2 : w3.cell? ⟨bf, 2, none⟩ = some (.slice k.o f.ords.length k.oc) := (gf3).cell 2
  have x0 : w3.cell? ⟨bx, 0, none⟩ = some (.int .i64 x.1) := (gx3).cell 0
  have x1 : w3.cell? ⟨bx, 1, none⟩ = some (.int .i64 x.2) := (gx3).cell 1
  have hlb := HB3.out.size
  cases R1 with
  | false =>
    have hz : Hid (E = 14 ∧ F = Fil.zero) := ZER.out _ (by decide) (by rw [← HEE.out]; unfold Fil.ordE; rw [HV1.out, HTE.out, HR1.out]; rfl)
    go_wp2_with ((refine wpList_store_all rfl 31 _ _ rfl br 31 [] zF.toList [] zF.toList rfl rfl gr3 rfl (by kernel_rfl) (by simp [Value.oneCell']) ?_; intro we ge ue))
    refine bodyPost_ret (ret_row2 rfl rfl ge ⟨_, Tryd.underlying31⟩ (by kernel_rfl)) rfl ?_
    exact by rw [(hz.out).1, (hz.out).2]; exact RetF.zero ((HB3.out).trans (ue.b _ lbr))
  | true =>
  cases R2 with
  | false =>
    have hz : Hid (E = 14 ∧ F = Fil.zero) := ZER.out _ (by decide) (by rw [← HEE.out]; unfold Fil.ordE; rw [HV1.out, HTE.out, HR1.out, HR2.out]; rfl)
    go_wp2_with ((refine wpList_store_all rfl 31 _ _ rfl br 31 [] zF.toList [] zF.toList rfl rfl gr3 rfl (by kernel_rfl) (by simp [Value.oneCell']) ?_; intro we ge ue))
    refine bodyPost_ret (ret_row2 rfl rfl ge ⟨_, Tryd.underlying31⟩ (by kernel_rfl)) rfl ?_
    exact by rw [(hz.out).1, (hz.out).2]; exact RetF.zero ((HB3.out).trans (ue.b _ lbr))
  | true =>
  have HPL := Lib.hid (fun (h : Nat) W (hb : Below w.heap.size w W) (hh : Blk W h 35 (bA x)) => placeO_any k.o k.oc f.ords x h W no ((HK.out.so.below hb).more hb.size) HPO.out hh)
  obtain ⟨R, eR⟩ : ∃ R, hasOrd f.ords x = R := ⟨_, rfl⟩
  rw [eR] at HPL
  obtain ⟨N, eN⟩ : ∃ N : Nat, lbO f.ords x = N := ⟨_, rfl⟩
  rw [eN] at HPL
  have HR := Lib.hid eR
  have HN := Lib.hid eN
  have hNl : N ≤ f.ords.length := by rw [← eN]; exact (List.takeWhile_sublist _).length_le
  clear eR eN
  go_upto_region 8 with ((go_at_call 27; (with_reducible refine (HPL.out bx _ HB3.out gx3).mono ?_); rintro e w9 ⟨rfl, hb9⟩))
  have gf9 := gf3.then_ hb9
  have gx9 := gx3.then_ hb9
  have gr9 := gr3.then_ hb9
  have HB9 := Lib.hid (below_then HB3.out hb9)
  clear gf3 gx3 gr3 hb9 HB3 HPL f0 f1 f2 x0 x1 hlb
  obtain ⟨w3, rfl⟩ : ∃ W, W = w9 := ⟨_, rfl⟩
  have gf3 := gf9
  have gx3 := gx9
  have gr3 := gr9
  have HB3 := HB9
  clear gf9 gx9 gr9 HB9
  have f0 : w3.cell? ⟨bf, 0, none⟩ = some (.int .i64 f.house) := (gf3).cell 0
  have f1 : w3.cell? ⟨bf, 1, none⟩ = some (.slice k.f f.facts.length k.fc) := (gf3).cell 1
  have f2 : w3.cell? ⟨bf, 2, none⟩ = some (.slice k.o f.ords.length k.oc) := (gf3).cell 2
  have hlb := HB3.out.size
  cases R with
  | true =>
    have hz : Hid (E = 9 ∧ F = Fil.zero) := ZER.out _ (by decide) (by rw [← HEE.out]; unfold Fil.ordE; rw [HV1.out, HTE.out, HR1.out, HR2.out, HR.out]; rfl)
    go_wp2_with ((refine wpList_store_all rfl 31 _ _ rfl br 31 [] zF.toList [] zF.toList rfl rfl gr3 rfl (by kernel_rfl) (by simp [Value.oneCell']) ?_; intro we ge ue))
    refine bodyPost_ret (ret_row2 rfl rfl ge ⟨_, Tryd.underlying31⟩ (by kernel_rfl)) rfl ?_
    exact by rw [(hz.out).1, (hz.out).2]; exact RetF.zero ((HB3.out).trans (ue.b _ lbr))
  | false =>
  by_cases hlen : 4000 ≤ f.ords.length
  case pos =>
    have hz : Hid (E = 3 ∧ F = Fil.zero) := ZER.out _ (by decide) (by rw [← HEE.out]; unfold Fil.ordE; rw [HV1.out, HTE.out, HR1.out, HR2.out, HR.out]; simp [hlen])
    have tl : decide (4000 ≤ f.ords.length) = true := decide_eq_true hlen
    go_wp2_with ((refine wpList_store_all rfl 31 _ _ rfl br 31 [] zF.toList [] zF.toList rfl rfl gr3 rfl (by kernel_rfl) (by simp [Value.oneCell']) ?_; intro we ge ue))
    refine bodyPost_ret (ret_row2 rfl rfl ge ⟨_, Tryd.underlying31⟩ (by kernel_rfl)) rfl ?_
    exact by rw [(hz.out).1, (hz.out).2]; exact RetF.zero ((HB3.out).trans (ue.b _ lbr))
  have tl : decide (4000 ≤ f.ords.length) = false := decide_eq_false hlen
  have hok : Hid (E = 0 ∧ F = f.ord x) := by
    have e0 : f.ordE c x = 0 := ord_iff.2 ⟨Fil.ok_iff.1 HV1.out, ordOk_iff.2 ⟨HR1.out, HR2.out, by have := HTE.out; simpa using this⟩, HR.out, by omega⟩
    exact ⟨HEE.out.symm.trans e0, by rw [← HEF.out]; unfold Fil.ordF; rw [if_pos e0]⟩
  clear ZER HEE HEF
  go_upto_region 12 with (fail)
  clear tl
  go_cut [14] from 64 to 69 (fun v W => ∃ q A n, v = .pointer (some ⟨q, 0, none⟩) ∧ Blk W q 31 #[.int .i64 f.house, .slice A f.facts.length n, .slice none 0 0] ∧ Hid (Own W w3.heap.size 33 6 eF (.slice A f.facts.length n) f.facts) ∧ w3.heap.size ≤ q ∧ Below w3.heap.size w3 W)
  case first =>
    refine wp_region_hb (fun w' => Hid (Below w3.heap.size w3 w')) [0, 1, 2, 3, 4, 5, 6] [7] (by kernel_rfl) (by kernel_rfl) (by repeat (first | with_reducible refine panOk_then ?_ | with_reducible refine panOk_block ?_ | exact panOk_body)) (Lib.hid (Below.drew (Below.refl _ _))) (fun hdir hsel hpan hHeld => ?_)
    refine wpHB_take (i := 0) (oi := ⟨some 64, _, _, _, _, _⟩) hdir hsel hpan rfl (by kernel_rfl) (by kernel_rfl) (by kernel_rfl) (Or.inl ⟨by rfl, fun _ _ => by rfl⟩) (by assumption) ?_
    try simp only [Act.put, List.setIfInBounds_toArray, List.set_cons_zero, List.set_cons_succ]
    refine wpHB_take (i := 1) (oi := ⟨some 65, _, _, _, _, _⟩) (v := .int .i64 f.house) hdir hsel hpan rfl (by kernel_rfl) (by kernel_rfl) (by kernel_rfl) (Or.inl ⟨by rfl, fun w hw => by have hc := (gf3.then_ hw.out).cell 0; go_simp⟩) (by assumption) ?_
    try simp only [Act.put, List.setIfInBounds_toArray, List.set_cons_zero, List.set_cons_succ]
    refine wpHB_take (i := 2) (oi := ⟨some 66, _, _, _, _, _⟩) hdir hsel hpan rfl (by kernel_rfl) (by kernel_rfl) (by kernel_rfl) (Or.inl ⟨by rfl, fun _ _ => by rfl⟩) (by assumption) ?_
    try simp only [Act.put, List.setIfInBounds_toArray, List.set_cons_zero, List.set_cons_succ]
    refine wpHB_take (i := 3) (oi := ⟨some 67, _, _, _, _, _⟩) (v := .slice k.f f.facts.length k.fc) hdir hsel hpan rfl (by kernel_rfl) (by kernel_rfl) (by kernel_rfl) (Or.inl ⟨by rfl, fun w hw => by have hc := (gf3.then_ hw.out).cell 1; go_simp⟩) (by assumption) ?_
    try simp only [Act.put, List.setIfInBounds_toArray, List.set_cons_zero, List.set_cons_succ]
    refine wpHB_ready (rs := [4, 6]) (by kernel_rfl) (by simp) ?_
    refine AllHB.cons (by kernel_rfl) (o := ⟨some 68, _, _, _, _, _⟩) rfl (fun K hK => ?_) ?_
    · go_simp
      (go_at_call 30; (with_reducible refine (cloneFac k.f k.fc f.facts _ nf ((HK.out.sf.below (below_then HB3.out hHeld.out)).more (below_then HB3.out hHeld.out).size) cf_).mono ?_); rintro e wa ⟨⟨v, rfl, hO⟩, hba⟩)
      obtain ⟨A, n, rfl, _, _⟩ := hO.segz eF_len
      replace hO := hO.more hHeld.out.size
      try (replace gp := gp.then_ hba)
      refine hK.out _ _ (Lib.hid (below_then hHeld.out hba)) (fun hHeld2 => ?_)
      clear hK K hHeld
      have hHeld := hHeld2
      clear hHeld2
      try simp only [Act.put, List.setIfInBounds_toArray, List.set_cons_zero, List.set_cons_succ]
      refine wpHB_take (i := 5) (oi := ⟨some 69, _, _, _, _, _⟩) (v := .agg #[.int .i64 f.house, .slice A f.facts.length n, .slice none 0 0]) hdir hsel hpan rfl (by kernel_rfl) (by kernel_rfl) (by kernel_rfl) (Or.inl ⟨by rfl, fun w hw => by go_simp⟩) (by assumption) ?_
      try simp only [Act.put, List.setIfInBounds_toArray, List.set_cons_zero, List.set_cons_succ]
      refine wpHB_ready (rs := [6]) (by kernel_rfl) (by simp) ?_
      refine AllHB.cons (by kernel_rfl) (o := ⟨some 14, _, _, _, _, _⟩) rfl (fun K hK => ?_) AllHB.nil
      go_simp
      have lla := hHeld.out.size
      refine name_k ?_
      intro Vp hVp
      obtain ⟨q, eq_, gp, hbp⟩ := (by first | exact list_new2 hVp | exact list_new2 (W := w3.drew) hVp : ∃ b, _)
      try rw [eq_]
      try (have eq2 : w3.heap.size = q := eq_; rw [eq2])
      try (replace hO := hO.below hbp)
      clear hVp
      refine hK.out _ _ (Lib.hid (below_then hHeld.out hbp)) (fun hHeld2 => ?_)
      clear hK K hHeld
      have hHeld := hHeld2
      clear hHeld2
      try simp only [Act.put, List.setIfInBounds_toArray, List.set_cons_zero, List.set_cons_succ]
      refine wpHB_tail (by kernel_rfl) (by kernel_rfl) ?_
      clear hdir hsel hpan
      simp only [opsAt, List.getElem?_toArray, List.getElem?_cons_succ, List.getElem?_cons_zero, Option.toList_some, List.cons_append, List.nil_append]
      go_wp2_with ((refine wpList_store_all rfl 31 _ _ rfl q 31 [] zF.toList [] [.int .i64 f.house, .slice A f.facts.length n, .slice none 0 0] rfl rfl gp rfl (by kernel_rfl) (by simp [Value.oneCell']) ?_; intro w4 g4 u4))
      go_meet
      case rel => exact ⟨q, A, n, rfl, g4, hO.updT u4 gp (by decide), by omega, hHeld.out.trans (u4.b _ (by omega))⟩
    refine AllHB.cons (by kernel_rfl) (o := ⟨some 14, _, _, _, _, _⟩) rfl (fun K hK => ?_) ?_
    · go_simp
      have lla := hHeld.out.size
      refine name_k ?_
      intro Vp hVp
      obtain ⟨q, eq_, gp, hbp⟩ := (by first | exact list_new2 hVp | exact list_new2 (W := w3.drew) hVp : ∃ b, _)
      try rw [eq_]
      try (have eq2 : w3.heap.size = q := eq_; rw [eq2])
      try (replace hO := hO.below hbp)
      clear hVp
      refine hK.out _ _ (Lib.hid (below_then hHeld.out hbp)) (fun hHeld2 => ?_)
      clear hK K hHeld
      have hHeld := hHeld2
      clear hHeld2
      try simp only [Act.put, List.setIfInBounds_toArray, List.set_cons_zero, List.set_cons_succ]
      refine wpHB_ready (rs := [4]) (by kernel_rfl) (by simp) ?_
      refine AllHB.cons (by kernel_rfl) (o := ⟨some 68, _, _, _, _, _⟩) rfl (fun K hK => ?_) AllHB.nil
      go_simp
      (go_at_call 30; (with_reducible refine (cloneFac k.f k.fc f.facts _ nf ((HK.out.sf.below (below_then HB3.out hHeld.out)).more (below_then HB3.out hHeld.out).size) cf_).mono ?_); rintro e wa ⟨⟨v, rfl, hO⟩, hba⟩)
      obtain ⟨A, n, rfl, _, _⟩ := hO.segz eF_len
      replace hO := hO.more hHeld.out.size
      try (replace gp := gp.then_ hba)
      refine hK.out _ _ (Lib.hid (below_then hHeld.out hba)) (fun hHeld2 => ?_)
      clear hK K hHeld
      have hHeld := hHeld2
      clear hHeld2
      try simp only [Act.put, List.setIfInBounds_toArray, List.set_cons_zero, List.set_cons_succ]
      refine wpHB_take (i := 5) (oi := ⟨some 69, _, _, _, _, _⟩) (v := .agg #[.int .i64 f.house, .slice A f.facts.length n, .slice none 0 0]) hdir hsel hpan rfl (by kernel_rfl) (by kernel_rfl) (by kernel_rfl) (Or.inl ⟨by rfl, fun w hw => by go_simp⟩) (by assumption) ?_
      try simp only [Act.put, List.setIfInBounds_toArray, List.set_cons_zero, List.set_cons_succ]
      refine wpHB_tail (by kernel_rfl) (by kernel_rfl) ?_
      clear hdir hsel hpan
      simp only [opsAt, List.getElem?_toArray, List.getElem?_cons_succ, List.getElem?_cons_zero, Option.toList_some, List.cons_append, List.nil_append]
      go_wp2_with ((refine wpList_store_all rfl 31 _ _ rfl q 31 [] zF.toList [] [.int .i64 f.house, .slice A f.facts.length n, .slice none 0 0] rfl rfl gp rfl (by kernel_rfl) (by simp [Value.oneCell']) ?_; intro w4 g4 u4))
      go_meet
      case rel => exact ⟨q, A, n, rfl, g4, hO.updT u4 gp (by decide), by omega, hHeld.out.trans (u4.b _ (by omega))⟩
    exact AllHB.nil
  obtain ⟨q, A, n, rfl, gq, HO, hq, hb4⟩ := hcut
  obtain ⟨w4, rfl⟩ : ∃ W, W = wc := ⟨_, rfl⟩
  have gf4 := gf3.then_ hb4
  have gx4 := gx3.then_ hb4
  have gr4 := gr3.then_ hb4
  have lr3 := gr3.lt
  have HB4 := Lib.hid (below_then HB3.out hb4)
  clear gf3 gx3 gr3 hb4 HB3 f0 f1 f2
  have hs1 : ∀ W : World, (Instr.slice 29 (.slice k.o f.ords.length k.oc) none (some (.int .i64 (N : Nat))) none).run Tryd.prog W = .ok (.slice k.o N k.oc) W := fun W => take_at (size := 2) (by omega) (by kernel_rfl) (fun W => by kernel_rfl) W
  have hs2 : ∀ W : World, (Instr.slice 29 (.slice k.o f.ords.length k.oc) (some (.int .i64 (N : Nat))) none none).run Tryd.prog W = .ok (.slice (subA k.o k.oc N 2) (f.ords.length - N) (k.oc - N)) W := fun W => tail_at (size := 2) (by omega) (by kernel_rfl) (fun W => by kernel_rfl) W
  have HCC := Lib.hid (fun (W : World) (g b1 : Nat) (hb : Below w.heap.size w W) (g1 : Blk W b1 35 (bA x)) (hg : Blk W g 29 #[.slice k.o N k.oc, .slice (some ⟨b1, 0, none⟩) 1 1, .slice (subA k.o k.oc N 2) (f.ords.length - N) (k.oc - N)]) => concat_insO f.ords k.o k.oc N x g b1 W (by omega) hNl co_ ((HK.out.so.below hb).more hb.size) g1 hg)
  go_upto_region 13 with (fail)
  refine wp_region_hb (fun w' => Hid (Below w4.heap.size w4 w')) [0, 1, 2, 3, 4, 5, 6, 7, 8, 9] [10, 11, 12, 13] (by kernel_rfl) (by kernel_rfl) (by repeat (first | with_reducible refine panOk_then ?_ | with_reducible refine panOk_block ?_ | exact panOk_body)) (Lib.hid (Below.drew (Below.refl _ _))) (fun hdir hsel hpan hHeld => ?_)
  refine wpHB_take (i := 0) (oi := ⟨some 70, _, _, _, _, _⟩) hdir hsel hpan rfl (by kernel_rfl) (by kernel_rfl) (by kernel_rfl) (Or.inl ⟨by rfl, fun _ _ => by rfl⟩) (by assumption) ?_
  try simp only [Act.put, List.setIfInBounds_toArray, List.set_cons_zero, List.set_cons_succ]
  refine wpHB_take (i := 1) (oi := ⟨some 71, _, _, _, _, _⟩) (v := .slice k.o f.ords.length k.oc) hdir hsel hpan rfl (by kernel_rfl) (by kernel_rfl) (by kernel_rfl) (Or.inl ⟨by rfl, fun w hw => by have hc := (gf4.then_ hw.out).cell 2; go_simp⟩) (by assumption) ?_
  try simp only [Act.put, List.setIfInBounds_toArray, List.set_cons_zero, List.set_cons_succ]
  refine wpHB_take (i := 2) (oi := ⟨some 72, _, _, _, _, _⟩) hdir hsel hpan rfl (by kernel_rfl) (by kernel_rfl) (by kernel_rfl) (Or.inl ⟨by rfl, fun _ _ => by rfl⟩) (by assumption) ?_
  try simp only [Act.put, List.setIfInBounds_toArray, List.set_cons_zero, List.set_cons_succ]
  refine wpHB_take (i := 3) (oi := ⟨some 73, _, _, _, _, _⟩) (v := .slice k.o N k.oc) hdir hsel hpan rfl (by kernel_rfl) (by kernel_rfl) (by kernel_rfl) (Or.inl ⟨by rfl, fun w hw => by have hc := hs1 w; go_simp⟩) (by assumption) ?_
  try simp only [Act.put, List.setIfInBounds_toArray, List.set_cons_zero, List.set_cons_succ]
  refine wpHB_take (i := 4) (oi := ⟨some 74, _, _, _, _, _⟩) hdir hsel hpan rfl (by kernel_rfl) (by kernel_rfl) (by kernel_rfl) (yieldsIf_row (by rfl) 35 _ rfl bx rfl 35 _ (fun w hw => (gx4.then_ hw.out)) ⟨_, Tryd.underlying35⟩ (by kernel_rfl)) (by assumption) ?_
  try simp only [Act.put, List.setIfInBounds_toArray, List.set_cons_zero, List.set_cons_succ]
  refine wpHB_take (i := 6) (oi := ⟨some 76, _, _, _, _, _⟩) hdir hsel hpan rfl (by kernel_rfl) (by kernel_rfl) (by kernel_rfl) (Or.inl ⟨by rfl, fun _ _ => by rfl⟩) (by assumption) ?_
  try simp only [Act.put, List.setIfInBounds_toArray, List.set_cons_zero, List.set_cons_succ]
  refine wpHB_take (i := 7) (oi := ⟨some 77, _, _, _, _, _⟩) (v := .slice k.o f.ords.length k.oc) hdir hsel hpan rfl (by kernel_rfl) (by kernel_rfl) (by kernel_rfl) (Or.inl ⟨by rfl, fun w hw => by have hc := (gf4.then_ hw.out).cell 2; go_simp⟩) (by assumption) ?_
  try simp only [Act.put, List.setIfInBounds_toArray, List.set_cons_zero, List.set_cons_succ]
  refine wpHB_take (i := 8) (oi := ⟨some 78, _, _, _, _, _⟩) hdir hsel hpan rfl (by kernel_rfl) (by kernel_rfl) (by kernel_rfl) (Or.inl ⟨by rfl, fun _ _ => by rfl⟩) (by assumption) ?_
  try simp only [Act.put, List.setIfInBounds_toArray, List.set_cons_zero, List.set_cons_succ]
  refine wpHB_take (i := 9) (oi := ⟨some 79, _, _, _, _, _⟩) (v := .slice (subA k.o k.oc N 2) (f.ords.length - N) (k.oc - N)) hdir hsel hpan rfl (by kernel_rfl) (by kernel_rfl) (by kernel_rfl) (Or.inl ⟨by rfl, fun w hw => by have hc := hs2 w; go_simp⟩) (by assumption) ?_
  try simp only [Act.put, List.setIfInBounds_toArray, List.set_cons_zero, List.set_cons_succ]
  refine wpHB_ready (rs := [5]) (by kernel_rfl) (by simp) ?_
  refine AllHB.cons (by kernel_rfl) (o := ⟨some 75, _, _, _, _, _⟩) rfl (fun K hK => ?_) AllHB.nil
  go_simp
  refine name_k ?_
  intro Vb hVb
  obtain ⟨b1, e1, g1, hbb⟩ := (by first | exact list_new2 hVb | exact list_new2 (W := w4.drew) hVb : ∃ b, _)
  try rw [e1]
  try (have e2 : w4.heap.size = b1 := e1; rw [e2])
  clear hVb
  refine hK.out _ _ (Lib.hid (below_then hHeld.out hbb)) (fun hHeld2 => ?_)
  clear hK K hHeld
  have hHeld := hHeld2
  clear hHeld2
  try simp only [Act.put, List.setIfInBounds_toArray, List.set_cons_zero, List.set_cons_succ]
  refine wpHB_tail (by kernel_rfl) (by kernel_rfl) ?_
  clear hdir hsel hpan
  simp only [opsAt, List.getElem?_toArray, List.getElem?_cons_succ, List.getElem?_cons_zero, Option.toList_some, List.cons_append, List.nil_append]
  clear hs1 hs2
  refine name_wpl ?_
  intro w5 hw5
  have hb5 : Below w4.heap.size w4 w5 := by rw [hw5]; exact hHeld.out
  have g15 : Blk w5 b1 35 (bA x) := by rw [hw5]; exact g1
  clear hw5 hHeld
  have gq5 := gq.then_ hb5
  have gr5 := gr4.then_ hb5
  have HO5 := Lib.hid (HO.out.below hb5)
  have HB5 := Lib.hid (below_then HB4.out hb5)
  have lq := gq.lt
  have lr := gr4.lt
  have s45 := hb5.size
  go_upto_region 14 with ((go_at_call 31; (with_reducible refine (HCC.out _ _ b1 (below_then HB5.out (wa1 _ _)) (g15.then_ (wa1 _ _)) (Blk.new _ _ _)).mono ?_); rintro e w6 ⟨⟨v, rfl, hO6⟩, hb6⟩; obtain ⟨A6, n6, rfl, _⟩ := hO6.segz eS_len; have hb56 := below_then (wa1 w5 _) hb6; have gq6 := gq5.then_ hb56; have HO6 := Lib.hid (hO6.more (wa1 w5 (.cells #[.slice k.o N k.oc, .slice (some ⟨b1, 0, none⟩) 1 1, .slice (subA k.o k.oc N 2) (f.ords.length - N) (k.oc - N)] 29)).size); clear hO6; have hq1 : w6.cell? ⟨q, 2, none⟩ = some (.slice none 0 0) := gq6.cell 2; have hqf : w6.frozen? ⟨q, 2, none⟩ = false := gq6.frozen 2))
  refine name_wp ?_
  intro X7 hX7
  have u7 : Upd w6 X7 q := by rw [hX7]; exact (Upd.refl _ _).setCell 2 _
  have gq7 : Blk X7 q 31 #[.int .i64 f.house, .slice A f.facts.length n, .slice A6 (insA f.ords N x).length n6] := by rw [hX7]; exact gq6.set_ 2 _
  have gr7 : Blk X7 br 31 zF := (gr5.then_ hb56).upd u7 (by omega)
  have HO7 := Lib.hid (HO6.out.updT u7 gq6 (by decide))
  have HP7 := Lib.hid ((HO5.out.below hb56).updT u7 gq6 (by decide))
  have HB7 := Lib.hid ((below_then HB5.out hb56).trans (u7.b _ (by have := HB4.out.size; omega)))
  clear hX7 u7 gq6 hq1 hqf HO6 HO5 hb6 hb56 gr5 gq5 HCC
  go_wp2_with (first | (refine wpList_row_w (by rfl) 31 _ rfl q rfl 31 _ gq7 ⟨_, Tryd.underlying31⟩ (by kernel_rfl) ?_; simp only [Act.put, List.setIfInBounds_toArray, List.set_cons_succ, List.set_cons_zero]) | (refine wpList_store_all rfl 31 _ _ rfl br 31 [] zF.toList [] [.int .i64 f.house, .slice A f.facts.length n, .slice A6 (insA f.ords N x).length n6] rfl rfl gr7 rfl (by kernel_rfl) (by simp [Value.oneCell']) ?_; intro we ge ue))
  refine bodyPost_ret (ret_row2 rfl rfl ge ⟨_, Tryd.underlying31⟩ (by kernel_rfl)) rfl ?_
  rw [hok.out.1, hok.out.2]
  have e9 : f.ord x = { f with ords := insA f.ords N x } := by unfold Fil.ord; rw [HN.out]
  have h9 := filt_own (F := { f with ords := insA f.ords N x }) ((HP7.out.updT ue gr7 (by decide)).more (B' := w.heap.size) (by omega)) ((HO7.out.updT ue gr7 (by decide)).more (by have := HB5.out.size; omega)) nf (by show (insA f.ords N x).length ≤ _; rw [insA_len]; omega)
  rw [e9]
  exact ⟨⟨_, rfl, h9.1, h9.2⟩, HB7.out.trans (ue.b _ lbr)⟩
end Go.Proofs.YtemkghgcdpmlbaaDoor
