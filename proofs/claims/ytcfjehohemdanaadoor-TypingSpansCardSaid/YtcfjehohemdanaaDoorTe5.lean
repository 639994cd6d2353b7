/- The walk of TypingSpans. -/
import Derived.Test.YtcfjehohemdanaaDoorTe3
namespace Go.Proofs.YtcfjehohemdanaaDoor
open Go.RowKit Go.Sort

theorem plM_cl {w : World} {s : Sy} {m : Sm} (hm : Smb w s m) {i : Nat} {x : Cm} (hx : (plM s.cl.length m.cs)[i]? = some x) : s.plc.cl[i]? = some x.c := by
  rw [show s.plc.cl = (plM s.cl.length m.cs).map (·.c) by rw [plM_map, hm.y.e]; rfl, List.getElem?_map, hx]; rfl
theorem plM_setC {w : World} {s : Sy} {m : Sm} (hm : Smb w s m) (i : Nat) (y : Cm) : ({ s with ac := plA s.ac.length s.ac, cl := ((plM s.cl.length m.cs).set i y).map (·.c) } : Sy) = s.plc.setC i y.c := by
  rw [List.map_set, plM_map, hm.y.e]; rfl
/-- a variable is given what placed returned -/
theorem olt_store {w0 W1 W2 : World} {s : Sy} {m : Sm} {g ga ca gc cc : Nat} {cs0 : List Value} (hm : Smb w0 s m) (h1 : Below w0.heap.size w0 W1) (h2 : Below W1.heap.size W1 W2) (hg : ga < gc) (hgl : w0.heap.size ≤ g) (hgb : Blk W1 g 34 cs0.toArray) (hsz : cs0.length = 18)
    (hA : Own W2 W1.heap.size 60 9 encAs (.slice (some ⟨ga, 0, none⟩) s.ac.length ca) (plA s.ac.length s.ac)) (hC : Own W2 W1.heap.size 51 24 encCl (.slice (some ⟨gc, 0, none⟩) s.cl.length cc) (plM s.cl.length m.cs)) :
    Olt w0 s m g ga ca gc cc (W2.setCells g 0 (syA s (cpM m ga ca gc cc (plM s.cl.length m.cs))).toList) (plA s.ac.length s.ac) (plM s.cl.length m.cs) := by
  have l1 := hA.lt_
  have l2 := hC.lt_
  have l3 := hgb.lt
  have hs := h1.size
  have hk := setCells_blk (g := g) (t := 34) (syA s (cpM m ga ca gc cc (plM s.cl.length m.cs))).toList [] cs0 [] W2 hsz (by simpa using hgb.then_ h2)
  refine ⟨by simpa using hk, own_setCells (by intro k hk; cases hk; show ga ≠ g; omega) _ _ _ (hA.more hs), own_setCells (by intro k hk; cases hk; show gc ≠ g; omega) _ _ _ (hC.more hs), setCells_below hgl _ _ _ (below_then h1 h2), ⟨hgl, by omega, by omega, by omega⟩, plA_len _ _, ?_⟩
  rw [plM_len]; exact hm.len
set_option maxRecDepth 100000 in
set_option maxHeartbeats 12800000 in
theorem spans_any (s : Sy) (m : Sm) (raw : Nat) (days : Int) (bus : Bool) (w : World) (h : Beg w s m) (hr : raw ≤ 255) : Calls Tryd.prog 6 #[.agg (syA s m), .int .u8 raw, .int .i64 days, .bool bus] w fun e w' => e = .returned (.bool true) ∧ Below w.heap.size w w' := by
  have H := Lib.hid h
  have HH := Lib.hid (fun W (hb : Below w.heap.size w W) => head_any W (h.nr.below hb) (h.tb.below hb))
  have HS := Lib.hid (fun W (hb : Below w.heap.size w W) => small_any s m W (h.sm.then_ hb))
  clear h
  obtain ⟨b, hb⟩ : ∃ b, small s = b := ⟨_, rfl⟩
  rw [hb] at HS
  go_enter Tryd.func6, Tryd.ntmps6
  go_upto_region 1 with (fail)
  refine name_wp ?_
  intro X hX
  have gX : Blk X w.heap.size 34 (syA s m) := by rw [hX]; exact Blk.new _ _ _
  have hbX : Below w.heap.size w X := by rw [hX]; exact wa1 _ _
  have lX := gX.lt
  obtain ⟨b1, e1⟩ : ∃ b, w.heap.size = b := ⟨_, rfl⟩
  rw [e1] at gX ⊢
  have HBX := Lib.hid hbX
  clear hX hbX
  have hz := Below.refl X.heap.size X
  cases b with
  | false =>
    clear hb
    go_wp2_with (first | (refine wpList_row_w (by rfl) 34 _ rfl b1 rfl 34 (syA s m) (by (repeat (first | with_reducible assumption | with_reducible exact Blk.new _ _ _ | with_reducible refine Blk.drew ?_ | with_reducible refine Blk.alloc ?_ _ | with_reducible refine Blk.drewN ?_ _ | with_reducible apply Blk.setT0 | with_reducible apply Blk.setT1 | with_reducible refine Blk.far ?_ (by first | (simp; done) | omega | (simp; omega)) _ | with_reducible refine Blk.then_ ?_ (by with_reducible assumption)))) ⟨_, Tryd.underlying34⟩ (by kernel_rfl) ?_; simp only [Act.put, List.setIfInBounds_toArray, List.set_cons_succ, List.set_cons_zero]) | (go_at_call 9; (with_reducible refine (HH.out _ HBX.out).mono ?_); rintro e w1 ⟨rfl, hb1⟩) | (go_at_call 10; (with_reducible refine (HS.out _ (below_then HBX.out hb1)).mono ?_); rintro e w2 ⟨rfl, hb2⟩))
    go_ret
    exact ⟨rfl, below_then (below_then HBX.out hb1) hb2⟩
  | true =>
    have HSB := Lib.hid (H.out.sm.smb hb)
    have hlc : s.cl.length ≤ 60 := by simp only [small, Bool.and_eq_true, decide_eq_true_eq] at hb; omega
    clear hb
    have HPL := Lib.hid (fun W (hb : Below w.heap.size w W) => placed_any s m W (HSB.out.then_ hb) H.out.nl)
    have HCK := Lib.hid (fun W (hb : Below w.heap.size w W) => check_any s m W (H.out.nr.below hb) (H.out.tb.below hb) (HSB.out.then_ hb))
    by_cases hc0 : s.cl.length = 0
    · have d1 : ((s.cl.length : Int) == 0) = true := by simpa using hc0
      go_wp2_with (first | (refine wpList_row_w (by rfl) 34 _ rfl b1 rfl 34 (syA s m) (by (repeat (first | with_reducible assumption | with_reducible exact Blk.new _ _ _ | with_reducible refine Blk.drew ?_ | with_reducible refine Blk.alloc ?_ _ | with_reducible refine Blk.drewN ?_ _ | with_reducible apply Blk.setT0 | with_reducible apply Blk.setT1 | with_reducible refine Blk.far ?_ (by first | (simp; done) | omega | (simp; omega)) _ | with_reducible refine Blk.then_ ?_ (by with_reducible assumption)))) ⟨_, Tryd.underlying34⟩ (by kernel_rfl) ?_; simp only [Act.put, List.setIfInBounds_toArray, List.set_cons_succ, List.set_cons_zero]) | (go_at_call 9; (with_reducible refine (HH.out _ HBX.out).mono ?_); rintro e w1 ⟨rfl, hb1⟩) | (go_at_call 10; (with_reducible refine (HS.out _ (below_then HBX.out hb1)).mono ?_); rintro e w2 ⟨rfl, hb2⟩; have g2 := (gX.then_ hb1).then_ hb2; have c17 : w2.cell? ⟨b1, 17, none⟩ = some (.slice m.c s.cl.length m.cc) := g2.cell 17; have c16 : w2.cell? ⟨b1, 16, none⟩ = some (.slice m.a s.ac.length m.ac) := g2.cell 16; have l2 := g2.lt))
      go_ret
      exact ⟨rfl, below_then (below_then HBX.out hb1) hb2⟩
    · have d1 : ((s.cl.length : Int) == 0) = false := by simpa using hc0
      obtain ⟨L, hL⟩ : ∃ L, chk s = L := ⟨_, rfl⟩
      rw [hL] at HCK
      cases L with
      | cons f L =>
        have hl : decide (0 < ((f :: L).length : Int)) = true := decide_eq_true (by simp)
        go_wp2_with (first | (refine wpList_row_w (by rfl) 34 _ rfl b1 rfl 34 (syA s m) (by (repeat (first | with_reducible assumption | with_reducible exact Blk.new _ _ _ | with_reducible refine Blk.drew ?_ | with_reducible refine Blk.alloc ?_ _ | with_reducible refine Blk.drewN ?_ _ | with_reducible apply Blk.setT0 | with_reducible apply Blk.setT1 | with_reducible refine Blk.far ?_ (by first | (simp; done) | omega | (simp; omega)) _ | with_reducible refine Blk.then_ ?_ (by with_reducible assumption)))) ⟨_, Tryd.underlying34⟩ (by kernel_rfl) ?_; simp only [Act.put, List.setIfInBounds_toArray, List.set_cons_succ, List.set_cons_zero]) | (go_at_call 9; (with_reducible refine (HH.out _ HBX.out).mono ?_); rintro e w1 ⟨rfl, hb1⟩) | (go_at_call 10; (with_reducible refine (HS.out _ (below_then HBX.out hb1)).mono ?_); rintro e w2 ⟨rfl, hb2⟩; have g2 := (gX.then_ hb1).then_ hb2; have c17 : w2.cell? ⟨b1, 17, none⟩ = some (.slice m.c s.cl.length m.cc) := g2.cell 17; have c16 : w2.cell? ⟨b1, 16, none⟩ = some (.slice m.a s.ac.length m.ac) := g2.cell 16; have l2 := g2.lt) | (go_at_call 11; (with_reducible refine (HCK.out _ (below_then (below_then HBX.out hb1) hb2)).mono ?_); rintro e w4 ⟨v4, rfl, hb4, hO4⟩; obtain ⟨A4, c4, rfl, _, _⟩ := hO4.seg encF_len))
        go_ret
        exact ⟨rfl, below_then (below_then (below_then HBX.out hb1) hb2) hb4⟩
      | nil =>
        have HLAW := Lib.hid hL
        clear hL
        go_upto_region 5 with (first | (refine wpList_row_w (by rfl) 34 _ rfl b1 rfl 34 (syA s m) (by (repeat (first | with_reducible assumption | with_reducible exact Blk.new _ _ _ | with_reducible refine Blk.drew ?_ | with_reducible refine Blk.alloc ?_ _ | with_reducible refine Blk.drewN ?_ _ | with_reducible apply Blk.setT0 | with_reducible apply Blk.setT1 | with_reducible refine Blk.far ?_ (by first | (simp; done) | omega | (simp; omega)) _ | with_reducible refine Blk.then_ ?_ (by with_reducible assumption)))) ⟨_, Tryd.underlying34⟩ (by kernel_rfl) ?_; simp only [Act.put, List.setIfInBounds_toArray, List.set_cons_succ, List.set_cons_zero]) | (go_at_call 9; (with_reducible refine (HH.out _ HBX.out).mono ?_); rintro e w1 ⟨rfl, hb1⟩) | (go_at_call 10; (with_reducible refine (HS.out _ (below_then HBX.out hb1)).mono ?_); rintro e w2 ⟨rfl, hb2⟩; have g2 := (gX.then_ hb1).then_ hb2; have c17 : w2.cell? ⟨b1, 17, none⟩ = some (.slice m.c s.cl.length m.cc) := g2.cell 17; have c16 : w2.cell? ⟨b1, 16, none⟩ = some (.slice m.a s.ac.length m.ac) := g2.cell 16; have l2 := g2.lt) | (go_at_call 11; (with_reducible refine (HCK.out _ (below_then (below_then HBX.out hb1) hb2)).mono ?_); rintro e w4 ⟨v4, rfl, hb4, hO4⟩; obtain ⟨A4, c4, rfl, _, _⟩ := hO4.seg encF_len) | (go_at_call 12; (with_reducible refine (HPL.out _ (below_then (below_then (below_then HBX.out hb1) hb2) hb4)).mono ?_); rintro e w3 ⟨ga, ca, gc, cc, rfl, hb3, hgg, hoA, hoC⟩) | (refine wpList_new 34 el18 _ _ rfl rfl rfl rfl rfl rfl _ rfl (by simp [Value.oneCell']) (by simp) rfl ?_; simp only [Act.put, List.setIfInBounds_toArray, List.set_cons_succ, List.set_cons_zero]))
        refine name_wp ?_
        intro Y hY
        have hO : Olt w s m w3.heap.size ga ca gc cc Y (plA s.ac.length s.ac) (plM s.cl.length m.cs) := by rw [hY]; exact olt_new HSB.out (below_then (below_then (below_then HBX.out hb1) hb2) hb4) hb3 hgg.2 hoA hoC
        obtain ⟨g, hg⟩ : ∃ g, w3.heap.size = g := ⟨_, rfl⟩
        have hb5 : Below w3.heap.size w3 Y := by rw [hY]; exact wa1 _ _
        have gY := (((g2.then_ hb4).then_ hb3).then_ hb5)
        have HNB : Hid (b1 ≠ g ∧ b1 ≠ ga ∧ b1 ≠ gc) := by have h := (g2.then_ hb4).lt; have h1 := hoA.lt_; have h2 := hoC.lt_; have h3 := hb3.size; unfold Hid; omega
        rw [hg] at hO ⊢
        have HO := Lib.hid hO
        have lY := gY.lt
        have GY := Lib.hid gY
        clear c17 c16
        have c17 : Y.cell? ⟨b1, 17, none⟩ = some (.slice m.c s.cl.length m.cc) := gY.cell 17
        have hne : (s.cl.length : Int) ≠ 0 := by omega
        clear hY hg hO hb1 hb2 hb3 hb4 hb5 hO4 hoA hoC hgg g2 l2 gX lX hz d1 HS HH HBX gY HCK
        go_upto_region 6 with (fail)
        obtain ⟨i, hi⟩ : ∃ i, raw % s.cl.length = i := ⟨_, rfl⟩
        have hil : i < s.cl.length := by rw [← hi]; exact Nat.mod_lt _ (by omega)
        rw [← Int.natCast_emod, hi]
        clear hne hi c17 lY hr hc0
        obtain ⟨x, hx⟩ : ∃ x, (plM s.cl.length m.cs)[i]? = some x := ⟨_, List.getElem?_eq_getElem (by rw [HO.out.ly]; exact hil)⟩
        have HX := Lib.hid (And.intro hx (plM_cl HSB.out hx))
        have HIX : Hid (i < (plM s.cl.length m.cs).length) := by unfold Hid; rw [HO.out.ly]; exact hil
        clear hx
        obtain ⟨good, hgood⟩ : ∃ b, inn days 1 400 = b := ⟨_, rfl⟩
        have hg0 : good = (decide (1 ≤ days) && decide (days ≤ 400)) := hgood.symm
        have HGD := Lib.hid hgood
        clear hgood
        go_cut [12] from 39 to 44 (fun v W => v = .bool good ∧ W = Y)
        case first =>
          by_cases h1 : 1 ≤ days
          · by_cases h2 : days ≤ 400
            · have d1 := decide_eq_true h1
              have d2 := decide_eq_true h2
              rw [d1, d2] at hg0
              go_wp2
              go_meet
              case rel => exact ⟨by rw [hg0]; rfl, rfl⟩
            · have d1 := decide_eq_true h1
              have d2 := decide_eq_false h2
              rw [d1, d2] at hg0
              go_wp2
              go_meet
              case rel => exact ⟨by rw [hg0]; rfl, rfl⟩
          · have d1 := decide_eq_false h1
            rw [d1] at hg0
            go_wp2
            go_meet
            case rel => exact ⟨by rw [hg0]; rfl, rfl⟩
        case rest =>
          obtain ⟨hv, hw⟩ := hcut
          subst hv
          replace hw := hw.symm
          subst hw
          clear hg0
          have hxx : (plM s.cl.length m.cs)[i]? = some x := HX.out.1
          obtain ⟨q1, q2⟩ := HO.out.C.getAt encCl_len HO.out.ly hxx (j := 2) (by omega)
          have q1' : Y.cell? ⟨gc, i * 24 + 2, none⟩ = some (.int .i64 x.c.wi.d) := q1
          have c17 : Y.cell? ⟨g, 17, none⟩ = some (.slice (some ⟨gc, 0, none⟩) s.cl.length cc) := HO.out.O.cell 17
          have lO := HO.out.O.lt
          clear q1 hxx
          go_upto_region 8 with (fail)
          refine name_wp ?_
          intro Z hZ
          have HO5 : Hid (Olt w s m g ga ca gc cc Z (plA s.ac.length s.ac) ((plM s.cl.length m.cs).set i ⟨wiC x.c days, x.A, x.cap⟩)) := by rw [hZ]; exact HO.out.setC (vs := [.int .i64 days]) HX.out.1 (by simp) rfl
          have GZ : Hid (Blk Z b1 34 (syA s m)) := by rw [hZ]; exact GY.out.far (p := ⟨gc, i * 24 + 2, none⟩) HNB.out.2.2 _
          clear hZ q1' q2 c17 lO HO GY
          have heq := plM_setC HSB.out i ⟨wiC x.c days, x.A, x.cap⟩
          have gO : Blk Z g 34 (syA (s.plc.setC i (wiC x.c days)) (cpM m ga ca gc cc ((plM s.cl.length m.cs).set i ⟨wiC x.c days, x.A, x.cap⟩))) := by have h := HO5.out.O; rw [HO5.out.syA, heq] at h; exact h
          have hsm := HO5.out.smb HSB.out (plA_fit HSB.out) (mem_set (plM_fit HSB.out HO5.out.B) i (plM_fit HSB.out HO5.out.B x (List.mem_of_getElem? HX.out.1)))
          rw [heq] at hsm
          have HCK := Lib.hid (check_any (s.plc.setC i (wiC x.c days)) _ Z (H.out.nr.below HO5.out.B) (H.out.tb.below HO5.out.B) hsm)
          rw [spans_within HLAW.out HX.out.2, HGD.out] at HCK
          obtain ⟨L8, hL8⟩ : ∃ L, (if good = true then ([] : List (Int × Int)) else [(2, 2000 + (i : Int))]) = L := ⟨_, rfl⟩
          rw [hL8] at HCK
          have HL8 := Lib.hid hL8
          clear hsm heq hL8
          go_upto_region 9 with (first | (refine wpList_row_w (by rfl) 34 _ rfl g rfl 34 (syA (s.plc.setC i (wiC x.c days)) (cpM m ga ca gc cc ((plM s.cl.length m.cs).set i ⟨wiC x.c days, x.A, x.cap⟩))) gO ⟨_, Tryd.underlying34⟩ (by kernel_rfl) ?_; simp only [Act.put, List.setIfInBounds_toArray, List.set_cons_succ, List.set_cons_zero]) | (go_at_call 11; (with_reducible refine HCK.out.mono ?_); rintro e8 w8 ⟨v8, rfl, hb8, hO8⟩; obtain ⟨A8, c8, rfl, _, hS8⟩ := hO8.seg encF_len; have HS8 := Lib.hid hS8))
          have HO6 := Lib.hid (HO5.out.then_ hb8)
          have G8 := Lib.hid (GZ.out.then_ hb8)
          clear hb8 hO8 hS8 gO HO5 GZ HCK
          go_cut [72] from 54 to 72 (fun v W => v = .bool false ∧ Hid (Olt w s m g ga ca gc cc W (plA s.ac.length s.ac) ((plM s.cl.length m.cs).set i ⟨wiC x.c days, x.A, x.cap⟩)) ∧ Hid (Blk W b1 34 (syA s m)))
          case first =>
            cases good with
            | true =>
              obtain rfl : [] = L8 := HL8.out
              go_wp2
              go_meet
              case rel => exact ⟨rfl, HO6, G8⟩
            | false =>
              obtain rfl : [(2, 2000 + (i : Int))] = L8 := HL8.out
              go_wp2_with (go_at_call 13; refine (faults_eq A8 _ c8 _ [(2, 2000 + (i : Int))] _ (by simp) ((HS8.out.below (wa1 _ _)).more (wa1 _ _).size) (seg_of encF_len (Blk.new _ _ _) rfl)).mono ?_; rintro e9 w9 ⟨rfl, hb9⟩)
              go_meet
              case rel => exact ⟨rfl, HO6.out.then_ (below_then (wa1 _ _) hb9), G8.out.then_ (below_then (wa1 _ _) hb9)⟩
          case rest =>
            obtain ⟨rfl, HO, GW⟩ := hcut
            clear HO6 G8 HS8 HL8
            go_upto_region 12 with (first | (refine wpList_row_w (by rfl) 34 _ rfl b1 rfl 34 (syA s m) GW.out ⟨_, Tryd.underlying34⟩ (by kernel_rfl) ?_; simp only [Act.put, List.setIfInBounds_toArray, List.set_cons_succ, List.set_cons_zero]) | (go_at_call 12; (with_reducible refine (HPL.out _ HO.out.B).mono ?_); rintro e w10 ⟨ha, ka, hc, kc, rfl, hb10, hgg, hoA, hoC⟩) | (refine wpList_store_blk rfl 34 _ _ rfl rfl g 34 [] ((syA s (cpM m ga ca gc cc ((plM s.cl.length m.cs).set i ⟨wiC x.c days, x.A, x.cap⟩))).toList) [] (syA s (cpM m ha ka hc kc (plM s.cl.length m.cs))).toList rfl rfl (HO.out.O.then_ hb10) rfl (by kernel_rfl) (by simp [Value.oneCell']) ?_))
            refine name_wp ?_
            intro Z2 hZ
            have HN2 : Hid (Olt w s m g ha ka hc kc Z2 (plA s.ac.length s.ac) (plM s.cl.length m.cs)) := by
              rw [hZ]
              exact olt_store (cs0 := (syA s (cpM m ga ca gc cc ((plM s.cl.length m.cs).set i ⟨wiC x.c days, x.A, x.cap⟩))).toList) HSB.out HO.out.B hb10 hgg.2 HO.out.n.1 HO.out.O rfl hoA hoC
            clear hZ hb10 hoA hoC hgg HO GW HPL
            have c17 : Z2.cell? ⟨g, 17, none⟩ = some (.slice (some ⟨hc, 0, none⟩) s.cl.length kc) := HN2.out.O.cell 17
            have lO := HN2.out.O.lt
            go_upto_region 13 with (refine wpList_store_part rfl 44 _ _ rfl rfl hc (i * 24 + 5) [.int .i64 days, .bool bus, .string ⟨#[]⟩] rfl rfl (HN2.out.C.there encCl_len HN2.out.ly HX.out.1 (by simp)) (by kernel_rfl) (by simp [Value.oneCell']) ?_)
            refine name_wp ?_
            intro Z3 hZ
            have HO5 : Hid (Olt w s m g ha ka hc kc Z3 (plA s.ac.length s.ac) ((plM s.cl.length m.cs).set i ⟨grC x.c days bus, x.A, x.cap⟩)) := by rw [hZ]; exact HN2.out.setC (vs := [.int .i64 days, .bool bus, .string ⟨#[]⟩]) HX.out.1 (by simp) rfl
            clear hZ c17 lO HN2
            have heq := plM_setC HSB.out i ⟨grC x.c days bus, x.A, x.cap⟩
            have gO : Blk Z3 g 34 (syA (s.plc.setC i (grC x.c days bus)) (cpM m ha ka hc kc ((plM s.cl.length m.cs).set i ⟨grC x.c days bus, x.A, x.cap⟩))) := by have h := HO5.out.O; rw [HO5.out.syA, heq] at h; exact h
            have hsm := HO5.out.smb HSB.out (plA_fit HSB.out) (mem_set (plM_fit HSB.out HO5.out.B) i (plM_fit HSB.out HO5.out.B x (List.mem_of_getElem? HX.out.1)))
            rw [heq] at hsm
            have HCK := Lib.hid (check_any (s.plc.setC i (grC x.c days bus)) _ Z3 (H.out.nr.below HO5.out.B) (H.out.tb.below HO5.out.B) hsm)
            have HK1 := Lib.hid (fun hk => spans_grace HLAW.out HX.out.2 (hk : x.c.c.kind = 1) days bus)
            have HK2 := Lib.hid (fun hk => spans_grace_no HLAW.out HX.out.2 (hk : x.c.c.kind ≠ 1) days bus)
            obtain ⟨L8, hL8⟩ : ∃ L, chk (s.plc.setC i (grC x.c days bus)) = L := ⟨_, rfl⟩
            rw [hL8] at HCK HK1 HK2
            clear hsm heq hL8
            go_upto_region 14 with (first | (refine wpList_row_w (by rfl) 34 _ rfl g rfl 34 (syA (s.plc.setC i (grC x.c days bus)) (cpM m ha ka hc kc ((plM s.cl.length m.cs).set i ⟨grC x.c days bus, x.A, x.cap⟩))) gO ⟨_, Tryd.underlying34⟩ (by kernel_rfl) ?_; simp only [Act.put, List.setIfInBounds_toArray, List.set_cons_succ, List.set_cons_zero]) | (go_at_call 11; (with_reducible refine HCK.out.mono ?_); rintro e8 w8 ⟨v8, rfl, hb8, hO8⟩; obtain ⟨A8, c8, rfl, _, hS8⟩ := hO8.seg encF_len; have HS8 := Lib.hid hS8))
            have HO6 := Lib.hid (HO5.out.then_ hb8)
            clear hb8 hO8 hS8 gO HO5 HCK
            have hyy : ((plM s.cl.length m.cs).set i ⟨grC x.c days bus, x.A, x.cap⟩)[i]? = some ⟨grC x.c days bus, x.A, x.cap⟩ := List.getElem?_set_self HIX.out
            have q8 : w8.cell? ⟨hc, i * 24 + 8, none⟩ = some (.int .i64 x.c.c.kind) := (HO6.out.C.getAt encCl_len HO6.out.ly hyy (j := 8) (by omega)).1
            have q3 : w8.cell? ⟨hc, i * 24 + 2 + 1, none⟩ = some (.bool x.c.wi.b) := (HO6.out.C.getAt encCl_len HO6.out.ly hyy (j := 3) (by omega)).1
            have q3' : w8.cell? ⟨hc, i * 24 + 3, none⟩ = some (.bool x.c.wi.b) := q3
            have c17 : w8.cell? ⟨g, 17, none⟩ = some (.slice (some ⟨hc, 0, none⟩) s.cl.length kc) := HO6.out.O.cell 17
            have lO := HO6.out.O.lt
            have HB6 := Lib.hid HO6.out.B
            clear hyy HO6
            by_cases hk : x.c.c.kind = 1
            · have hL := HK1.out hk
              rw [hk] at q8
              clear HK1 HK2 hk
              by_cases hd : days = 0
              · subst hd
                obtain rfl : L8 = [] := hL
                go_wp2
                go_ret
                exact ⟨rfl, HB6.out⟩
              · have d1 : (days == 0) = false := by simpa using hd
                rw [d1, HGD.out] at hL
                have d2 : (days != 0) = true := by simpa using hd
                have d3 : decide (days = 0) = false := decide_eq_false hd
                cases good with
                | false =>
                  obtain rfl : L8 = [(2, 2000 + (i : Int))] := hL
                  go_wp2_with (go_at_call 13; refine (faults_eq A8 _ c8 _ [(2, 2000 + (i : Int))] _ (by simp) ((HS8.out.below (wa1 _ _)).more (wa1 _ _).size) (seg_of encF_len (Blk.new _ _ _) rfl)).mono ?_; rintro e9 w9 ⟨rfl, hb9⟩)
                  go_ret
                  exact ⟨rfl, below_then HB6.out (below_then (wa1 _ _) hb9)⟩
                | true =>
                  cases hb : (bus != x.c.wi.b) with
                  | true =>
                    rw [hb] at hL
                    obtain rfl : L8 = [(10, 2000 + (i : Int))] := hL
                    have hb' : (bus == x.c.wi.b) = false := by simpa using hb
                    go_wp2_with (go_at_call 13; refine (faults_eq A8 _ c8 _ [(10, 2000 + (i : Int))] _ (by simp) ((HS8.out.below (wa1 _ _)).more (wa1 _ _).size) (seg_of encF_len (Blk.new _ _ _) rfl)).mono ?_; rintro e9 w9 ⟨rfl, hb9⟩)
                    go_ret
                    exact ⟨rfl, below_then HB6.out (below_then (wa1 _ _) hb9)⟩
                  | false =>
                    rw [hb] at hL
                    obtain rfl : L8 = [] := hL
                    have hb' : (bus == x.c.wi.b) = true := by simpa using hb
                    go_wp2
                    go_ret
                    exact ⟨rfl, HB6.out⟩
            · have hL := HK2.out hk
              have hk' : (x.c.c.kind == 1) = false := by simpa using hk
              clear HK1 HK2 hk
              by_cases hd : days = 0
              · subst hd
                cases bus with
                | false =>
                  obtain rfl : L8 = [] := hL
                  go_wp2
                  go_ret
                  exact ⟨rfl, HB6.out⟩
                | true =>
                  obtain rfl : L8 = [(1, -1)] := hL
                  go_wp2
                  go_ret
                  exact ⟨rfl, HB6.out⟩
              · have d1 : (days == 0) = false := by simpa using hd
                rw [d1] at hL
                obtain rfl : L8 = [(1, -1)] := hL
                clear hd
                go_wp2
                go_ret
                exact ⟨rfl, HB6.out⟩
end Go.Proofs.YtcfjehohemdanaaDoor
