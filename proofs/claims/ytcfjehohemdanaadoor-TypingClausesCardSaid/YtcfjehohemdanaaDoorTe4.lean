/- The walk of TypingClauses. -/
import Derived.Test.YtcfjehohemdanaaDoorTe3
namespace Go.Proofs.YtcfjehohemdanaaDoor
open Go.RowKit Go.Sort

set_option maxRecDepth 100000 in
set_option maxHeartbeats 6400000 in
theorem clauses_any (s : Sy) (m : Sm) (raw : Nat) (w : World) (h : Beg w s m) (hr : raw ≤ 255) : Calls Tryd.prog 4 #[.agg (syA s m), .int .u8 raw] w fun e w' => e = .returned (.bool true) ∧ Below w.heap.size w w' := by
  have H := Lib.hid h
  have HH := Lib.hid (fun W (hb : Below w.heap.size w W) => head_any W (h.nr.below hb) (h.tb.below hb))
  have HS := Lib.hid (fun W (hb : Below w.heap.size w W) => small_any s m W (h.sm.then_ hb))
  clear h
  obtain ⟨b, hb⟩ : ∃ b, small s = b := ⟨_, rfl⟩
  rw [hb] at HS
  go_enter Tryd.func4, Tryd.ntmps4
  go_upto_region 1 with (fail)
  refine name_wp ?_
  intro X hX
  have gX : Blk X w.heap.size 34 (syA s m) := by rw [hX]; exact Blk.new _ _ _
  have hbX : Below w.heap.size w X := by rw [hX]; exact wa1 _ _
  have lX := gX.lt
  obtain ⟨b1, e1⟩ : ∃ b, w.heap.size = b := ⟨_, rfl⟩
  rw [e1] at gX ⊢
  have HBX := Lib.hid hbX
  clear hX hbX
  have hz := Below.refl X.heap.size X
  cases b with
  | false =>
    clear hb
    go_wp2_with (first | (refine wpList_row_w (by rfl) 34 _ rfl b1 rfl 34 (syA s m) (by (repeat (first | with_reducible assumption | with_reducible exact Blk.new _ _ _ | with_reducible refine Blk.drew ?_ | with_reducible refine Blk.alloc ?_ _ | with_reducible refine Blk.drewN ?_ _ | with_reducible apply Blk.setT0 | with_reducible apply Blk.setT1 | with_reducible refine Blk.far ?_ (by first | (simp; done) | omega | (simp; omega)) _ | with_reducible refine Blk.then_ ?_ (by with_reducible assumption)))) ⟨_, Tryd.underlying34⟩ (by kernel_rfl) ?_; simp only [Act.put, List.setIfInBounds_toArray, List.set_cons_succ, List.set_cons_zero]) | (go_at_call 9; (with_reducible refine (HH.out _ HBX.out).mono ?_); rintro e w1 ⟨rfl, hb1⟩) | (go_at_call 10; (with_reducible refine (HS.out _ (below_then HBX.out hb1)).mono ?_); rintro e w2 ⟨rfl, hb2⟩))
    go_ret
    exact ⟨rfl, below_then (below_then HBX.out hb1) hb2⟩
  | true =>
    have HSB := Lib.hid (H.out.sm.smb hb)
    have hlc : s.cl.length ≤ 60 ∧ s.ac.length ≤ 70 := by simp only [small, Bool.and_eq_true, decide_eq_true_eq] at hb; omega
    clear hb
    have HPL := Lib.hid (fun W (hb : Below w.heap.size w W) => placed_any s m W (HSB.out.then_ hb) H.out.nl)
    by_cases hc0 : s.cl.length = 0
    · have d1 : ((s.cl.length : Int) == 0) = true := by simpa using hc0
      go_wp2_with (first | (refine wpList_row_w (by rfl) 34 _ rfl b1 rfl 34 (syA s m) (by (repeat (first | with_reducible assumption | with_reducible exact Blk.new _ _ _ | with_reducible refine Blk.drew ?_ | with_reducible refine Blk.alloc ?_ _ | with_reducible refine Blk.drewN ?_ _ | with_reducible apply Blk.setT0 | with_reducible apply Blk.setT1 | with_reducible refine Blk.far ?_ (by first | (simp; done) | omega | (simp; omega)) _ | with_reducible refine Blk.then_ ?_ (by with_reducible assumption)))) ⟨_, Tryd.underlying34⟩ (by kernel_rfl) ?_; simp only [Act.put, List.setIfInBounds_toArray, List.set_cons_succ, List.set_cons_zero]) | (go_at_call 9; (with_reducible refine (HH.out _ HBX.out).mono ?_); rintro e w1 ⟨rfl, hb1⟩) | (go_at_call 10; (with_reducible refine (HS.out _ (below_then HBX.out hb1)).mono ?_); rintro e w2 ⟨rfl, hb2⟩; have g2 := (gX.then_ hb1).then_ hb2; have c17 : w2.cell? ⟨b1, 17, none⟩ = some (.slice m.c s.cl.length m.cc) := g2.cell 17; have c16 : w2.cell? ⟨b1, 16, none⟩ = some (.slice m.a s.ac.length m.ac) := g2.cell 16; have l2 := g2.lt))
      go_ret
      exact ⟨rfl, below_then (below_then HBX.out hb1) hb2⟩
    · have d1 : ((s.cl.length : Int) == 0) = false := by simpa using hc0
      by_cases ha0 : s.ac.length = 0
      · have d2 : ((s.ac.length : Int) == 0) = true := by simpa using ha0
        go_wp2_with (first | (refine wpList_row_w (by rfl) 34 _ rfl b1 rfl 34 (syA s m) (by (repeat (first | with_reducible assumption | with_reducible exact Blk.new _ _ _ | with_reducible refine Blk.drew ?_ | with_reducible refine Blk.alloc ?_ _ | with_reducible refine Blk.drewN ?_ _ | with_reducible apply Blk.setT0 | with_reducible apply Blk.setT1 | with_reducible refine Blk.far ?_ (by first | (simp; done) | omega | (simp; omega)) _ | with_reducible refine Blk.then_ ?_ (by with_reducible assumption)))) ⟨_, Tryd.underlying34⟩ (by kernel_rfl) ?_; simp only [Act.put, List.setIfInBounds_toArray, List.set_cons_succ, List.set_cons_zero]) | (go_at_call 9; (with_reducible refine (HH.out _ HBX.out).mono ?_); rintro e w1 ⟨rfl, hb1⟩) | (go_at_call 10; (with_reducible refine (HS.out _ (below_then HBX.out hb1)).mono ?_); rintro e w2 ⟨rfl, hb2⟩; have g2 := (gX.then_ hb1).then_ hb2; have c17 : w2.cell? ⟨b1, 17, none⟩ = some (.slice m.c s.cl.length m.cc) := g2.cell 17; have c16 : w2.cell? ⟨b1, 16, none⟩ = some (.slice m.a s.ac.length m.ac) := g2.cell 16; have l2 := g2.lt))
        go_ret
        exact ⟨rfl, below_then (below_then HBX.out hb1) hb2⟩
      · have d2 : ((s.ac.length : Int) == 0) = false := by simpa using ha0
        go_upto_region 5 with (first | (refine wpList_row_w (by rfl) 34 _ rfl b1 rfl 34 (syA s m) (by (repeat (first | with_reducible assumption | with_reducible exact Blk.new _ _ _ | with_reducible refine Blk.drew ?_ | with_reducible refine Blk.alloc ?_ _ | with_reducible refine Blk.drewN ?_ _ | with_reducible apply Blk.setT0 | with_reducible apply Blk.setT1 | with_reducible refine Blk.far ?_ (by first | (simp; done) | omega | (simp; omega)) _ | with_reducible refine Blk.then_ ?_ (by with_reducible assumption)))) ⟨_, Tryd.underlying34⟩ (by kernel_rfl) ?_; simp only [Act.put, List.setIfInBounds_toArray, List.set_cons_succ, List.set_cons_zero]) | (go_at_call 9; (with_reducible refine (HH.out _ HBX.out).mono ?_); rintro e w1 ⟨rfl, hb1⟩) | (go_at_call 10; (with_reducible refine (HS.out _ (below_then HBX.out hb1)).mono ?_); rintro e w2 ⟨rfl, hb2⟩; have g2 := (gX.then_ hb1).then_ hb2; have c17 : w2.cell? ⟨b1, 17, none⟩ = some (.slice m.c s.cl.length m.cc) := g2.cell 17; have c16 : w2.cell? ⟨b1, 16, none⟩ = some (.slice m.a s.ac.length m.ac) := g2.cell 16; have l2 := g2.lt) | (go_at_call 12; (with_reducible refine (HPL.out _ (below_then (below_then HBX.out hb1) hb2)).mono ?_); rintro e w3 ⟨ga, ca, gc, cc, rfl, hb3, hgg, hoA, hoC⟩) | (refine wpList_new 34 el18 _ _ rfl rfl rfl rfl rfl rfl _ rfl (by simp [Value.oneCell']) (by simp) rfl ?_; simp only [Act.put, List.setIfInBounds_toArray, List.set_cons_succ, List.set_cons_zero]))
        refine name_wp ?_
        intro Y hY
        have hO : Olt w s m w3.heap.size ga ca gc cc Y (plA s.ac.length s.ac) (plM s.cl.length m.cs) := by rw [hY]; exact olt_new HSB.out (below_then (below_then HBX.out hb1) hb2) hb3 hgg.2 hoA hoC
        obtain ⟨g, hg⟩ : ∃ g, w3.heap.size = g := ⟨_, rfl⟩
        rw [hg] at hO ⊢
        have HO := Lib.hid hO
        have hb4 : Below w3.heap.size w3 Y := by rw [hY]; exact wa1 _ _
        have gY := ((g2.then_ hb3).then_ hb4)
        have lY := gY.lt
        clear c17 c16
        have c17 : Y.cell? ⟨b1, 17, none⟩ = some (.slice m.c s.cl.length m.cc) := gY.cell 17
        obtain ⟨hlc1, hla1⟩ := hlc
        have hne : (s.cl.length : Int) ≠ 0 := by omega
        clear hY hg hO hb1 hb2 hb3 hb4 hoA hoC hgg g2 l2 gX lX hz d1 d2 HPL HS HH HBX gY
        go_upto_region 6 with (fail)
        obtain ⟨i, hi⟩ : ∃ i, raw % s.cl.length = i := ⟨_, rfl⟩
        have hil : i < s.cl.length := by rw [← hi]; exact Nat.mod_lt _ (by omega)
        rw [← Int.natCast_emod, hi]
        clear hne hi c17 lY hr hc0
        obtain ⟨x, hx⟩ : ∃ x, (plM s.cl.length m.cs)[i]? = some x := ⟨_, List.getElem?_eq_getElem (by rw [HO.out.ly]; exact hil)⟩
        have hxc : s.plc.cl[i]? = some x.c := by
          rw [show s.plc.cl = (plM s.cl.length m.cs).map (·.c) by rw [plM_map, HSB.out.y.e]; rfl, List.getElem?_map, hx]; rfl
        have hfit := plM_fit HSB.out HO.out.B
        have hsm := HO.out.smb HSB.out (plA_fit HSB.out) hfit
        rw [plc_eq HSB.out] at hsm
        have gO : Blk Y g 34 (syA s.plc (cpM m ga ca gc cc (plM s.cl.length m.cs))) := by rw [← placed_syA]; exact HO.out.O
        have HCK := Lib.hid (check_any s.plc _ Y (H.out.nr.below HO.out.B) (H.out.tb.below HO.out.B) hsm)
        have HLAW := Lib.hid (fun hw => clauses_law (s := s) (i := i) (c := x.c) hw (by omega) hxc)
        have HNO := Lib.hid (fun h => chk_no (s := s.plc) h)
        have hll := chk_len s.plc
        obtain ⟨L, hL⟩ : ∃ L, chk s.plc = L := ⟨_, rfl⟩
        rw [hL] at HCK HLAW HNO hll
        have HX := Lib.hid (And.intro hx hxc)
        clear hL hx hxc hsm hfit
        go_upto_region 7 with (first | (refine wpList_row_w (by rfl) 34 _ rfl g rfl 34 (syA s.plc (cpM m ga ca gc cc (plM s.cl.length m.cs))) gO ⟨_, Tryd.underlying34⟩ (by kernel_rfl) ?_; simp only [Act.put, List.setIfInBounds_toArray, List.set_cons_succ, List.set_cons_zero]) | (go_at_call 11; (with_reducible refine HCK.out.mono ?_); rintro e w4 ⟨v4, rfl, hb4, hO4⟩; obtain ⟨A4, c4, rfl, _, hS4⟩ := hO4.seg encF_len))
        have HO4 := Lib.hid (HO.out.then_ hb4)
        have HS4 := Lib.hid hS4
        have HOL := Lib.hid hO4
        have HNE := Lib.hid (hO4.ne_ HO.out.C.lt_.2)
        clear hb4 hO4 gO HO HCK
        by_cases hq : ∃ f L', L = f :: L' ∧ f.1 = 1
        · obtain ⟨f, L', rfl, hf⟩ := hq
          obtain ⟨bl, ol, ea, hbl, q0, _⟩ := segF (k := 0) HS4.out rfl
          rw [ea]
          rw [hf] at q0
          simp only [Nat.zero_mul, Nat.add_zero] at q0
          have d1 : decide (0 < ((f :: L').length : Int)) = true := decide_eq_true (by simp)
          have d2 : 0 < (f :: L').length := by simp
          clear ea HS4
          go_wp2
          go_ret
          exact ⟨rfl, HO4.out.B⟩
        · have hw : wfS s.plc = true := by
            cases h : wfS s.plc with
            | true => rfl
            | false => exact absurd ⟨_, _, HNO.out h, rfl⟩ hq
          have HLW := Lib.hid (HLAW.out hw)
          have HXX : Hid ((plM s.cl.length m.cs)[i]? = some x) := HX.out.1
          have HIX : Hid (i < (plM s.cl.length m.cs).length) := by unfold Hid; rw [HO4.out.ly]; exact hil
          cases L with
          | nil => ?_
          | cons f L' => ?_
          case' nil =>
            go_upto_region 9 with (fail)
          case' cons =>
            obtain ⟨bl, ol, ea, hbl, q0, _⟩ := segF (k := 0) HS4.out rfl
            have ea2 := ea
            rw [ea]
            simp only [Nat.zero_mul, Nat.add_zero] at q0
            have d1 : decide (0 < ((f :: L').length : Int)) = true := decide_eq_true (by simp)
            have d2 : 0 < (f :: L').length := by simp
            have d3 : (f.1 == 1) = false := by
              rw [beq_eq_false_iff_ne]; intro h; exact hq ⟨_, _, rfl, h⟩
            go_upto_region 9 with (fail)
            rw [← ea2]
            clear ea ea2 q0 d1 d2 d3 hbl
          all_goals (
            clear hq HNO HLAW hw
            skip
            have c17 : w4.cell? ⟨g, 17, none⟩ = some (.slice (some ⟨gc, 0, none⟩) s.cl.length cc) := HO4.out.O.cell 17
            have lO := HO4.out.O.lt
            go_upto_region 10 with (refine wpList_store_part rfl 44 _ _ rfl rfl gc (i * 24 + 2) [.int .i64 1, .bool false, .string ⟨#[]⟩] rfl rfl (HO4.out.C.there encCl_len HO4.out.ly HXX.out (by decide)) (by kernel_rfl) (by simp [Value.oneCell']) ?_)
            refine name_wp ?_
            intro Z1 hZ1
            have h := own_setCells (g := gc) HNE.out [.int .i64 1, .bool false, .string ⟨#[]⟩] (i * 24 + 2) w4 HOL.out
            rw [← hZ1] at h
            have HL1 := Lib.hid h
            clear h
            have HO5 : Hid (Olt w s m g ga ca gc cc Z1 (plA s.ac.length s.ac) ((plM s.cl.length m.cs).set i ⟨{ x.c with wi := ⟨1, false, ⟨#[]⟩⟩ }, x.A, x.cap⟩)) := by rw [hZ1]; exact HO4.out.setC (vs := [.int .i64 1, .bool false, .string ⟨#[]⟩]) HXX.out (by decide) rfl
            clear hZ1 c17 lO
            have HX1 : Hid (((plM s.cl.length m.cs).set i ⟨{ x.c with wi := ⟨1, false, ⟨#[]⟩⟩ }, x.A, x.cap⟩)[i]? = some ⟨{ x.c with wi := ⟨1, false, ⟨#[]⟩⟩ }, x.A, x.cap⟩) := by unfold Hid; rw [List.getElem?_set_self HIX.out]
            have c17 : Z1.cell? ⟨g, 17, none⟩ = some (.slice (some ⟨gc, 0, none⟩) s.cl.length cc) := HO5.out.O.cell 17
            have lO := HO5.out.O.lt
            go_upto_region 11 with (refine wpList_store_part rfl 44 _ _ rfl rfl gc (i * 24 + 5) [.int .i64 0, .bool false, .string ⟨#[]⟩] rfl rfl (HO5.out.C.there encCl_len HO5.out.ly HX1.out (by decide)) (by kernel_rfl) (by simp [Value.oneCell']) ?_)
            refine name_wp ?_
            intro Z2 hZ2
            have h := own_setCells (g := gc) HNE.out [.int .i64 0, .bool false, .string ⟨#[]⟩] (i * 24 + 5) Z1 HL1.out
            rw [← hZ2] at h
            have HL2 := Lib.hid h
            clear h HL1
            have HO6 : Hid (Olt w s m g ga ca gc cc Z2 (plA s.ac.length s.ac) (((plM s.cl.length m.cs).set i ⟨{ x.c with wi := ⟨1, false, ⟨#[]⟩⟩ }, x.A, x.cap⟩).set i ⟨{ x.c with wi := ⟨1, false, ⟨#[]⟩⟩, gr := ⟨0, false, ⟨#[]⟩⟩ }, x.A, x.cap⟩)) := by rw [hZ2]; exact HO5.out.setC (vs := [.int .i64 0, .bool false, .string ⟨#[]⟩]) HX1.out (by decide) rfl
            clear hZ2 c17 lO
            have HO7 : Hid (Olt w s m g ga ca gc cc Z2 (plA s.ac.length s.ac) ((plM s.cl.length m.cs).set i ⟨{ x.c with wi := ⟨1, false, ⟨#[]⟩⟩, gr := ⟨0, false, ⟨#[]⟩⟩ }, x.A, x.cap⟩)) := by have h := HO6.out; rw [List.set_set] at h; exact h
            have HX2 : Hid (((plM s.cl.length m.cs).set i ⟨{ x.c with wi := ⟨1, false, ⟨#[]⟩⟩, gr := ⟨0, false, ⟨#[]⟩⟩ }, x.A, x.cap⟩)[i]? = some ⟨{ x.c with wi := ⟨1, false, ⟨#[]⟩⟩, gr := ⟨0, false, ⟨#[]⟩⟩ }, x.A, x.cap⟩) := by unfold Hid; rw [List.getElem?_set_self HIX.out]
            clear HO5 HX1 HO6
            have c17 : Z2.cell? ⟨g, 17, none⟩ = some (.slice (some ⟨gc, 0, none⟩) s.cl.length cc) := HO7.out.O.cell 17
            have lO := HO7.out.O.lt
            go_upto_region 12 with (refine wpList_store_part rfl 49 _ _ rfl rfl gc (i * 24 + 8) [.int .i64 4, .int .i64 (-1), .int .i64 0, .int .i64 1, .slice none 0 0, .int .i64 0, .int .i64 0, .bool false, .bool false, .int .i64 (-1), .int .i64 (-1), .int .i64 0, .int .i64 1, .int .i64 (-1), .int .i64 (-1), .bool false] rfl rfl (HO7.out.C.there encCl_len HO7.out.ly HX2.out (by decide)) (by kernel_rfl) (by simp [Value.oneCell']) ?_)
            refine name_wp ?_
            intro Z3 hZ3
            have h := own_setCells (g := gc) HNE.out [.int .i64 4, .int .i64 (-1), .int .i64 0, .int .i64 1, .slice none 0 0, .int .i64 0, .int .i64 0, .bool false, .bool false, .int .i64 (-1), .int .i64 (-1), .int .i64 0, .int .i64 1, .int .i64 (-1), .int .i64 (-1), .bool false] (i * 24 + 8) Z2 HL2.out
            rw [← hZ3] at h
            have HL3 := Lib.hid h
            clear h HL2
            have HO8 : Hid (Olt w s m g ga ca gc cc Z3 (plA s.ac.length s.ac) (((plM s.cl.length m.cs).set i ⟨{ x.c with wi := ⟨1, false, ⟨#[]⟩⟩, gr := ⟨0, false, ⟨#[]⟩⟩ }, x.A, x.cap⟩).set i ⟨wtc x.c, none, 0⟩)) := by rw [hZ3]; exact HO7.out.setC (vs := [.int .i64 4, .int .i64 (-1), .int .i64 0, .int .i64 1, .slice none 0 0, .int .i64 0, .int .i64 0, .bool false, .bool false, .int .i64 (-1), .int .i64 (-1), .int .i64 0, .int .i64 1, .int .i64 (-1), .int .i64 (-1), .bool false]) HX2.out (by decide) rfl
            clear hZ3 c17 lO
            have HO9 : Hid (Olt w s m g ga ca gc cc Z3 (plA s.ac.length s.ac) ((plM s.cl.length m.cs).set i ⟨wtc x.c, none, 0⟩)) := by have h := HO8.out; rw [List.set_set] at h; exact h
            clear HO7 HX2 HO8
            have HS5 := Lib.hid (HL3.out.segA encF_len)
            have heq : ({ s with ac := plA s.ac.length s.ac, cl := ((plM s.cl.length m.cs).set i ⟨wtc x.c, none, 0⟩).map (·.c) } : Sy) = s.plc.setC i (wtc x.c) := by rw [List.map_set, plM_map, HSB.out.y.e]; rfl
            have gO : Blk Z3 g 34 (syA (s.plc.setC i (wtc x.c)) (cpM m ga ca gc cc ((plM s.cl.length m.cs).set i ⟨wtc x.c, none, 0⟩))) := by have h := HO9.out.O; rw [HO9.out.syA, heq] at h; exact h
            have hsm := HO9.out.smb HSB.out (plA_fit HSB.out) (mem_set (plM_fit HSB.out HO9.out.B) i ⟨Seg.nil _ _ _ _ _, by simp [wtc], by simp [wtc, b64], by simp [wtc, b64]⟩)
            rw [heq] at hsm
            have HCK := Lib.hid (check_any (s.plc.setC i (wtc x.c)) _ Z3 (H.out.nr.below HO9.out.B) (H.out.tb.below HO9.out.B) hsm)
            rw [HLW.out] at HCK
            clear hsm heq HL3
            go_wp2_with (first | (refine wpList_row_w (by rfl) 34 _ rfl g rfl 34 (syA (s.plc.setC i (wtc x.c)) (cpM m ga ca gc cc ((plM s.cl.length m.cs).set i ⟨wtc x.c, none, 0⟩))) gO ⟨_, Tryd.underlying34⟩ (by kernel_rfl) ?_; simp only [Act.put, List.setIfInBounds_toArray, List.set_cons_succ, List.set_cons_zero]) | (go_at_call 11; (with_reducible refine HCK.out.mono ?_); rintro e8 w8 ⟨v8, rfl, hb8, hO8⟩; obtain ⟨A8, c8, rfl, _, hS8⟩ := hO8.seg encF_len) | (go_at_call 14; refine (without_any A4 c4 _ (2000 + i) w8 (by omega) ((HS5.out.below hb8).more hb8.size)).mono ?_; rintro e9 w9 ⟨v9, rfl, hb9, hO9⟩; obtain ⟨A9, c9, rfl, _, hS9⟩ := hO9.seg encF_len) | (go_at_call 13; refine (faults_eq A8 A9 c8 c9 _ w9 (by refine Nat.le_trans (wout_len _ _) ?_; omega) ((hS8.below hb9).more hb9.size) hS9).mono ?_; rintro e10 w10 ⟨rfl, hb10⟩))
            go_ret
            exact ⟨rfl, below_then (below_then (below_then HO9.out.B hb8) hb9) hb10⟩)
end Go.Proofs.YtcfjehohemdanaaDoor
