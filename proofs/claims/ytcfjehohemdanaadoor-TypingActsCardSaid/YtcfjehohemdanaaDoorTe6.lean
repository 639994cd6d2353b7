/- The walk of TypingActs. -/
import Derived.Test.YtcfjehohemdanaaDoorTe3
namespace Go.Proofs.YtcfjehohemdanaaDoor
open Go.RowKit Go.Sort

theorem el7 : ElT Tryd.prog 58 7 := ⟨⟨_, Tryd.underlying58⟩, by kernel_rfl, ⟨.agg #[.int .i64 0, .int .i64 0, .int .i64 0, .int .i64 0, .int .i64 0, .int .i64 0, .int .i64 0], rfl, fun w => by kernel_rfl⟩⟩
theorem el16 : ElT Tryd.prog 49 16 := ⟨⟨_, Tryd.underlying49⟩, by kernel_rfl, ⟨.agg #[.int .i64 0, .int .i64 0, .int .i64 0, .int .i64 0, .slice none 0 0, .int .i64 0, .int .i64 0, .bool false, .bool false, .int .i64 0, .int .i64 0, .int .i64 0, .int .i64 0, .int .i64 0, .int .i64 0, .bool false], rfl, fun w => by kernel_rfl⟩⟩
theorem range_of {w : World} {b o : Nat} {cs : List Value} (h : ∀ j u, cs[j]? = some u → w.cell? ⟨b, o + j, none⟩ = some u) (d : Nat) (vs : List Value) (hv : ∀ j u, vs[j]? = some u → cs[d + j]? = some u) : w.rangeAt b (o + d) vs := fun j v hj => by
  have := h (d + j) v (hv j v hj)
  rwa [← Nat.add_assoc] at this
theorem plA_setA {w : World} {s : Sy} {m : Sm} (hm : Smb w s m) (i : Nat) (y : As) : ({ s with ac := (plA s.ac.length s.ac).set i y, cl := (plM s.cl.length m.cs).map (·.c) } : Sy) = s.plc.setA i y := by
  rw [plM_map, hm.y.e]; rfl
set_option maxRecDepth 100000 in
set_option maxHeartbeats 12800000 in
theorem acts_any (s : Sy) (m : Sm) (raw : Nat) (w : World) (h : Beg w s m) (hr : raw ≤ 255) : Calls Tryd.prog 7 #[.agg (syA s m), .int .u8 raw] w fun e w' => e = .returned (.bool true) ∧ Below w.heap.size w w' := by
  have H := Lib.hid h
  have HH := Lib.hid (fun W (hb : Below w.heap.size w W) => head_any W (h.nr.below hb) (h.tb.below hb))
  have HS := Lib.hid (fun W (hb : Below w.heap.size w W) => small_any s m W (h.sm.then_ hb))
  clear h
  obtain ⟨b, hb⟩ : ∃ b, small s = b := ⟨_, rfl⟩
  rw [hb] at HS
  go_enter Tryd.func7, Tryd.ntmps7
  go_upto_region 1 with (fail)
  refine name_wp ?_
  intro X hX
  have gX : Blk X w.heap.size 34 (syA s m) := by rw [hX]; exact Blk.new _ _ _
  have hbX : Below w.heap.size w X := by rw [hX]; exact wa1 _ _
  have lX := gX.lt
  obtain ⟨b1, e1⟩ : ∃ b, w.heap.size = b := ⟨_, rfl⟩
  rw [e1] at gX ⊢
  have HBX := Lib.hid hbX
  clear hX hbX
  have hz := Below.refl X.heap.size X
  cases b with
  | false =>
    clear hb
    go_wp2_with (first | (refine wpList_row_w (by rfl) 34 _ rfl b1 rfl 34 (syA s m) (by (repeat (first | with_reducible assumption | with_reducible exact Blk.new _ _ _ | with_reducible refine Blk.drew ?_ | with_reducible refine Blk.alloc ?_ _ | with_reducible refine Blk.drewN ?_ _ | with_reducible apply Blk.setT0 | with_reducible apply Blk.setT1 | with_reducible refine Blk.far ?_ (by first | (simp; done) | omega | (simp; omega)) _ | with_reducible refine Blk.then_ ?_ (by with_reducible assumption)))) ⟨_, Tryd.underlying34⟩ (by kernel_rfl) ?_; simp only [Act.put, List.setIfInBounds_toArray, List.set_cons_succ, List.set_cons_zero]) | (go_at_call 9; (with_reducible refine (HH.out _ HBX.out).mono ?_); rintro e w1 ⟨rfl, hb1⟩) | (go_at_call 10; (with_reducible refine (HS.out _ (below_then HBX.out hb1)).mono ?_); rintro e w2 ⟨rfl, hb2⟩))
    go_ret
    exact ⟨rfl, below_then (below_then HBX.out hb1) hb2⟩
  | true =>
    have HSB := Lib.hid (H.out.sm.smb hb)
    have hlc : s.cl.length ≤ 60 ∧ s.ac.length ≤ 70 ∧ s.un.length ≤ 30 := by simp only [small, Bool.and_eq_true, decide_eq_true_eq] at hb; omega
    clear hb
    have HPL := Lib.hid (fun W (hb : Below w.heap.size w W) => placed_any s m W (HSB.out.then_ hb) H.out.nl)
    have HCK := Lib.hid (fun W (hb : Below w.heap.size w W) => check_any s m W (H.out.nr.below hb) (H.out.tb.below hb) (HSB.out.then_ hb))
    obtain ⟨L, hL⟩ : ∃ L, chk s = L := ⟨_, rfl⟩
    rw [hL] at HCK
    cases L with
    | cons f L =>
      have hl : decide (0 < ((f :: L).length : Int)) = true := decide_eq_true (by simp)
      go_wp2_with (first | (refine wpList_row_w (by rfl) 34 _ rfl b1 rfl 34 (syA s m) (by (repeat (first | with_reducible assumption | with_reducible exact Blk.new _ _ _ | with_reducible refine Blk.drew ?_ | with_reducible refine Blk.alloc ?_ _ | with_reducible refine Blk.drewN ?_ _ | with_reducible apply Blk.setT0 | with_reducible apply Blk.setT1 | with_reducible refine Blk.far ?_ (by first | (simp; done) | omega | (simp; omega)) _ | with_reducible refine Blk.then_ ?_ (by with_reducible assumption)))) ⟨_, Tryd.underlying34⟩ (by kernel_rfl) ?_; simp only [Act.put, List.setIfInBounds_toArray, List.set_cons_succ, List.set_cons_zero]) | (go_at_call 9; (with_reducible refine (HH.out _ HBX.out).mono ?_); rintro e w1 ⟨rfl, hb1⟩) | (go_at_call 10; (with_reducible refine (HS.out _ (below_then HBX.out hb1)).mono ?_); rintro e w2 ⟨rfl, hb2⟩) | (go_at_call 11; (with_reducible refine (HCK.out _ (below_then (below_then HBX.out hb1) hb2)).mono ?_); rintro e w4 ⟨v4, rfl, hb4, hO4⟩; obtain ⟨A4, c4, rfl, _, _⟩ := hO4.seg encF_len))
      go_ret
      exact ⟨rfl, below_then (below_then (below_then HBX.out hb1) hb2) hb4⟩
    | nil =>
      have HLAW := Lib.hid hL
      have HFA := Lib.hid (acts_facts hL)
      clear hL
      obtain ⟨hlc1, hla1, hlu1⟩ := hlc
      go_upto_region 4 with (first | (refine wpList_row_w (by rfl) 34 _ rfl b1 rfl 34 (syA s m) (by (repeat (first | with_reducible assumption | with_reducible exact Blk.new _ _ _ | with_reducible refine Blk.drew ?_ | with_reducible refine Blk.alloc ?_ _ | with_reducible refine Blk.drewN ?_ _ | with_reducible apply Blk.setT0 | with_reducible apply Blk.setT1 | with_reducible refine Blk.far ?_ (by first | (simp; done) | omega | (simp; omega)) _ | with_reducible refine Blk.then_ ?_ (by with_reducible assumption)))) ⟨_, Tryd.underlying34⟩ (by kernel_rfl) ?_; simp only [Act.put, List.setIfInBounds_toArray, List.set_cons_succ, List.set_cons_zero]) | (go_at_call 9; (with_reducible refine (HH.out _ HBX.out).mono ?_); rintro e w1 ⟨rfl, hb1⟩) | (go_at_call 10; (with_reducible refine (HS.out _ (below_then HBX.out hb1)).mono ?_); rintro e w2 ⟨rfl, hb2⟩) | (go_at_call 11; (with_reducible refine (HCK.out _ (below_then (below_then HBX.out hb1) hb2)).mono ?_); rintro e w4 ⟨v4, rfl, hb4, hO4⟩; obtain ⟨A4, c4, rfl, _, _⟩ := hO4.seg encF_len))
      refine name_wp ?_
      intro Y hY
      have gY : Blk Y b1 34 (syA s m) := by rw [hY]; exact ((gX.then_ hb1).then_ hb2).then_ hb4
      have GY := Lib.hid gY
      have HBY : Hid (Below w.heap.size w Y) := by rw [hY]; exact below_then (below_then (below_then HBX.out hb1) hb2) hb4
      have HM := Lib.hid (HSB.out.then_ HBY.out)
      clear hY hb1 hb2 hb4 hO4 gX lX hz HS HH HBX gY HCK
      go_upto_region 10 with (fail)
      go_loopw [6, 7] (fun x _ wr => ∃ k : Nat, k ≤ s.ac.length ∧ x = .int .i64 k ∧ Below Y.heap.size Y wr) (fun x _ _ => 2000000 - (intOf x).toNat)
      case atStart => exact ⟨0, by omega, rfl, Below.refl _ _⟩
      case round =>
        obtain ⟨k, hk, rfl, hbr⟩ := hrel
        have HBR := Lib.hid hbr
        have gR := GY.out.then_ hbr
        have lR := gR.lt
        have c16 : wr.cell? ⟨b1, 16, none⟩ = some (.slice m.a s.ac.length m.ac) := gR.cell 16
        have GR := Lib.hid gR
        clear gR
        by_cases hlt : k < s.ac.length
        · obtain ⟨x, hx⟩ : ∃ x, s.ac[k]? = some x := ⟨_, List.getElem?_eq_getElem hlt⟩
          obtain ⟨bA, oA, ea, hbA, hc⟩ := segAs (HM.out.then_ hbr).y.a hx
          have hF := HFA.out.1 x (List.mem_of_getElem? hx)
          rw [ea] at c16
          have hrg := range_of (cs := encAs x) hc 2 [.int .i64 x.a.kind, .int .i64 x.a.role, .int .i64 x.a.give, .int .i64 x.a.to_, .int .i64 x.a.unit, .int .i64 x.a.lot.1, .int .i64 x.a.lot.2] (by intro j u hj; rw [Nat.add_comm]; exact hj)
          clear hx hc hbr
          go_upto_region 8 with (refine wpList_elem 58 el7 _ _ _ rfl rfl rfl rfl rfl rfl rfl rfl rfl bA _ rfl [.int .i64 x.a.kind, .int .i64 x.a.role, .int .i64 x.a.give, .int .i64 x.a.to_, .int .i64 x.a.unit, .int .i64 x.a.lot.1, .int .i64 x.a.lot.2] rfl hrg (by simp [Value.oneCell']) (by decide) (by simp) (by simp) ?_; simp only [Act.put, List.setIfInBounds_toArray, List.set_cons_succ, List.set_cons_zero])
          refine name_wp ?_
          intro V hV
          have gV : Blk V wr.heap.size 58 #[.int .i64 x.a.kind, .int .i64 x.a.role, .int .i64 x.a.give, .int .i64 x.a.to_, .int .i64 x.a.unit, .int .i64 x.a.lot.1, .int .i64 x.a.lot.2] := by rw [hV]; exact Blk.new _ _ _
          have HBV : Hid (Below Y.heap.size Y V) := by rw [hV]; exact below_alloc HBR.out _
          have v0 : V.cell? ⟨wr.heap.size, 0, none⟩ = some (.int .i64 x.a.kind) := gV.cell 0
          have v1 : V.cell? ⟨wr.heap.size, 1, none⟩ = some (.int .i64 x.a.role) := gV.cell 1
          have v4 : V.cell? ⟨wr.heap.size, 4, none⟩ = some (.int .i64 x.a.unit) := gV.cell 4
          obtain ⟨bV, hbv⟩ : ∃ b, wr.heap.size = b := ⟨_, rfl⟩
          rw [hbv] at gV v0 v1 v4 ⊢
          have lV := gV.lt
          clear hV gV hrg hbv c16 lR hbA ea
          by_cases h1 : x.a.role = -1
          · obtain ⟨h2, h3⟩ := hF h1
            have d1 : (x.a.role == -1) = true := by simpa using h1
            have d2 : (x.a.kind == 1) = true := by simpa using h2
            have d3 : (x.a.unit == -1) = true := by simpa using h3
            go_wp2
            go_roundw
            case rel => exact ⟨k + 1, by omega, by go_num, HBV.out⟩
            case measure => simp [intOf]; omega
          · have d1 : (x.a.role == -1) = false := by simpa using h1
            clear hF
            go_wp2
            go_roundw
            case rel => exact ⟨k + 1, by omega, by go_num, HBV.out⟩
            case measure => simp [intOf]; omega
        · obtain rfl : k = s.ac.length := by omega
          clear hlt hk
          go_upto_region 11 with (fail)
          refine name_wp ?_
          intro U hU
          have hbU : Below w.heap.size w U := by rw [hU]; exact below_then HBY.out HBR.out
          have gU : Blk U b1 34 (syA s m) := by rw [hU]; exact GR.out
          have GU := Lib.hid gU
          have HBU := Lib.hid hbU
          have HMU := Lib.hid (HSB.out.then_ hbU)
          clear hU hbU gU HBY GY HBR GR HM c16 lR
          go_upto_region 18 with (fail)
          go_loopw [8, 9] (fun x _ wr => ∃ k : Nat, k ≤ s.cl.length ∧ x = .int .i64 k ∧ Below U.heap.size U wr) (fun x _ _ => 2000000 - (intOf x).toNat)
          case atStart => exact ⟨0, by omega, rfl, Below.refl _ _⟩
          case round =>
            obtain ⟨k, hk, rfl, hbr⟩ := hrel
            have HBR := Lib.hid hbr
            have gR := GU.out.then_ hbr
            have lR := gR.lt
            have c16 : wr.cell? ⟨b1, 16, none⟩ = some (.slice m.a s.ac.length m.ac) := gR.cell 16
            have c17 : wr.cell? ⟨b1, 17, none⟩ = some (.slice m.c s.cl.length m.cc) := gR.cell 17
            have GR := Lib.hid gR
            clear gR
            by_cases hlt : k < s.cl.length
            · have hMR := HMU.out.then_ hbr
              obtain ⟨x, hx⟩ : ∃ x, m.cs[k]? = some x := ⟨_, List.getElem?_eq_getElem (by rw [hMR.len]; exact hlt)⟩
              have hxc := (hMR.cl hx).1
              obtain ⟨bC, oC, ec, hbC, hc⟩ := segCl hMR.y.c hx
              obtain ⟨⟨a1, ha1, hn0, hn1, hrl⟩, hps⟩ := HFA.out.2 x.c (List.mem_of_getElem? hxc)
              obtain ⟨n, hn⟩ := Int.eq_ofNat_of_zero_le hn0
              rw [hn] at ha1 hn1
              have hnl : n < s.ac.length := by omega
              simp only [Int.toNat_natCast] at ha1
              obtain ⟨bA, oA, ea, hbA, hca⟩ := segAs hMR.y.a ha1
              have r1 : wr.cell? ⟨bA, oA + n * 9 + 2 + 1, none⟩ = some (.int .i64 a1.a.role) := hca 3 _ rfl
              have hSA := Lib.hid hMR.y.a
              rw [ea] at c16
              rw [ec] at c17
              have HC := Lib.hid hc
              clear hx hc hbr hMR ec hca hn0 hn1 ha1
              by_cases hp : x.c.c.pause = -1
              · have hrg : wr.rangeAt bC (oC + k * 24 + 8) [.int .i64 x.c.c.kind, .int .i64 x.c.c.role, .int .i64 (n : Int), .int .i64 x.c.c.need, .slice x.A x.c.c.start.length x.cap, .int .i64 x.c.c.aft, .int .i64 x.c.c.grace, .bool x.c.c.bus, .bool x.c.c.fin, .int .i64 (-1), .int .i64 x.c.c.resume, .int .i64 x.c.c.v.1, .int .i64 x.c.c.v.2, .int .i64 x.c.c.unit, .int .i64 x.c.c.to_, .bool x.c.c.waived] := range_of (cs := encCl x) HC.out 8 _ (by rw [← hn, ← hp]; intro j u hj; rw [Nat.add_comm]; exact hj)
                clear hps
                go_upto_region 14 with (refine wpList_elem 49 el16 _ _ _ rfl rfl rfl rfl rfl rfl rfl rfl rfl bC _ rfl [.int .i64 x.c.c.kind, .int .i64 x.c.c.role, .int .i64 (n : Int), .int .i64 x.c.c.need, .slice x.A x.c.c.start.length x.cap, .int .i64 x.c.c.aft, .int .i64 x.c.c.grace, .bool x.c.c.bus, .bool x.c.c.fin, .int .i64 (-1), .int .i64 x.c.c.resume, .int .i64 x.c.c.v.1, .int .i64 x.c.c.v.2, .int .i64 x.c.c.unit, .int .i64 x.c.c.to_, .bool x.c.c.waived] rfl hrg (by simp [Value.oneCell']) (by decide) (by simp) (by simp) ?_; simp only [Act.put, List.setIfInBounds_toArray, List.set_cons_succ, List.set_cons_zero])
                refine name_wp ?_
                intro V hV
                have gV : Blk V wr.heap.size 49 #[.int .i64 x.c.c.kind, .int .i64 x.c.c.role, .int .i64 (n : Int), .int .i64 x.c.c.need, .slice x.A x.c.c.start.length x.cap, .int .i64 x.c.c.aft, .int .i64 x.c.c.grace, .bool x.c.c.bus, .bool x.c.c.fin, .int .i64 (-1), .int .i64 x.c.c.resume, .int .i64 x.c.c.v.1, .int .i64 x.c.c.v.2, .int .i64 x.c.c.unit, .int .i64 x.c.c.to_, .bool x.c.c.waived] := by rw [hV]; exact Blk.new _ _ _
                have hbV : Below wr.heap.size wr V := by rw [hV]; exact wa1 _ _
                have HBV : Hid (Below U.heap.size U V) := by rw [hV]; exact below_alloc HBR.out _
                have v0 : V.cell? ⟨wr.heap.size, 0, none⟩ = some (.int .i64 x.c.c.kind) := gV.cell 0
                have v2 : V.cell? ⟨wr.heap.size, 2, none⟩ = some (.int .i64 (n : Int)) := gV.cell 2
                have v9 : V.cell? ⟨wr.heap.size, 9, none⟩ = some (.int .i64 (-1)) := gV.cell 9
                have v10 : V.cell? ⟨wr.heap.size, 10, none⟩ = some (.int .i64 x.c.c.resume) := gV.cell 10
                have z16 := (hbV.cell (p := ⟨b1, 16, none⟩) lR).trans c16
                have zr1 := (hbV.cell (p := ⟨bA, _, none⟩) hbA).trans r1
                have lV1 : b1 < V.heap.size := Nat.lt_of_lt_of_le lR hbV.size
                have lVA : bA < V.heap.size := Nat.lt_of_lt_of_le hbA hbV.size
                obtain ⟨bV, hbv⟩ : ∃ b, wr.heap.size = b := ⟨_, rfl⟩
                rw [hbv] at gV v0 v2 v9 v10 ⊢
                have lV := gV.lt
                clear hV gV hrg hbv c16 c17 lR hbV hn ea r1 hp
                by_cases hk4 : x.c.c.kind = 4
                · have d1 : (x.c.c.kind == 4) = true := by simpa using hk4
                  clear hrl
                  go_wp2
                  go_roundw
                  case rel => exact ⟨k + 1, by omega, by go_num, HBV.out⟩
                  case measure => simp [intOf]; omega
                · have d1 : (x.c.c.kind == 4) = false := by simpa using hk4
                  have d2 : (a1.a.role == -1) = false := by have := hrl hk4; simpa using this
                  go_wp2
                  go_roundw
                  case rel => exact ⟨k + 1, by omega, by go_num, HBV.out⟩
                  case measure => simp [intOf]; omega
              · obtain ⟨hne, ⟨hp0, hp1, hq0, hq1⟩, a2, a3, ha2, ha3, hr2, hr3⟩ := hps hp
                obtain ⟨p1, hp1'⟩ := Int.eq_ofNat_of_zero_le hp0
                obtain ⟨q1, hq1'⟩ := Int.eq_ofNat_of_zero_le hq0
                rw [hp1', hq1'] at hne
                rw [hp1'] at ha2 hp1
                rw [hq1'] at ha3 hq1
                have hpl : p1 < s.ac.length := by omega
                have hql : q1 < s.ac.length := by omega
                have hpq : p1 ≠ q1 := fun e => hne (by rw [e])
                simp only [Int.toNat_natCast] at ha2 ha3
                obtain ⟨bB, oB, eb, _, hcb⟩ := segAs hSA.out ha2
                rw [ea] at eb
                cases eb
                obtain ⟨bB, oB, eb, _, hcd⟩ := segAs hSA.out ha3
                rw [ea] at eb
                cases eb
                have r2 : wr.cell? ⟨bA, oA + p1 * 9 + 2 + 1, none⟩ = some (.int .i64 (-1)) := by rw [← hr2]; exact hcb 3 _ rfl
                have r3 : wr.cell? ⟨bA, oA + q1 * 9 + 2 + 1, none⟩ = some (.int .i64 (-1)) := by rw [← hr3]; exact hcd 3 _ rfl
                have d5 : ((p1 : Int) == -1) = false := by simp
                have d6 : ((p1 : Int) == (q1 : Int)) = false := by simp; omega
                have hrg : wr.rangeAt bC (oC + k * 24 + 8) [.int .i64 x.c.c.kind, .int .i64 x.c.c.role, .int .i64 (n : Int), .int .i64 x.c.c.need, .slice x.A x.c.c.start.length x.cap, .int .i64 x.c.c.aft, .int .i64 x.c.c.grace, .bool x.c.c.bus, .bool x.c.c.fin, .int .i64 (p1 : Int), .int .i64 (q1 : Int), .int .i64 x.c.c.v.1, .int .i64 x.c.c.v.2, .int .i64 x.c.c.unit, .int .i64 x.c.c.to_, .bool x.c.c.waived] := range_of (cs := encCl x) HC.out 8 _ (by rw [← hn, ← hp1', ← hq1']; intro j u hj; rw [Nat.add_comm]; exact hj)
                clear hps hne hp0 hp1 hq0 hq1 ha2 ha3 hr2 hr3 hcb hcd hp hp1' hq1'
                go_upto_region 14 with (refine wpList_elem 49 el16 _ _ _ rfl rfl rfl rfl rfl rfl rfl rfl rfl bC _ rfl [.int .i64 x.c.c.kind, .int .i64 x.c.c.role, .int .i64 (n : Int), .int .i64 x.c.c.need, .slice x.A x.c.c.start.length x.cap, .int .i64 x.c.c.aft, .int .i64 x.c.c.grace, .bool x.c.c.bus, .bool x.c.c.fin, .int .i64 (p1 : Int), .int .i64 (q1 : Int), .int .i64 x.c.c.v.1, .int .i64 x.c.c.v.2, .int .i64 x.c.c.unit, .int .i64 x.c.c.to_, .bool x.c.c.waived] rfl hrg (by simp [Value.oneCell']) (by decide) (by simp) (by simp) ?_; simp only [Act.put, List.setIfInBounds_toArray, List.set_cons_succ, List.set_cons_zero])
                refine name_wp ?_
                intro V hV
                have gV : Blk V wr.heap.size 49 #[.int .i64 x.c.c.kind, .int .i64 x.c.c.role, .int .i64 (n : Int), .int .i64 x.c.c.need, .slice x.A x.c.c.start.length x.cap, .int .i64 x.c.c.aft, .int .i64 x.c.c.grace, .bool x.c.c.bus, .bool x.c.c.fin, .int .i64 (p1 : Int), .int .i64 (q1 : Int), .int .i64 x.c.c.v.1, .int .i64 x.c.c.v.2, .int .i64 x.c.c.unit, .int .i64 x.c.c.to_, .bool x.c.c.waived] := by rw [hV]; exact Blk.new _ _ _
                have hbV : Below wr.heap.size wr V := by rw [hV]; exact wa1 _ _
                have HBV : Hid (Below U.heap.size U V) := by rw [hV]; exact below_alloc HBR.out _
                have v0 : V.cell? ⟨wr.heap.size, 0, none⟩ = some (.int .i64 x.c.c.kind) := gV.cell 0
                have v2 : V.cell? ⟨wr.heap.size, 2, none⟩ = some (.int .i64 (n : Int)) := gV.cell 2
                have v9 : V.cell? ⟨wr.heap.size, 9, none⟩ = some (.int .i64 (p1 : Int)) := gV.cell 9
                have v10 : V.cell? ⟨wr.heap.size, 10, none⟩ = some (.int .i64 (q1 : Int)) := gV.cell 10
                have z16 := (hbV.cell (p := ⟨b1, 16, none⟩) lR).trans c16
                have zr1 := (hbV.cell (p := ⟨bA, _, none⟩) hbA).trans r1
                have zr2 := (hbV.cell (p := ⟨bA, _, none⟩) hbA).trans r2
                have zr3 := (hbV.cell (p := ⟨bA, _, none⟩) hbA).trans r3
                have lV1 : b1 < V.heap.size := Nat.lt_of_lt_of_le lR hbV.size
                have lVA : bA < V.heap.size := Nat.lt_of_lt_of_le hbA hbV.size
                obtain ⟨bV, hbv⟩ : ∃ b, wr.heap.size = b := ⟨_, rfl⟩
                rw [hbv] at gV v0 v2 v9 v10 ⊢
                have lV := gV.lt
                clear hV gV hrg hbv c16 c17 lR hbV hn ea r1 r2 r3
                by_cases hk4 : x.c.c.kind = 4
                · have d1 : (x.c.c.kind == 4) = true := by simpa using hk4
                  clear hrl
                  go_wp2
                  go_roundw
                  case rel => exact ⟨k + 1, by omega, by go_num, HBV.out⟩
                  case measure => simp [intOf]; omega
                · have d1 : (x.c.c.kind == 4) = false := by simpa using hk4
                  have d2 : (a1.a.role == -1) = false := by have := hrl hk4; simpa using this
                  go_wp2
                  go_roundw
                  case rel => exact ⟨k + 1, by omega, by go_num, HBV.out⟩
                  case measure => simp [intOf]; omega
            · obtain rfl : k = s.cl.length := by omega
              clear hlt hk
              have HBW := Lib.hid (below_then HBU.out hbr)
              have c15 : wr.cell? ⟨b1, 15, none⟩ = some (.slice m.u s.un.length m.uc) := GR.out.cell 15
              have gR := GR.out
              have hbR := HBW.out
              clear hbr HBR HFA
              by_cases ha0 : s.ac.length = 0
              · have d1 : ((s.ac.length : Int) == 0) = true := by simpa using ha0
                clear ha0
                go_wp2
                go_ret
                exact ⟨rfl, HBW.out⟩
              · have d1 : ((s.ac.length : Int) == 0) = false := by simpa using ha0
                by_cases hu0 : s.un.length = 0
                · have d2 : ((s.un.length : Int) == 0) = true := by simpa using hu0
                  clear hu0
                  go_wp2
                  go_ret
                  exact ⟨rfl, HBW.out⟩
                · have d2 : ((s.un.length : Int) == 0) = false := by simpa using hu0
                  go_upto_region 21 with (first | (refine wpList_row_w (by rfl) 34 _ rfl b1 rfl 34 (syA s m) gR ⟨_, Tryd.underlying34⟩ (by kernel_rfl) ?_; simp only [Act.put, List.setIfInBounds_toArray, List.set_cons_succ, List.set_cons_zero]) | (go_at_call 12; (with_reducible refine (HPL.out _ hbR).mono ?_); rintro e w3 ⟨ga, ca, gc, cc, rfl, hb3, hgg, hoA, hoC⟩) | (refine wpList_new 34 el18 _ _ rfl rfl rfl rfl rfl rfl _ rfl (by simp [Value.oneCell']) (by simp) rfl ?_; simp only [Act.put, List.setIfInBounds_toArray, List.set_cons_succ, List.set_cons_zero]))
                  refine name_wp ?_
                  intro Z hZ
                  have hO : Olt w s m w3.heap.size ga ca gc cc Z (plA s.ac.length s.ac) (plM s.cl.length m.cs) := by rw [hZ]; exact olt_new HSB.out HBW.out hb3 hgg.2 hoA hoC
                  obtain ⟨g, hg⟩ : ∃ g, w3.heap.size = g := ⟨_, rfl⟩
                  rw [hg] at hO ⊢
                  have HO := Lib.hid hO
                  have lO := hO.O.lt
                  clear c16 c15
                  have c16 : Z.cell? ⟨g, 16, none⟩ = some (.slice (some ⟨ga, 0, none⟩) s.ac.length ca) := hO.O.cell 16
                  have hne : (s.ac.length : Int) ≠ 0 := by omega
                  clear hZ hg hO hb3 hoA hoC hgg d1 d2 HPL gR hbR HBW GR lR HBU GU HMU
                  go_upto_region 22 with (fail)
                  obtain ⟨i, hi⟩ : ∃ i, raw % s.ac.length = i := ⟨_, rfl⟩
                  have hil : i < s.ac.length := by rw [← hi]; exact Nat.mod_lt _ (by omega)
                  rw [← Int.natCast_emod, hi]
                  clear hne hi hr ha0
                  obtain ⟨x, hx⟩ : ∃ x, (plA s.ac.length s.ac)[i]? = some x := ⟨_, List.getElem?_eq_getElem (by rw [HO.out.lx]; exact hil)⟩
                  have HX := Lib.hid hx
                  have HIX : Hid (i < (plA s.ac.length s.ac).length) := by unfold Hid; rw [HO.out.lx]; exact hil
                  have q3 : Z.cell? ⟨ga, i * 9 + 2 + 1, none⟩ = some (.int .i64 x.a.role) := (HO.out.A.getAt encAs_len HO.out.lx hx (j := 3) (by omega)).1
                  have q3' : Z.cell? ⟨ga, i * 9 + 3, none⟩ = some (.int .i64 x.a.role) := q3
                  clear hx
                  by_cases hrl : x.a.role = -1
                  · have d1 : (x.a.role == -1) = true := by simpa using hrl
                    have HLW := Lib.hid (acts_law HLAW.out HX.out hrl (by omega))
                    go_upto_region 24 with (fail)
                    clear q3 q3' d1 hrl
                    obtain ⟨q6, f6⟩ := HO.out.A.getAt encAs_len HO.out.lx HX.out (j := 6) (by omega)
                    have q6' : Z.cell? ⟨ga, i * 9 + 2 + 4, none⟩ = some (.int .i64 x.a.unit) := q6
                    have f6' : Z.frozen? ⟨ga, i * 9 + 2 + 4, none⟩ = false := f6
                    have q6'' : Z.cell? ⟨ga, i * 9 + 6, none⟩ = some (.int .i64 x.a.unit) := q6
                    clear q6
                    go_upto_region 25 with (fail)
                    refine name_wp ?_
                    intro Z1 hZ
                    have HO1 : Hid (Olt w s m g ga ca gc cc Z1 ((plA s.ac.length s.ac).set i { x with a := { x.a with unit := 0 } }) (plM s.cl.length m.cs)) := by rw [hZ]; exact HO.out.setA (j := 6) (vs := [.int .i64 0]) HX.out (by simp) rfl
                    clear hZ q6' q6'' f6 f6' lO c16 HO
                    have HX1 : Hid (((plA s.ac.length s.ac).set i { x with a := { x.a with unit := 0 } })[i]? = some { x with a := { x.a with unit := 0 } }) := List.getElem?_set_self HIX.out
                    have c16 : Z1.cell? ⟨g, 16, none⟩ = some (.slice (some ⟨ga, 0, none⟩) s.ac.length ca) := HO1.out.O.cell 16
                    have lO := HO1.out.O.lt
                    have hth : Z1.there ga (i * 9 + 7) 2 := HO1.out.A.there encAs_len HO1.out.lx HX1.out (j := 7) (by simp)
                    have hth2 : Z1.there ga (i * 9 + 2 + 5) 2 := hth
                    go_upto_region 26 with (first | (refine wpList_store_part rfl 47 _ _ rfl rfl ga (i * 9 + 2 + 5) [.int .i64 1, .int .i64 1] rfl rfl hth2 (by kernel_rfl) (by simp [Value.oneCell']) ?_) | (refine wpList_store_part rfl 47 _ _ rfl rfl ga (i * 9 + 7) [.int .i64 1, .int .i64 1] rfl rfl hth (by kernel_rfl) (by simp [Value.oneCell']) ?_))
                    clear hth hth2
                    refine name_wp ?_
                    intro Z2 hZ
                    have HO2 : Hid (Olt w s m g ga ca gc cc Z2 ((plA s.ac.length s.ac).set i (mvA x)) (plM s.cl.length m.cs)) := by
                      have h := HO1.out.setA (j := 7) (y := mvA x) (vs := [.int .i64 1, .int .i64 1]) HX1.out (by simp) rfl
                      rw [List.set_set] at h
                      rw [hZ]; exact h
                    clear hZ c16 lO HO1 HX1
                    have heq := plA_setA HSB.out i (mvA x)
                    have gO : Blk Z2 g 34 (syA (s.plc.setA i (mvA x)) (cpM m ga ca gc cc (plM s.cl.length m.cs))) := by have h := HO2.out.O; rw [HO2.out.syA, heq] at h; exact h
                    have hsm := HO2.out.smb HSB.out (mem_set (plA_fit HSB.out) i (by simp [mvA, b64])) (plM_fit HSB.out HO2.out.B)
                    rw [heq] at hsm
                    have HCK2 := Lib.hid (check_any (s.plc.setA i (mvA x)) _ Z2 (H.out.nr.below HO2.out.B) (H.out.tb.below HO2.out.B) hsm)
                    rw [HLW.out] at HCK2
                    clear hsm heq
                    go_wp2_with (first | (refine wpList_row_w (by rfl) 34 _ rfl g rfl 34 (syA (s.plc.setA i (mvA x)) (cpM m ga ca gc cc (plM s.cl.length m.cs))) gO ⟨_, Tryd.underlying34⟩ (by kernel_rfl) ?_; simp only [Act.put, List.setIfInBounds_toArray, List.set_cons_succ, List.set_cons_zero]) | (go_at_call 11; (with_reducible refine HCK2.out.mono ?_); rintro e8 w8 ⟨v8, rfl, hb8, hO8⟩; obtain ⟨A8, c8, rfl, _, hS8⟩ := hO8.seg encF_len; have HS8 := Lib.hid hS8) | (go_at_call 13; refine (faults_eq A8 _ c8 _ [(10, 1000 + (i : Int))] _ (by simp) ((HS8.out.below (wa1 _ _)).more (wa1 _ _).size) (seg_of encF_len (Blk.new _ _ _) rfl)).mono ?_; rintro e9 w9 ⟨rfl, hb9⟩))
                    go_ret
                    exact ⟨rfl, below_then HO2.out.B (below_then hb8 (below_then (wa1 _ _) hb9))⟩
                  · have d1 : (x.a.role == -1) = false := by simpa using hrl
                    have HB0 := Lib.hid HO.out.B
                    go_wp2
                    go_ret
                    exact ⟨rfl, HB0.out⟩
end Go.Proofs.YtcfjehohemdanaaDoor
