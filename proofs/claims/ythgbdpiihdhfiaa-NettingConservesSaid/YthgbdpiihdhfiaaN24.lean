/- The walk of NettingConserves: the positions add up to 0, and what is netted keeps them. -/
import Derived.Test.YthgbdpiihdhfiaaN19
import Derived.Test.YthgbdpiihdhfiaaQa
namespace Go.Proofs.Ythgbdpiihdhfiaa
open Go.RowKit Go.Sort

/-- the running sum: exact, or given up -/
def SumS (qs : List Rat) (k : Nat) (ex : Bool) (n d : Int) : Prop := (ex = true ∧ ∃ s : Rat, s = rs (at0 qs) k ∧ inR s = true ∧ s.num = n ∧ (s.den : Int) = d) ∨ (ex = false ∧ n = 0 ∧ d = 0)
theorem SumS.step {qs : List Rat} {k : Nat} {ex : Bool} {n d : Int} (h : SumS qs k ex n d) (hk : k < qs.length) (hq : ∀ q ∈ qs, inR q = true) : ∃ n' d' e' : Int, ((ex = true ∧ e' = 0) ∨ (ex = true ∧ (e' == 0) = false) ∨ ex = false) ∧ SumS qs (k + 1) (ex && (e' == 0)) n' d' ∧
    ∀ W, Calls Try.prog 20 #[.agg #[.int .i64 n, .int .i64 d], .agg #[.int .i64 (at0 qs k).num, .int .i64 (at0 qs k).den]] W fun e w' => e = .returned (.tuple #[.agg #[.int .i64 n', .int .i64 d'], .int .i64 e']) ∧ Below W.heap.size W w' := by
  have hin := hq _ (at0_mem hk)
  rcases h with ⟨rfl, s, hs, is, rfl, rfl⟩ | ⟨rfl, rfl, rfl⟩
  · refine ⟨_, _, _, ?_, ?_, fun W => add_any s (at0 qs k) W is hin⟩
    · cases hr : inR (s + at0 qs k) with
      | true => exact .inl ⟨rfl, oE_yes hr⟩
      | false => exact .inr (.inl ⟨rfl, by rw [oE_no hr]; rfl⟩)
    · cases hr : inR (s + at0 qs k) with
      | true =>
        rw [oE_yes hr, oN_yes hr, oD_yes hr]
        exact .inl ⟨rfl, _, by rw [rs, hs], hr, rfl, rfl⟩
      | false =>
        rw [oE_no hr, oN_no hr, oD_no hr]
        exact .inr ⟨rfl, rfl, rfl⟩
  · exact ⟨0, 0, 1, .inr (.inr rfl), .inr ⟨rfl, rfl, rfl⟩, fun W => add_bad 0 0 _ _ W (by decide) (by omega) (by omega)⟩
theorem SumS.last {qs : List Rat} {ex : Bool} {n d : Int} (h : SumS qs qs.length ex n d) (h0 : rs (at0 qs) qs.length = 0) : ex = false ∨ (ex = true ∧ n = 0) := by
  rcases h with ⟨rfl, s, hs, _, rfl, _⟩ | ⟨rfl, _, _⟩
  · right; exact ⟨rfl, by rw [hs, h0]; rfl⟩
  · left; rfl
theorem cons_cases {p : Int} {l : List Db} (h : posE p l = 0) :
    ((ntE p l = 0 ∧ validD p (ntL p l) = true ∧ posE p (ntL p l) = 0 ∧ posL p (ntL p l) = posL p l) ∨ (ntE p l = 0 ∧ validD p (ntL p l) = true ∧ posE p (ntL p l) = 2) ∨ ntE p l = 2) ∧
    ((prE p l = 0 ∧ validD p (prL p l) = true ∧ posE p (prL p l) = 0 ∧ posL p (prL p l) = posL p l) ∨ (prE p l = 0 ∧ validD p (prL p l) = true ∧ posE p (prL p l) = 2) ∨ prE p l = 2) := by
  obtain ⟨h1, h2, _⟩ := net_codes h
  constructor
  · rcases h1 with h1 | h1
    · obtain ⟨_, hv, hk⟩ := keep_net h1
      rcases hk with hk | ⟨hk, hk'⟩
      · exact .inr (.inl ⟨h1, hv, hk⟩)
      · exact .inl ⟨h1, hv, hk, hk'⟩
    · exact .inr (.inr h1)
  · rcases h2 with h2 | h2
    · obtain ⟨hv, hk⟩ := keep_pr h2 h
      rcases hk with hk | ⟨hk, hk'⟩
      · exact .inr (.inl ⟨h2, hv, hk⟩)
      · exact .inl ⟨h2, hv, hk, hk'⟩
    · exact .inr (.inr h2)

set_option maxRecDepth 100000 in
set_option maxHeartbeats 6400000 in
theorem conserves_any {p : Int} {l : List Db} (h : Args p l) (A : Option Addr) (c : Nat) (w : World) (hm : Seg w w.heap.size 4 encD A l) :
    Calls Try.prog 4 #[.int .i64 p, .slice A l.length c] w fun e w' => e = .returned (.bool true) ∧ Below w.heap.size w w' := by
  have hlen := h.len
  by_cases hl : l.length ≤ 400
  · have R1 := fun W (hW : Below w.heap.size w W) => positions_got h A c W (seg_of hm hW)
    by_cases hz : posE p l = 0
    · have R2 := fun W (hW : Below w.heap.size w W) => net_got h A c W (seg_of hm hW)
      have R3 := fun W (hW : Below w.heap.size w W) => pairs_got h A c W (seg_of hm hW)
      have R4 := fun A' c' W hs => positions_got (args_nt h) A' c' W hs
      have R5 := fun A' c' W hs => positions_got (args_pr h) A' c' W hs
      have V1 := fun A' c' W hs => nvalid_any p A' c' (ntL p l) W h.p1 h.p2 (args_nt h).len (args_nt h).fit hs
      have V2 := fun A' c' W hs => nvalid_any p A' c' (prL p l) W h.p1 h.p2 (args_pr h).len (args_pr h).fit hs
      have g1 := posL_len p l
      have g2 := prL_len p l
      have g3 := ntL_len p l
      obtain ⟨_, _, hpl, hsum, hin⟩ := net_codes hz
      have HC := Lib.hid (cons_cases hz)
      simp only [hz] at R1
      have HS0 := Lib.hid hsum
      have HI := Lib.hid hin
      have hpl' : (((posL p l).length : Int) != p) = false := by simpa using hpl
      clear hm h hz hsum hin hpl
      have H1 := Lib.hid R1
      clear R1
      have HR2 := Lib.hid R2
      have HR3 := Lib.hid R3
      have HR4 := Lib.hid R4
      have HR5 := Lib.hid R5
      have HV1 := Lib.hid V1
      have HV2 := Lib.hid V2
      clear R2 R3 R4 R5 V1 V2
      generalize posL p l = qs at *
      go_enter Try.func4, Try.ntmps4
      go_upto_region 8 with (first | (go_at_call 9; refine (head_any _).mono ?_; rintro e w0 ⟨rfl, b0⟩) | (go_at_call 10; refine (H1.out _ (by (repeat (first | with_reducible assumption | with_reducible exact Below.refl _ _ | with_reducible refine below_drewN ?_ _ | with_reducible refine Below.drew ?_ | with_reducible refine below_alloc ?_ _ | with_reducible refine Below.setCell ?_ (by first | omega | (simp; done) | (simp; omega)) _ | with_reducible refine below_then ?_ (by with_reducible assumption) | (refine below_then (a := World.drew _) ?_ (by with_reducible assumption)))))).mono ?_; rintro e v1 ⟨⟨A1, c1, rfl, S1⟩, b1⟩))
      have HB1 := Lib.hid (show Below w.heap.size w v1 by (repeat (first | with_reducible assumption | with_reducible exact Below.refl _ _ | with_reducible refine below_drewN ?_ _ | with_reducible refine Below.drew ?_ | with_reducible refine below_alloc ?_ _ | with_reducible refine Below.setCell ?_ (by first | omega | (simp; done) | (simp; omega)) _ | with_reducible refine below_then ?_ (by with_reducible assumption) | (refine below_then (a := World.drew _) ?_ (by with_reducible assumption)))))
      have T1 := Lib.hid S1
      refine name_wp ?_
      intro W1 hW1
      have B1 : Below v1.heap.size v1 W1 := by rw [hW1]; (repeat (first | with_reducible assumption | with_reducible exact Below.refl _ _ | with_reducible refine below_drewN ?_ _ | with_reducible refine Below.drew ?_ | with_reducible refine below_alloc ?_ _ | with_reducible refine Below.setCell ?_ (by first | omega | (simp; done) | (simp; omega)) _ | with_reducible refine below_then ?_ (by with_reducible assumption) | (refine below_then (a := World.drew _) ?_ (by with_reducible assumption))))
      have K1 : Blk W1 v1.heap.size 34 #[.int .i64 0, .int .i64 1] := by rw [hW1]; exact Blk.new _ _ _
      clear hW1 S1 H1 b0 b1
      go_wp2_with fail
      go_loopw [9, 10] (fun x i wr => ∃ (k : Nat) (ex : Bool) (n d : Int), k ≤ qs.length ∧ i = .int .i64 k ∧ x = .bool ex ∧ Hid (SumS qs k ex n d) ∧ Blk wr v1.heap.size 34 #[.int .i64 n, .int .i64 d] ∧ Below v1.heap.size v1 wr) (fun _ i _ => qs.length - (intOf i).toNat)
      case atStart => exact ⟨0, true, 0, 1, by omega, rfl, rfl, .inl ⟨rfl, 0, rfl, by decide, rfl, rfl⟩, K1, B1⟩
      case round =>
        clear K1 B1
        obtain ⟨k, ex, n, d, hk, rfl, rfl, hS, hK, hB⟩ := hrel
        by_cases hlt : k < qs.length
        · obtain ⟨n', d', e', hc, hN, hA⟩ := hS.out.step hlt HI.out
          obtain ⟨b, off, rfl, hb, q0, q1⟩ := segR (seg_of T1.out hB) (at0_some hlt)
          obtain ⟨k0, k1, k2, k3⟩ := hK.two
          have HN := Lib.hid hN
          have HA := Lib.hid hA
          have hkl := hK.lt
          have hwl := hB.size
          clear hN hA
          generalize at0 qs k = x at *
          have i0 : (0 : Int) ≤ (k : Int) := by omega
          have i1 : (k : Int) < (qs.length : Int) := by omega
          go_wp2_with fail
          refine wp_region_qa (T := 34) (zs := #[.int .i64 0, .int .i64 0]) [0, 1, 2, 3, 4, 5, 6] [7, 8] [10, 11] 9 11 (by kernel_rfl) (by kernel_rfl) (by repeat (first | with_reducible refine panOk_then ?_ | with_reducible refine panOk_block ?_ | exact panOk_body)) (fun _ _ => by rfl) ?_
          apply Exists.intro
          refine ⟨?_, ?_⟩
          · intro S gS hGS
            haveI := hGS.2.2
            have rg0 := cell_cls hGS q0
            have rg1 := cell_cls hGS q1
            have rg2 := cell_cls hGS k0
            have rg3 := cell_cls hGS k1
            unfold cls
            simp only [opsAt, List.getElem?_toArray, List.getElem?_cons_succ, List.getElem?_cons_zero, Option.toList_some, List.cons_append, List.nil_append]
            repeat (go_big_quiet_step ((go_at_call 20; exact qa_call hGS (fun W' _ => HA.out W') _)))
            refine wpQuiet_nil ?_
            exact rfl
          intro la we hla hbwe gla
          simp only [opsAt, List.getElem?_toArray, List.getElem?_cons_succ, List.getElem?_cons_zero, Option.toList_some, List.cons_append, List.nil_append, Act.put, List.setIfInBounds_toArray, List.set_cons_succ, List.set_cons_zero]
          obtain ⟨y0, y1, y2, y3⟩ := gla.two
          have hKe := hK.then_ hbwe
          obtain ⟨m0, m1, m2, m3⟩ := hKe.two
          have hne : v1.heap.size < la := by omega
          have hBe := below_then hB hbwe
          have hll : la < we.heap.size := gla.lt
          have hsz : v1.heap.size < we.heap.size := by omega
          clear hK hB q0 q1 k0 k1 k2 k3 HA hbwe
          have HM : Hid (SumS qs (k + 1) (ex && (e' == 0)) n' d' ∧ Blk we v1.heap.size 34 #[.int .i64 n, .int .i64 d] ∧ Blk we la 34 #[.int .i64 0, .int .i64 0]) := ⟨HN.out, hKe, gla⟩
          clear HN hKe gla
          rcases hc with ⟨rfl, rfl⟩ | ⟨rfl, he⟩ | rfl
          all_goals
            go_wp2_with fail
            go_roundw
            case rel => exact ⟨k + 1, _, n', d', by omega, by go_num, rfl, by have := HM.out.1; first | exact this | (rw [he] at this; exact this), ((HM.out.2.1.box (by omega)).boxed), below_box (below_box hBe (by omega)) (by omega)⟩
            case measure => simp [intOf]; omega
        · obtain rfl : k = qs.length := by omega
          have hlast := hS.out.last HS0.out
          obtain ⟨k0, k1, _, _⟩ := hK.two
          have HK := Lib.hid hK
          have hvl := hK.lt
          have HBW := Lib.hid hB
          clear hlt hk hS hB hK
          generalize hms : ntL p l = ms at *
          generalize hys : prL p l = ys at *
          clear hms hys
          have HC' := HC.out
          obtain ⟨cN, cP⟩ := HC'
          clear HC
          rcases cN with ⟨n1, n2, n3, n4⟩ | ⟨n1, n2, n3⟩ | n1 <;> rcases cP with ⟨p1, p2, p3, p4⟩ | ⟨p1, p2, p3⟩ | p1 <;> rcases hlast with rfl | ⟨rfl, rfl⟩
          all_goals
            have R2 := HR2.out
            have R3 := HR3.out
            have R4 := HR4.out
            have R5 := HR5.out
            have V1 := HV1.out
            have V2 := HV2.out
            simp only [n1] at R2
            simp only [p1] at R3
            try simp only [n2] at V1
            try simp only [p2] at V2
            try simp only [n3] at R4
            try simp only [n4] at R4
            try simp only [p3] at R5
            try simp only [p4] at R5
            generalize ntE p l = En at *
            generalize prE p l = Ep at *
            generalize posE p ms = Fn at *
            generalize posE p ys = Fp at *
            clear HR2 HR3 HR4 HR5 HV1 HV2 n1 p1
            try clear n2
            try clear n3
            try clear n4
            try clear p2
            try clear p3
            try clear p4
            have X2 := Lib.hid R2
            have X3 := Lib.hid R3
            have X4 := Lib.hid R4
            have X5 := Lib.hid R5
            have Y1 := Lib.hid V1
            have Y2 := Lib.hid V2
            clear R2 R3 R4 R5 V1 V2
            go_upto_region 19 with (first | (go_at_call 14; refine (X2.out _ (by exact below_then HB1.out HBW.out)).mono ?_; rintro e u1 ⟨⟨A2, c2, rfl, S2⟩, q1⟩) | (go_at_call 12; refine (X3.out _ (by exact below_then HB1.out (below_then HBW.out q1))).mono ?_; rintro e u2 ⟨⟨A3, c3, rfl, S3⟩, q2⟩) | (go_at_call_of 10 (Value.slice A2 ms.length c2); refine (X4.out _ _ _ (by exact seg_of S2 (by (repeat (first | with_reducible assumption | with_reducible exact Below.refl _ _ | with_reducible refine below_drewN ?_ _ | with_reducible refine Below.drew ?_ | with_reducible refine below_alloc ?_ _ | with_reducible refine Below.setCell ?_ (by first | omega | (simp; done) | (simp; omega)) _ | with_reducible refine below_then ?_ (by with_reducible assumption) | (refine below_then (a := World.drew _) ?_ (by with_reducible assumption))))))).mono ?_; rintro e u3 ⟨⟨A4, c4, rfl, S4⟩, q3⟩) | (go_at_call_of 10 (Value.slice A3 ys.length c3); refine (X5.out _ _ _ (by exact seg_of S3 (by (repeat (first | with_reducible assumption | with_reducible exact Below.refl _ _ | with_reducible refine below_drewN ?_ _ | with_reducible refine Below.drew ?_ | with_reducible refine below_alloc ?_ _ | with_reducible refine Below.setCell ?_ (by first | omega | (simp; done) | (simp; omega)) _ | with_reducible refine below_then ?_ (by with_reducible assumption) | (refine below_then (a := World.drew _) ?_ (by with_reducible assumption))))))).mono ?_; rintro e u4 ⟨⟨A5, c5, rfl, S5⟩, q4⟩))
            obtain ⟨f0, f1, _, _⟩ := ((((HK.out.then_ q1).then_ q2).then_ q3).then_ q4).two
            go_wp2_with (first | (go_at_call_of 16 (Value.slice A2 ms.length c2); refine (Y1.out _ _ _ (by exact seg_of S2 (by (repeat (first | with_reducible assumption | with_reducible exact Below.refl _ _ | with_reducible refine below_drewN ?_ _ | with_reducible refine Below.drew ?_ | with_reducible refine below_alloc ?_ _ | with_reducible refine Below.setCell ?_ (by first | omega | (simp; done) | (simp; omega)) _ | with_reducible refine below_then ?_ (by with_reducible assumption) | (refine below_then (a := World.drew _) ?_ (by with_reducible assumption))))))).mono ?_; rintro e u5 ⟨rfl, q5⟩) | (go_at_call_of 16 (Value.slice A3 ys.length c3); refine (Y2.out _ _ _ (by exact seg_of S3 (by (repeat (first | with_reducible assumption | with_reducible exact Below.refl _ _ | with_reducible refine below_drewN ?_ _ | with_reducible refine Below.drew ?_ | with_reducible refine below_alloc ?_ _ | with_reducible refine Below.setCell ?_ (by first | omega | (simp; done) | (simp; omega)) _ | with_reducible refine below_then ?_ (by with_reducible assumption) | (refine below_then (a := World.drew _) ?_ (by with_reducible assumption))))))).mono ?_; rintro e u6 ⟨rfl, q6⟩) | (go_at_call 18; first | (with_reducible refine (ratios_eq A1 A4 _ _ qs _ (by omega) (by exact seg_of T1.out (by exact below_then HBW.out (by (repeat (first | with_reducible assumption | with_reducible exact Below.refl _ _ | with_reducible refine below_drewN ?_ _ | with_reducible refine Below.drew ?_ | with_reducible refine below_alloc ?_ _ | with_reducible refine Below.setCell ?_ (by first | omega | (simp; done) | (simp; omega)) _ | with_reducible refine below_then ?_ (by with_reducible assumption) | (refine below_then (a := World.drew _) ?_ (by with_reducible assumption))))))) (by exact seg_of S4 (by (repeat (first | with_reducible assumption | with_reducible exact Below.refl _ _ | with_reducible refine below_drewN ?_ _ | with_reducible refine Below.drew ?_ | with_reducible refine below_alloc ?_ _ | with_reducible refine Below.setCell ?_ (by first | omega | (simp; done) | (simp; omega)) _ | with_reducible refine below_then ?_ (by with_reducible assumption) | (refine below_then (a := World.drew _) ?_ (by with_reducible assumption))))))).mono ?_; rintro e u7 ⟨rfl, q7⟩) | (with_reducible refine (ratios_eq A1 A5 _ _ qs _ (by omega) (by exact seg_of T1.out (by exact below_then HBW.out (by (repeat (first | with_reducible assumption | with_reducible exact Below.refl _ _ | with_reducible refine below_drewN ?_ _ | with_reducible refine Below.drew ?_ | with_reducible refine below_alloc ?_ _ | with_reducible refine Below.setCell ?_ (by first | omega | (simp; done) | (simp; omega)) _ | with_reducible refine below_then ?_ (by with_reducible assumption) | (refine below_then (a := World.drew _) ?_ (by with_reducible assumption))))))) (by exact seg_of S5 (by (repeat (first | with_reducible assumption | with_reducible exact Below.refl _ _ | with_reducible refine below_drewN ?_ _ | with_reducible refine Below.drew ?_ | with_reducible refine below_alloc ?_ _ | with_reducible refine Below.setCell ?_ (by first | omega | (simp; done) | (simp; omega)) _ | with_reducible refine below_then ?_ (by with_reducible assumption) | (refine below_then (a := World.drew _) ?_ (by with_reducible assumption))))))).mono ?_; rintro e u8 ⟨rfl, q8⟩)))
            go_ret
            exact ⟨rfl, below_then HB1.out (below_then HBW.out (by (repeat (first | with_reducible assumption | with_reducible exact Below.refl _ _ | with_reducible refine below_drewN ?_ _ | with_reducible refine Below.drew ?_ | with_reducible refine below_alloc ?_ _ | with_reducible refine Below.setCell ?_ (by first | omega | (simp; done) | (simp; omega)) _ | with_reducible refine below_then ?_ (by with_reducible assumption) | (refine below_then (a := World.drew _) ?_ (by with_reducible assumption))))))⟩
    · have hnil := pos_bad hz
      simp only [hnil] at R1
      have H1 := Lib.hid R1
      have hz' : (posE p l != 0) = true := by simpa using hz
      clear R1 hm h hnil hz
      generalize posE p l = E at *
      go_enter Try.func4, Try.ntmps4
      go_wp2_with (first | (go_at_call 9; refine (head_any _).mono ?_; rintro e w0 ⟨rfl, b0⟩) | (go_at_call 10; refine (H1.out _ (by (repeat (first | with_reducible assumption | with_reducible exact Below.refl _ _ | with_reducible refine below_drewN ?_ _ | with_reducible refine Below.drew ?_ | with_reducible refine below_alloc ?_ _ | with_reducible refine Below.setCell ?_ (by first | omega | (simp; done) | (simp; omega)) _ | with_reducible refine below_then ?_ (by with_reducible assumption) | (refine below_then (a := World.drew _) ?_ (by with_reducible assumption)))))).mono ?_; rintro e v1 ⟨⟨A1, c1, rfl, S1⟩, b1⟩))
      go_ret
      exact ⟨rfl, by (repeat (first | with_reducible assumption | with_reducible exact Below.refl _ _ | with_reducible refine below_drewN ?_ _ | with_reducible refine Below.drew ?_ | with_reducible refine below_alloc ?_ _ | with_reducible refine Below.setCell ?_ (by first | omega | (simp; done) | (simp; omega)) _ | with_reducible refine below_then ?_ (by with_reducible assumption) | (refine below_then (a := World.drew _) ?_ (by with_reducible assumption))))⟩
  · go_enter Try.func4, Try.ntmps4
    go_wp2_with (go_at_call 9; refine (head_any _).mono ?_; rintro e w0 ⟨rfl, b0⟩)
    go_ret
    exact ⟨rfl, b0⟩
end Go.Proofs.Ythgbdpiihdhfiaa
