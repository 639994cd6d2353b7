/- The walk of TopPaired: true at every portfolio. -/
import Derived.Test.YteoicnhnpailiaaCp2
import Derived.Test.YteoicnhnpailiaaOpC
namespace Go.Proofs.Yteoicnhnpailiaa
open Go.RowKit Go.Sort Go.Maps

theorem fp_few {p : Pf} (hl : Lp p) (hn : -9223372036854775808 ≤ p.n ∧ p.n ≤ 9223372036854775807) (ha : ∀ a ∈ p.as, fitA a) (hd : ∀ x ∈ p.du, fitD x) (hla : ∀ x ∈ p.la, fitD x) {k : Nat} (hk : k ≤ 400) (hf : fewP p k = true) : Fp p := by
  have h := of_decide_eq_true hf
  exact ⟨hn, ha, hd, hla, by omega, by omega, by omega, by omega, by omega⟩
abbrev msN (m : Ms) (A : Option Addr) (c : Nat) : Ms := ⟨m.a1, m.c1, A, c, m.a3, m.c3, m.a4, m.c4, m.a5, m.c5⟩
/-- what Positions gives, whatever it is -/
theorem pos_some {o : Option (List Rat)} {w w' : World} {e : Ending} (h : PosP o w w' e) : ∃ v z, e = .returned (.tuple #[v, .int .i64 z]) := by
  cases o with
  | none => exact ⟨_, _, h⟩
  | some qs => obtain ⟨v, h, _⟩ := h; exact ⟨_, _, h⟩
def DfO (p : Pf) (w w' : World) (v : Value) (z : Int) : Prop := (z = 0 ∧ ∃ K, SpOk p K ∧ GotB w.heap.size w' (outD p K) v) ∨ z = 2
theorem dfo_any (p : Pf) (m : Ms) (w : World) (hv : VP p) (hm : Pm w p m) :
    Calls Try.prog 13 #[.agg (pfA p m)] w fun e w' => (∃ v z, e = .returned (.tuple #[v, .int .i64 z]) ∧ DfO p w w' v z) ∧ Below w.heap.size w w' := by
  refine (defaults_any p m w (vp_fp hv) hm).mono ?_
  rintro e w' ⟨⟨h, _⟩ | ⟨_, K', h, he⟩ | ⟨_, K', v, h, he, hg⟩, hb⟩
  · rw [vldP_mk hv] at h; cases h
  · exact ⟨⟨_, _, he, .inr rfl⟩, hb⟩
  · exact ⟨⟨_, _, he, .inl ⟨rfl, K', h, hg⟩⟩, hb⟩
set_option maxRecDepth 100000 in
set_option maxHeartbeats 3200000 in
theorem paired_any (p : Pf) (m : Ms) (w : World) (hm : Pm w p m) (hl : Lp p) (hn : -9223372036854775808 ≤ p.n ∧ p.n ≤ 9223372036854775807) (ha : ∀ a ∈ p.as, fitA a) (hd : ∀ x ∈ p.du, fitD x) (hla : ∀ x ∈ p.la, fitD x) :
    Calls Try.prog 10 #[.agg (pfA p m)] w fun e w' => e = .returned (.bool true) ∧ Below w.heap.size w w' := by
  have HM := Lib.hid hm
  have HFP := Lib.hid (fun hf => fp_few hl hn ha hd hla (k := 40) (by omega) hf)
  have HFW : Hid (∀ W : World, Calls Try.prog 12 #[.agg (pfA p m), .int .i64 40] W fun e w' => e = .returned (.bool (fewP p 40)) ∧ Below W.heap.size W w') := fun W => few_any p m 40 W (by omega) hl
  clear hm hl hn ha hd hla
  go_enter Try.func10, Try.ntmps10
  go_upto_region 1 with (fail)
  refine name_wp ?_
  intro X hX
  have gP0 : Blk X w.heap.size 27 (pfA p m) := by rw [hX]; exact Blk.new _ _ _
  have hbX : Below w.heap.size w X := by rw [hX]; exact wa1 _ _
  obtain ⟨bP, e0⟩ : ∃ b, w.heap.size = b := ⟨_, rfl⟩
  rw [e0] at gP0 ⊢
  have GP0 := Lib.hid gP0
  have HX := Lib.hid hbX
  clear hX gP0 hbX e0
  go_upto_region 2 with (go_at_call 23; (with_reducible refine (saved_any _).mono ?_); rintro e w1 ⟨rfl, hk⟩)
  have GP := Lib.hid (GP0.out.then_ hk)
  have HB1 := Lib.hid (below_then HX.out hk)
  clear hk GP0 HX
  obtain ⟨k0, k1, k2, k3, k4, k5⟩ := pfCells GP.out
  rcases hbb (fewP p 40) with hf | hf
  · have HF := Lib.hid (HFP.out hf)
    have HCV := Lib.hid (fun W (hW : Below w1.heap.size w1 W) => cvalid_any p m W HF.out ((HM.out.then_ HB1.out).then_ hW))
    rcases hbb (vldP p) with hv | hv
    · have HV := Lib.hid (vldP_of hv)
      rw [hf] at HFW
      rw [hv] at HCV
      obtain ⟨N, hN⟩ := Int.eq_ofNat_of_zero_le (show 0 ≤ p.n by have := HV.out.n1; omega)
      have HNN := Lib.hid hN
      have n1 := HV.out.n1
      have n12 := HV.out.n12
      have hvd : validD N p.du = true := validD_mk ⟨by omega, by omega, HV.out.ldu⟩ fun x hx => by rw [← hN]; exact HV.out.du x hx
      have HVD := Lib.hid hvd
      clear hf hv hN hvd
      have hz := Lib.hid (Below.refl w1.heap.size w1)
      go_upto_region 4 with (first | (go_at_call 12; (with_reducible refine (HFW.out _).mono ?_); rintro e w2 ⟨rfl, hk⟩; replace hz := Lib.hid (below_then hz.out hk); have kk := (pfCells (GP.out.then_ hz.out)); clear k0 k1 k2 k3 k4 k5; obtain ⟨k0, k1, k2, k3, k4, k5⟩ := kk; have lp2 := (GP.out.then_ hz.out).lt; clear hk) | (go_at_call 14; (with_reducible refine (HCV.out _ hz.out).mono ?_); rintro e w3 ⟨rfl, hk⟩; replace hz := Lib.hid (below_then hz.out hk); clear hk))
      have GP3 := Lib.hid (GP.out.then_ hz.out)
      have HB3 := Lib.hid (below_then HB1.out hz.out)
      clear hz k0 k1 k2 k3 k4 k5 GP HB1 HFP HFW HCV
      obtain ⟨k0, k1, k2, k3, k4, k5⟩ := pfCells GP3.out
      have lp3 := GP3.out.lt
      have HPM3 := Lib.hid (HM.out.then_ HB3.out)
      have HPR : Hid (Calls Try.prog 24 #[.int .i64 p.n, .slice m.a2 p.du.length m.c2] w3 fun e w' => LstP (prF p.du N N) w3 w' e ∧ Below w3.heap.size w3 w') := by
        have := pairs_any N m.a2 m.c2 p.du w3 HVD.out (vp_fp HV.out).du HPM3.out.s2
        rwa [← HNN.out] at this
      have HPO : Hid (∀ W, Below w3.heap.size w3 W → Calls Try.prog 25 #[.int .i64 p.n, .slice m.a2 p.du.length m.c2] W fun e w' => PosP (posF p.du N) W w' e ∧ Below W.heap.size W w') := fun W hW => by
        have := positions_any N m.a2 m.c2 p.du W HVD.out (vp_fp HV.out).du (HPM3.out.then_ hW).s2
        rwa [← HNN.out] at this
      cases hpr : prF p.du N N with
      | none =>
        rw [hpr] at HPR
        have HP3 : Hid (∀ W, Calls Try.prog 25 #[.int .i64 p.n, .slice none 0 0] W fun e w' => (∃ v z, e = .returned (.tuple #[v, .int .i64 z])) ∧ Below W.heap.size W w') := fun W => by
          have hv0 : validD N [] = true := validD_mk ⟨by have := HNN.out; omega, by have := HNN.out; omega, by simp⟩ (by simp)
          have := positions_any N none 0 [] W hv0 (by simp) (Seg.nil _ _ _ _ _)
          rw [← HNN.out] at this
          exact this.mono fun e w' ⟨h1, h2⟩ => ⟨pos_some h1, h2⟩
        clear hpr
        go_upto_region 5 with (go_at_call 24; (with_reducible refine HPR.out.mono ?_); rintro e w4 ⟨rfl, hk⟩)
        have HB4 := Lib.hid hk
        clear k0 k1 k2 k3 k4 k5
        obtain ⟨k0, k1, k2, k3, k4, k5⟩ := pfCells (GP3.out.then_ hk)
        have lp4 := (GP3.out.then_ hk).lt
        clear hk
        go_upto_region 6 with (go_at_call 25; (with_reducible refine (HPO.out _ HB4.out).mono ?_); rintro e w5 ⟨hpp, hk⟩; obtain ⟨v5, z5, rfl⟩ := pos_some hpp; clear hpp)
        have HB5 := Lib.hid (below_then HB4.out hk)
        clear k0 k1 k2 k3 k4 k5 hk
        obtain ⟨k0, k1, k2, k3, k4, k5⟩ := pfCells (GP3.out.then_ HB5.out)
        have lp5 := (GP3.out.then_ HB5.out).lt
        go_wp2_with (go_at_call 25; (with_reducible refine (HP3.out _).mono ?_); rintro e w6 ⟨⟨v6, z6, rfl⟩, hk⟩)
        go_ret
        exact ⟨rfl, below_then HB3.out (below_then HB5.out hk)⟩
      | some ys =>
        rw [hpr] at HPR
        have HYS := Lib.hid hpr
        clear hpr
        have HQV := Lib.hid (VP.net HV.out HNN.out HYS.out)
        have hvy : validD N ys = true := validD_mk ⟨by have := HNN.out; omega, by have := HNN.out; omega, HQV.out.ldu⟩ fun x hx => by rw [← HNN.out]; exact HQV.out.du x hx
        have HVY := Lib.hid hvy
        clear hvy
        go_upto_region 5 with (go_at_call 24; (with_reducible refine HPR.out.mono ?_); rintro e w4 ⟨⟨v, rfl, hO⟩, hk⟩)
        obtain ⟨A2, c2, rfl, _, sg2⟩ := hO.seg (size := 4) (enc := encD) (fun _ => rfl)
        have HB4 := Lib.hid hk
        have SG2 := Lib.hid sg2
        clear k0 k1 k2 k3 k4 k5
        obtain ⟨k0, k1, k2, k3, k4, k5⟩ := pfCells (GP3.out.then_ hk)
        have lp4 := (GP3.out.then_ hk).lt
        clear hk hO sg2
        have HP3 : Hid (∀ W, Below w4.heap.size w4 W → Calls Try.prog 25 #[.int .i64 p.n, .slice A2 ys.length c2] W fun e w' => PosP (posF ys N) W w' e ∧ Below W.heap.size W w') := fun W hW => by
          have := positions_any N A2 c2 ys W HVY.out (vp_fp HQV.out).du ((SG2.out.below hW).more hW.size)
          rwa [← HNN.out] at this
        cases hq : posF p.du N with
        | none =>
          rw [hq] at HPO
          clear hq
          go_upto_region 6 with (go_at_call 25; (with_reducible refine (HPO.out _ HB4.out).mono ?_); rintro e w5 ⟨rfl, hk⟩)
          have HB45 := Lib.hid hk
          have HB5 := Lib.hid (below_then HB4.out hk)
          clear k0 k1 k2 k3 k4 k5 hk
          obtain ⟨k0, k1, k2, k3, k4, k5⟩ := pfCells (GP3.out.then_ HB5.out)
          have lp5 := (GP3.out.then_ HB5.out).lt
          go_wp2_with (go_at_call 25; (with_reducible refine (HP3.out _ HB45.out).mono ?_); rintro e w6 ⟨hpp, hk⟩; obtain ⟨v6, z6, rfl⟩ := pos_some hpp; clear hpp)
          go_ret
          exact ⟨rfl, below_then HB3.out (below_then HB5.out hk)⟩
        | some qs =>
          rw [hq] at HPO
          have HQS := Lib.hid hq
          clear hq
          go_upto_region 6 with (go_at_call 25; (with_reducible refine (HPO.out _ HB4.out).mono ?_); rintro e w5 ⟨⟨v, rfl, hO⟩, hk⟩)
          obtain ⟨Aa, ca, rfl, _, sga⟩ := hO.seg (size := 2) (enc := encR) encR_len
          have SGA := Lib.hid sga
          have HB45 := Lib.hid hk
          have HB5 := Lib.hid (below_then HB4.out hk)
          clear k0 k1 k2 k3 k4 k5 hk hO sga
          obtain ⟨k0, k1, k2, k3, k4, k5⟩ := pfCells (GP3.out.then_ HB5.out)
          have lp5 := (GP3.out.then_ HB5.out).lt
          cases hr : posF ys N with
          | none =>
            rw [hr] at HP3
            clear hr
            go_wp2_with (go_at_call 25; (with_reducible refine (HP3.out _ HB45.out).mono ?_); rintro e w6 ⟨rfl, hk⟩)
            go_ret
            exact ⟨rfl, below_then HB3.out (below_then HB5.out hk)⟩
          | some r =>
            have hrq : r = qs := pos_again HQS.out hr fun i hi => pairs_pos (fun x hx => by rw [← HNN.out]; exact HV.out.du x hx) HYS.out i
            subst hrq
            rw [hr] at HP3
            clear hr
            go_upto_region 7 with (go_at_call 25; (with_reducible refine (HP3.out _ HB45.out).mono ?_); rintro e w6 ⟨⟨v, rfl, hO⟩, hk⟩)
            obtain ⟨Ab, cb, rfl, _, sgb⟩ := hO.seg (size := 2) (enc := encR) encR_len
            have SGB := Lib.hid sgb
            have SGA6 := Lib.hid ((SGA.out.below hk).more hk.size)
            have SG26 := Lib.hid ((SG2.out.below (below_then HB45.out hk)).more (below_then HB45.out hk).size)
            have HB6 := Lib.hid (below_then HB5.out hk)
            clear k0 k1 k2 k3 k4 k5 hk hO sgb
            obtain ⟨k0, k1, k2, k3, k4, k5⟩ := pfCells (GP3.out.then_ HB6.out)
            have lp6 := (GP3.out.then_ HB6.out).lt
            have rl : r.length ≤ 12 := by have := posF_len HQS.out; have := HNN.out; omega
            go_upto_region 11 with (fail)
            refine name_wp ?_
            intro Y hY
            have gQ : Blk Y w6.heap.size 27 (pfA (netP p ys) (msN m A2 c2)) := by rw [hY]; exact Blk.new _ _ _
            have hbY : Below w6.heap.size w6 Y := by rw [hY]; exact wa1 _ _
            obtain ⟨bQ, eQ⟩ : ∃ b, w6.heap.size = b := ⟨_, rfl⟩
            have hbY3 := below_then HB6.out hbY
            rw [eQ] at gQ ⊢
            have HBY := Lib.hid (below_then HB3.out hbY3)
            have GPY := Lib.hid (GP3.out.then_ hbY3)
            have PMY := Lib.hid (HPM3.out.then_ hbY3)
            have SA := Lib.hid ((SGA6.out.below hbY).more hbY.size)
            have SB := Lib.hid ((SGB.out.below hbY).more hbY.size)
            have S2 := (SG26.out.below hbY).more hbY.size
            have PQY : Hid (Pm Y (netP p ys) (msN m A2 c2)) := ⟨PMY.out.s1, S2, PMY.out.s3, PMY.out.s4, PMY.out.s5⟩
            have hiq : ∀ q ∈ r, inR q = true := fun q hq => posF_inR' HQS.out q hq
            have HCO : Hid (∀ (A B : Option Addr) (c d : Nat) (W : World), Seg W W.heap.size 2 encR A r → Seg W W.heap.size 2 encR B r → Calls Try.prog 26 #[.slice A r.length c, .slice B r.length d] W fun e w' => e = .returned (.bool true) ∧ Below W.heap.size W w') := fun A B c d W hA hB => covers_eq A B c d r W (by omega) hiq hA hB
            have HL : Hid (∀ K K', SpOk p K → SpOk (netP p ys) K' → sub p.n (Dk (netP p ys) K') (Dk p K)) := fun K K' h h' => paired_law HV.out HNN.out HYS.out h h'
            have HDP : Hid (∀ W, Below Y.heap.size Y W → Calls Try.prog 13 #[.agg (pfA p m)] W fun e w' => (∃ v z, e = .returned (.tuple #[v, .int .i64 z]) ∧ DfO p W w' v z) ∧ Below W.heap.size W w') := fun W hW => dfo_any p m W HV.out (PMY.out.then_ hW)
            have HDQ : Hid (∀ W, Below Y.heap.size Y W → Calls Try.prog 13 #[.agg (pfA (netP p ys) (msN m A2 c2))] W fun e w' => (∃ v z, e = .returned (.tuple #[v, .int .i64 z]) ∧ DfO (netP p ys) W w' v z) ∧ Below W.heap.size W w') := fun W hW => dfo_any (netP p ys) (msN m A2 c2) W HQV.out (PQY.out.then_ hW)
            have HVQ : Hid (∀ W, Below Y.heap.size Y W → Calls Try.prog 14 #[.agg (pfA (netP p ys) (msN m A2 c2))] W fun e w' => e = .returned (.bool true) ∧ Below W.heap.size W w') := fun W hW => cvalid_yes _ W HQV.out (PQY.out.then_ hW)
            have HZ := Lib.hid (Below.refl Y.heap.size Y)
            have GQY := Lib.hid gQ
            obtain ⟨k0, k1, k2, k3, k4, k5⟩ := pfCells GPY.out
            obtain ⟨q0, q1, q2, q3, q4, q5⟩ := pfCells GQY.out
            have lpY := GPY.out.lt
            have lqY := GQY.out.lt
            clear hY eQ hbY hbY3 GP3 HB3 HB6 HPM3 SGA6 SGB SG26 S2 hiq HPR HP3 HPO HVD HVY HYS HM SG2 SGA HB4 HB5 HB45 HNN lp3 lp4 lp5 lp6 lp2
            go_upto_region 12 with (go_at_call 13; (with_reducible refine (HDP.out _ HZ.out).mono ?_); rintro e w7 ⟨⟨v7, z7, rfl, hd7⟩, hk⟩)
            have HD7 := Lib.hid hd7
            have HZ7 := Lib.hid (below_then HZ.out hk)
            clear k0 k1 k2 k3 k4 k5 q0 q1 q2 q3 q4 q5 hk hd7
            obtain ⟨q0, q1, q2, q3, q4, q5⟩ := pfCells (GQY.out.then_ HZ7.out)
            have lq7 := (GQY.out.then_ HZ7.out).lt
            go_upto_region 13 with (go_at_call 13; (with_reducible refine (HDQ.out _ HZ7.out).mono ?_); rintro e w8 ⟨⟨v8, z8, rfl, hd8⟩, hk⟩)
            have HD8 := Lib.hid hd8
            have HK8 := Lib.hid hk
            have HZ8 := Lib.hid (below_then HZ7.out hk)
            clear q0 q1 q2 q3 q4 q5 hk hd8
            have hz := Lib.hid (Below.refl w8.heap.size w8)
            obtain ⟨q0, q1, q2, q3, q4, q5⟩ := pfCells (GQY.out.then_ HZ8.out)
            have lq8 := (GQY.out.then_ HZ8.out).lt
            go_upto_region 15 with (first | (go_at_call_of 26 (Value.slice Aa r.length ca); (with_reducible refine (HCO.out _ _ _ _ _ ((SA.out.below (below_then HZ8.out hz.out)).more (below_then HZ8.out hz.out).size) ((SB.out.below (below_then HZ8.out hz.out)).more (below_then HZ8.out hz.out).size)).mono ?_); rintro e v1 ⟨rfl, hk⟩; replace hz := Lib.hid (below_then hz.out hk); clear hk) | (go_at_call_of 26 (Value.slice Ab r.length cb); (with_reducible refine (HCO.out _ _ _ _ _ ((SB.out.below (below_then HZ8.out hz.out)).more (below_then HZ8.out hz.out).size) ((SA.out.below (below_then HZ8.out hz.out)).more (below_then HZ8.out hz.out).size)).mono ?_); rintro e v2 ⟨rfl, hk⟩; replace hz := Lib.hid (below_then hz.out hk); clear hk; clear q0 q1 q2 q3 q4 q5; obtain ⟨q0, q1, q2, q3, q4, q5⟩ := pfCells (GQY.out.then_ (below_then HZ8.out hz.out)); have lqv := (GQY.out.then_ (below_then HZ8.out hz.out)).lt) | (go_at_call 14; (with_reducible refine (HVQ.out _ (below_then HZ8.out hz.out)).mono ?_); rintro e v3 ⟨rfl, hk⟩; replace hz := Lib.hid (below_then hz.out hk); clear hk))
            clear q0 q1 q2 q3 q4 q5 k0 k1 k2 k3 k4 k5 gQ
            have HZF := Lib.hid (below_then HBY.out (below_then HZ8.out hz.out))
            have HLK := Lib.hid (below_then HK8.out hz.out)
            rcases HD7.out with ⟨rfl, K, hK, hg7⟩ | rfl
            · rcases HD8.out with ⟨rfl, K', hK', hg8⟩ | rfl
              · have hg7' := Own.below hg7 HLK.out
                have hg8' := Own.below hg8 hz.out
                obtain ⟨A7, c7, rfl, _, sg7⟩ := hg7'.seg (size := 1) (enc := encB) encB_len
                obtain ⟨A8, c8, rfl, _, sg8⟩ := hg8'.seg (size := 1) (enc := encB) encB_len
                have hl7 := outD_len HV.out K
                have hl8 : ((outD (netP p ys) K').length : Int) = p.n := outD_len HQV.out K'
                have hsub := HL.out K K' hK hK'
                have hin : ∀ k : Nat, (outD (netP p ys) K')[k]? = some true → (outD p K)[k]? = some true := fun k hk => by
                  have hkl := (List.getElem?_eq_some_iff.1 hk).1
                  have h1 : has (outD (netP p ys) K') k = true := by simp [has, List.getD_eq_getElem?_getD, hk]
                  rw [has_outD HQV.out] at h1
                  have h2 := hsub (k : Int) (by omega) (by omega) h1
                  rw [← has_outD HV.out] at h2
                  have hkk : k < (outD p K).length := by omega
                  simp only [has, List.getD_eq_getElem?_getD, Int.toNat_natCast, List.getElem?_eq_getElem hkk, Option.getD_some] at h2
                  rw [List.getElem?_eq_getElem hkk, h2]
                have HWI := Lib.hid (within_any A8 A7 c8 c7 (outD (netP p ys) K') (outD p K) v3 (by omega) (by omega) hin sg8 sg7)
                clear hg7 hg8 hg7' hg8' sg7 sg8 hin hsub HD7 HD8
                go_wp2_with (go_at_call 27; (with_reducible refine HWI.out.mono ?_); rintro e w9 ⟨rfl, hk⟩)
                go_ret
                exact ⟨rfl, below_then HZF.out hk⟩
              · go_wp2
                go_ret
                exact ⟨rfl, HZF.out⟩
            · go_wp2
              go_ret
              exact ⟨rfl, HZF.out⟩
    · rw [hf] at HFW
      rw [hv] at HCV
      clear hf hv
      have hz := Lib.hid (Below.refl w1.heap.size w1)
      go_wp2_with (first | (go_at_call 12; (with_reducible refine (HFW.out _).mono ?_); rintro e w2 ⟨rfl, hk⟩; replace hz := Lib.hid (below_then hz.out hk); have kk := (pfCells (GP.out.then_ hz.out)); clear k0 k1 k2 k3 k4 k5; obtain ⟨k0, k1, k2, k3, k4, k5⟩ := kk; have lp2 := (GP.out.then_ hz.out).lt; clear hk) | (go_at_call 14; (with_reducible refine (HCV.out _ hz.out).mono ?_); rintro e w3 ⟨rfl, hk⟩; replace hz := Lib.hid (below_then hz.out hk); clear hk))
      go_ret
      exact ⟨rfl, below_then HB1.out hz.out⟩
  · rw [hf] at HFW
    clear hf
    go_wp2_with (go_at_call 12; (with_reducible refine (HFW.out _).mono ?_); rintro e w2 ⟨rfl, hk⟩)
    go_ret
    exact ⟨rfl, below_then HB1.out hk⟩
end Go.Proofs.Yteoicnhnpailiaa
