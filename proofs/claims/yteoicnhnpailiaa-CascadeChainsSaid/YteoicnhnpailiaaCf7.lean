/- The walk of CascadeChains: true at every portfolio and party. -/
import Derived.Test.YteoicnhnpailiaaCe7
import Derived.Test.YteoicnhnpailiaaCe0
namespace Go.Proofs.Yteoicnhnpailiaa
open Go.RowKit Go.Sort Go.Maps

theorem dfs_some (p : Pf) (m : Ms) (w : World) (hf : Fp p) (hm : Pm w p m) : Calls Try.prog 13 #[.agg (pfA p m)] w fun e w' => (∃ v z, e = .returned (.tuple #[v, .int .i64 z])) ∧ Below w.heap.size w w' := by
  refine (defaults_any p m w hf hm).mono ?_
  rintro e w' ⟨⟨_, he⟩ | ⟨_, K', h, he⟩ | ⟨_, K', v, h, he, hg⟩, hb⟩
  · exact ⟨⟨_, _, he⟩, hb⟩
  · exact ⟨⟨_, _, he⟩, hb⟩
  · exact ⟨⟨_, _, he⟩, hb⟩
theorem why_no (p : Pf) (m : Ms) (i : Int) (w : World) (hf : Fp p) (hm : Pm w p m) (h : vldP p = false ∨ okP p.n i = false) :
    Calls Try.prog 21 #[.agg (pfA p m), .int .i64 i] w fun e w' => e = .returned (.tuple #[.slice none 0 0, .int .i64 1]) ∧ Below w.heap.size w w' := by
  refine (why_any p m i w hf hm).mono ?_
  rintro e w' ⟨⟨_, he⟩ | ⟨h1, h2, _⟩, hb⟩
  · exact ⟨he, hb⟩
  · rcases h with h | h
    · rw [h1] at h; cases h
    · rw [h2] at h; cases h
theorem why_range (p : Pf) (m : Ms) (i : Int) (w : World) (hv : VP p) (hm : Pm w p m) (ho : okP p.n i = true) (hK : ¬ ∃ K, SpOk p K) :
    Calls Try.prog 21 #[.agg (pfA p m), .int .i64 i] w fun e w' => e = .returned (.tuple #[.slice none 0 0, .int .i64 2]) ∧ Below w.heap.size w w' := by
  refine (why_any p m i w (vp_fp hv) hm).mono ?_
  rintro e w' ⟨⟨h, _⟩ | ⟨_, _, ⟨K, _, he⟩ | ⟨K, h, _⟩ | ⟨K, k, ch, v, h, _⟩⟩, hb⟩
  · rcases h with h | h
    · rw [vldP_mk hv] at h; cases h
    · rw [ho] at h; cases h
  · exact ⟨he, hb⟩
  · exact (hK ⟨K, h⟩).elim
  · exact (hK ⟨K, h⟩).elim
theorem Rk.has_ {p : Pf} (hp : VP p) {K k : Nat} (hK : SpOk p K) (hk : k < K) {i : Int} (h0 : 0 ≤ i) (h1 : i < p.n) (h : Rk p i k) : has (Dk p K) i = true := Dk_le hp (K := K) (fun j hj => hK.1.ok j hj) (j := k + 1) (k := K) (by omega) (Nat.le_refl _) i h0 h1 h.1
theorem why_none (p : Pf) (m : Ms) (i : Int) (w : World) (hv : VP p) (hm : Pm w p m) (ho : okP p.n i = true) {K : Nat} (hK : SpOk p K) (hh : has (Dk p K) i = false) :
    Calls Try.prog 21 #[.agg (pfA p m), .int .i64 i] w fun e w' => e = .returned (.tuple #[.slice none 0 0, .int .i64 14]) ∧ Below w.heap.size w w' := by
  obtain ⟨h0, h1⟩ := of_decide_eq_true ho
  refine (why_any p m i w (vp_fp hv) hm).mono ?_
  rintro e w' ⟨⟨h, _⟩ | ⟨_, _, ⟨K', h, _⟩ | ⟨K', _, _, he⟩ | ⟨K', k, ch, v, h, hk, hr, _⟩⟩, hb⟩
  · rcases h with h | h
    · rw [vldP_mk hv] at h; cases h
    · rw [ho] at h; cases h
  · exact (hK.no h).elim
  · exact ⟨he, hb⟩
  · obtain rfl := hK.uniq h
    rw [hr.has_ hv hK hk h0 h1] at hh; cases hh
theorem why_chain (p : Pf) (m : Ms) (i : Int) (w : World) (hv : VP p) (hm : Pm w p m) (ho : okP p.n i = true) {K : Nat} (hK : SpOk p K) (hh : has (Dk p K) i = true) :
    Calls Try.prog 21 #[.agg (pfA p m), .int .i64 i] w fun e w' => (∃ k ch v, k < K ∧ Chn p k i ch ∧ e = .returned (.tuple #[v, .int .i64 0]) ∧ Own w' w.heap.size 3 1 encN v ch) ∧ Below w.heap.size w w' := by
  refine (why_any p m i w (vp_fp hv) hm).mono ?_
  rintro e w' ⟨⟨h, _⟩ | ⟨_, _, ⟨K', h, _⟩ | ⟨K', h, h2, _⟩ | ⟨K', k, ch, v, h, hk, _, hc, he, hg⟩⟩, hb⟩
  · rcases h with h | h
    · rw [vldP_mk hv] at h; cases h
    · rw [ho] at h; cases h
  · exact (hK.no h).elim
  · obtain rfl := hK.uniq h
    rw [hh] at h2; cases h2
  · obtain rfl := hK.uniq h
    exact ⟨⟨k, ch, v, hk, hc, he, hg⟩, hb⟩
theorem outD_at {p : Pf} (hp : VP p) (K : Nat) {i : Nat} (hi : (i : Int) < p.n) : (outD p K)[i]? = some (has (Dk p K) i) := by
  have hl := outD_len hp K
  have h : i < (outD p K).length := by omega
  rw [← has_outD hp, has_of (List.getElem?_eq_getElem h), List.getElem?_eq_getElem h]
/-- the set of the next round, entry by entry -/
theorem next_at {p : Pf} (hp : VP p) {K i : Nat} (hK : SpOk p K) (hi : i < K) {j : Nat} (hj : (j : Int) < p.n) : has (Dk p (i + 1)) j = (has (Dk p i) j || ovr p (Dk p i) j) := by
  have e : has (Dk p (i + 1)) j = ovr p (Dk p i) j := has_nx hp _ (by omega) hj
  rw [e]
  cases h : has (Dk p i) (j : Int) with
  | false => simp
  | true =>
    have := Dk_up hp (k := i) (fun t ht => hK.1.ok t (by omega)) (j : Int) (by omega) hj h
    rw [e] at this
    simp [this]
theorem out0 {p : Pf} (hp : VP p) {N : Nat} (hN : p.n = N) : outD p 0 = List.replicate N false := by
  have n12 := hp.n12
  unfold outD
  rw [show Dk p 0 = List.replicate 12 false from rfl, List.take_replicate, show min p.n.toNat 12 = N by omega]
theorem ownB_of {w : World} {b B N : Nat} {l : List Bool} (h : Sb w b l) (hl : l.length = N) (hN : N ≤ 12) (hB : B ≤ b) : Own w B 4 1 encB (.slice (some ⟨b, 0, none⟩) N N) l := by
  refine ⟨by rw [flatB]; simp, .inr ⟨b, N, (l.map Value.bool).toArray, by rw [hl], hB, h, by omega, by first | omega | (unfold maxLen; omega) | (simp [maxLen]; omega), by simp [hl], ?_⟩⟩
  rw [flatB]
  simp only [Array.toList, List.length_map]
  first | (rw [List.take_of_length_le (by simp [hl])]) | (simp [List.take_of_length_le, hl])
theorem kN {p : Pf} (hp : VP p) {K k N : Nat} (hN : p.n = N) (hK : SpOk p K) (hk : k < K) : k + 1 ≤ N := by
  have h1 := Spr.cnt hp hK.1
  have h2 := cnt_le_n hp K
  omega
set_option maxRecDepth 100000 in
set_option maxHeartbeats 3200000 in
theorem chains_any (p : Pf) (m : Ms) (pa : Int) (w : World) (hm : Pm w p m) (hl : Lp p) (hn : -9223372036854775808 ≤ p.n ∧ p.n ≤ 9223372036854775807) (ha : ∀ a ∈ p.as, fitA a) (hd : ∀ x ∈ p.du, fitD x) (hla : ∀ x ∈ p.la, fitD x) (hpa : -9223372036854775808 ≤ pa ∧ pa ≤ 9223372036854775807) :
    Calls Try.prog 7 #[.agg (pfA p m), .int .i64 pa] w fun e w' => e = .returned (.bool true) ∧ Below w.heap.size w w' := by
  have HM := Lib.hid hm
  have HPA := Lib.hid hpa
  have HFP := Lib.hid (fun hf => fp_few hl hn ha hd hla (k := 40) (by omega) hf)
  have HFW : Hid (∀ W : World, Calls Try.prog 12 #[.agg (pfA p m), .int .i64 40] W fun e w' => e = .returned (.bool (fewP p 40)) ∧ Below W.heap.size W w') := fun W => few_any p m 40 W (by omega) hl
  clear hm hl hn ha hd hla hpa
  go_enter Try.func7, Try.ntmps7
  go_upto_region 1 with (fail)
  refine name_wp ?_
  intro X hX
  have gP0 : Blk X w.heap.size 27 (pfA p m) := by rw [hX]; exact Blk.new _ _ _
  have hbX : Below w.heap.size w X := by rw [hX]; exact wa1 _ _
  obtain ⟨bP, e0⟩ : ∃ b, w.heap.size = b := ⟨_, rfl⟩
  have hbP : Hid (w.heap.size ≤ bP) := Nat.le_of_eq e0
  rw [e0] at gP0 ⊢
  have GP0 := Lib.hid gP0
  have HX := Lib.hid hbX
  clear hX gP0 hbX e0
  go_upto_region 2 with (go_at_call 11; (with_reducible refine (head_any _).mono ?_); rintro e w1 ⟨rfl, hk⟩)
  have GP := Lib.hid (GP0.out.then_ hk)
  have HB1 := Lib.hid (below_then HX.out hk)
  clear hk GP0 HX
  obtain ⟨k0, k1, k2, k3, k4, k5⟩ := pfCells GP.out
  have lP := GP.out.lt
  rcases hbb (fewP p 40) with hf | hf
  · have HF := Lib.hid (HFP.out hf)
    rw [hf] at HFW
    clear hf
    have hz := Lib.hid (Below.refl w1.heap.size w1)
    go_upto_region 4 with (go_at_call 12; (with_reducible refine (HFW.out _).mono ?_); rintro e w2 ⟨rfl, hk⟩; replace hz := Lib.hid (below_then hz.out hk); have kk := (pfCells (GP.out.then_ hz.out)); clear k0 k1 k2 k3 k4 k5 lP; obtain ⟨k0, k1, k2, k3, k4, k5⟩ := kk; have lP := (GP.out.then_ hz.out).lt; clear hk)
    have GP2 := Lib.hid (GP.out.then_ hz.out)
    have HB2 := Lib.hid (below_then HB1.out hz.out)
    have PM2 := Lib.hid (HM.out.then_ HB2.out)
    have HDS := Lib.hid (fun W (hW : Below w2.heap.size w2 W) => dfs_some p m W HF.out (PM2.out.then_ hW))
    clear hz GP HB1 HFW HFP
    by_cases hbad : vldP p = false ∨ okP p.n pa = false
    · have HWH := Lib.hid (why_no p m pa w2 HF.out PM2.out hbad)
      clear hbad
      go_wp2_with (first | (go_at_call 21; (with_reducible refine HWH.out.mono ?_); rintro e w3 ⟨rfl, hk⟩; have HK3 := Lib.hid hk; clear hk; clear k0 k1 k2 k3 k4 k5 lP; obtain ⟨k0, k1, k2, k3, k4, k5⟩ := (pfCells (GP2.out.then_ HK3.out)); have lP := (GP2.out.then_ HK3.out).lt) | (go_at_call 13; (with_reducible refine (HDS.out _ HK3.out).mono ?_); rintro e w4 ⟨⟨v, z, rfl⟩, hk4⟩))
      go_ret
      exact ⟨rfl, below_then HB2.out (below_then HK3.out hk4)⟩
    have hv : vldP p = true := by cases h : vldP p with
      | true => rfl
      | false => exact absurd (.inl h) hbad
    have hok : okP p.n pa = true := by cases h : okP p.n pa with
      | true => rfl
      | false => exact absurd (.inr h) hbad
    have HV := Lib.hid (vldP_of hv)
    have HOK := Lib.hid hok
    clear hv hok hbad
    by_cases hK : ∃ K, SpOk p K
    case neg =>
      have HWH := Lib.hid (why_range p m pa w2 HV.out PM2.out HOK.out hK)
      clear hK
      go_wp2_with (first | (go_at_call 21; (with_reducible refine HWH.out.mono ?_); rintro e w3 ⟨rfl, hk⟩; have HK3 := Lib.hid hk; clear hk; clear k0 k1 k2 k3 k4 k5 lP; obtain ⟨k0, k1, k2, k3, k4, k5⟩ := (pfCells (GP2.out.then_ HK3.out)); have lP := (GP2.out.then_ HK3.out).lt) | (go_at_call 13; (with_reducible refine (HDS.out _ HK3.out).mono ?_); rintro e w4 ⟨⟨v, z, rfl⟩, hk4⟩))
      go_ret
      exact ⟨rfl, below_then HB2.out (below_then HK3.out hk4)⟩
    obtain ⟨K, hK⟩ := hK
    have HK := Lib.hid hK
    have HDF := Lib.hid (fun W (hW : Below w2.heap.size w2 W) => defaults_ok p m W HV.out (PM2.out.then_ hW) HK.out)
    obtain ⟨pa0, pa1⟩ := of_decide_eq_true HOK.out
    obtain ⟨q, rfl⟩ := Int.eq_ofNat_of_zero_le pa0
    have n12 := HV.out.n12
    obtain ⟨N, hN⟩ := Int.eq_ofNat_of_zero_le (show 0 ≤ p.n by omega)
    have HN := Lib.hid hN
    have hL := outD_len HV.out K
    have hDN : (outD p K).length = N := by omega
    have hqN : q < N := by omega
    clear hK pa0 HDS hL hN
    rcases hbb (has (Dk p K) (q : Int)) with hh | hh
    · have HWH := Lib.hid (why_chain p m q w2 HV.out PM2.out HOK.out HK.out hh)
      clear hh
      go_upto_region 5 with (go_at_call 21; (with_reducible refine HWH.out.mono ?_); rintro e w3 ⟨⟨k, ch, v, hkK, hch, rfl, hg⟩, hk⟩)
      obtain ⟨bw, cw, rfl, _, _⟩ := Own.at_ hg (by rw [hch.len]; omega)
      obtain ⟨A', c', e', _, sw⟩ := Own.seg hg encN_len
      obtain rfl : A' = some ⟨bw, 0, none⟩ := by injection e' with e1 _ _; exact e1.symm
      rw [hch.len]
      have HCH := Lib.hid hch
      have HKK := Lib.hid hkK
      have SW3 := Lib.hid sw
      have HK3 := Lib.hid hk
      clear hg hch hkK sw e' HWH hk
      clear k0 k1 k2 k3 k4 k5 lP
      obtain ⟨k0, k1, k2, k3, k4, k5⟩ := pfCells (GP2.out.then_ HK3.out)
      have lP := (GP2.out.then_ HK3.out).lt
      go_upto_region 6 with (go_at_call 13; (with_reducible refine (HDF.out _ HK3.out).mono ?_); rintro e w4 ⟨⟨v, rfl, hg⟩, hk⟩)
      obtain ⟨bd, cd, rfl, _, _⟩ := Own.at_ hg (by omega)
      obtain ⟨A', c', e', _, sg⟩ := Own.seg hg encB_len
      obtain rfl : A' = some ⟨bd, 0, none⟩ := by injection e' with e1 _ _; exact e1.symm
      rw [hDN]
      have SD4 := Lib.hid sg
      have SW4 := Lib.hid ((SW3.out.below hk).more hk.size)
      have GP4 := Lib.hid (GP2.out.then_ (below_then HK3.out hk))
      have HB4 := Lib.hid (below_then HB2.out (below_then HK3.out hk))
      have PM4 := Lib.hid (PM2.out.then_ (below_then HK3.out hk))
      clear hg sg e' hk HDF HK3 SW3 GP2 HB2 PM2
      clear k0 k1 k2 k3 k4 k5 lP
      obtain ⟨k0, k1, k2, k3, k4, k5⟩ := pfCells (GP4.out)
      have lP := (GP4.out).lt
      have hkN := kN HV.out HN.out HK.out HKK.out
      have hgt : ¬ (p.n < (k : Int) + 1) := by have := HN.out; omega
      have hgt' : decide (p.n < (k : Int) + 1) = false := by simp; omega
      have hk0 : ((k : Int) + 1 == 0) = false := by simp; omega
      obtain ⟨bx, ox, ex, hbx, l0⟩ := segN SW4.out HCH.out.last
      cases ex
      have l1 : w4.cell? ⟨bw, k, none⟩ = some (.int .i64 q) := by simpa using l0
      have lw := hbx
      have n1 := HV.out.n1
      have hmk := mk_any p.n n1 n12
      have hN2 : p.n.toNat = N := by have := HN.out; omega
      have hN12 : N ≤ 12 := by have := HN.out; omega
      rw [hN2] at hmk
      go_upto_region 12 with (fail)
      refine name_wp ?_
      intro Y hY
      have e4 : ((List.replicate N false).map Value.bool).toArray = Array.replicate N (.bool false) := by simp
      have gs : Sb Y w4.heap.size (List.replicate N false) := by rw [hY]; unfold Sb; rw [e4]; exact Blk.new _ _ _
      have hbY : Below w4.heap.size w4 Y := by rw [hY]; exact wa1 _ _
      have HOY : Hid (Own Y w4.heap.size 4 1 encB (.slice (some ⟨w4.heap.size, 0, none⟩) N N) (outD p 0)) := by
        unfold Hid
        rw [out0 HV.out HN.out]
        exact ownB_of gs (by simp) hN12 (Nat.le_refl _)
      have HBY := Lib.hid hbY
      clear hY gs hbY e4 hmk l0 l1 lw hbx hgt hgt' hk0 hN2 k0 k1 k2 k3 k4 k5 lP
      obtain ⟨ri, hin, hz0, hz1, hz2⟩ := info_parts (show (Try.prog.info? 4).map (fun i => (i.zero, i.size, i.bytes)) = some (some (.bool false), 1, 1) by kernel_rfl)
      go_loopw [10, 11] (fun v x WR => ∃ i : Nat, x = .int .i64 i ∧ i ≤ k + 1 ∧ Hid (Own WR w4.heap.size 4 1 encB v (outD p i) ∧ Below w4.heap.size w4 WR)) (fun _ x _ => 2000 - (intOf x).toNat)
      case atStart => exact ⟨0, rfl, by omega, HOY.out, HBY.out⟩
      case round =>
        obtain ⟨i, rfl, hi, hh⟩ := hrel
        obtain ⟨Z, hZ⟩ : ∃ Z, Z = wr := ⟨_, rfl⟩
        subst hZ
        obtain ⟨hO, hbr⟩ := hh.out
        have HBR := Lib.hid hbr
        have hLi : (outD p i).length = N := by have := outD_len HV.out i; have := HN.out; omega
        obtain ⟨g, c, rfl, hg1, hg2⟩ := Own.at_ hO (by omega)
        obtain ⟨A', c', e', _, ss⟩ := Own.seg hO encB_len
        obtain rfl : A' = some ⟨g, 0, none⟩ := by injection e' with e1 _ _; exact e1.symm
        rw [hLi]
        have SS := Lib.hid ss
        have HLI := Lib.hid hLi
        clear hh hO e' ss
        by_cases hik : i < k + 1
        · obtain ⟨x, hx⟩ : ∃ x, ch[i]? = some x := ⟨_, List.getElem?_eq_getElem (by rw [HCH.out.len]; exact hik)⟩
          obtain ⟨hx0, hxn, hxr⟩ := HCH.out.rk i x hx
          obtain ⟨xn, rfl⟩ := Int.eq_ofNat_of_zero_le hx0
          have hxN : xn < N := by have := HN.out; omega
          have hiK : i < K := by have := HKK.out; omega
          have hd : (outD p K)[xn]? = some true := by rw [outD_at HV.out K hxn, hxr.has_ HV.out HK.out hiK hx0 hxn]
          have hs : (outD p i)[xn]? = some false := by rw [outD_at HV.out i hxn, hxr.2]
          obtain ⟨c0, o0, ec, hc0, l0⟩ := segN (SW4.out.below hbr) hx
          cases ec
          have l1 : Z.cell? ⟨bw, i, none⟩ = some (.int .i64 xn) := by simpa using l0
          have lw : bw < Z.heap.size := Nat.lt_of_lt_of_le hc0 hbr.size
          obtain ⟨c1, o1, ec, hc1, d0⟩ := segB (SD4.out.below hbr) hd
          cases ec
          have d1 : Z.cell? ⟨bd, xn, none⟩ = some (.bool true) := by simpa using d0
          have ld : bd < Z.heap.size := Nat.lt_of_lt_of_le hc1 hbr.size
          obtain ⟨c2, o2, ec, hc2, s0⟩ := segB SS.out hs
          cases ec
          have s1 : Z.cell? ⟨g, xn, none⟩ = some (.bool false) := by simpa using s0
          have HXR := Lib.hid hxr
          have HX0 := Lib.hid (And.intro hx0 hxn)
          have HCHX := Lib.hid hx
          have hxlt : decide ((xn : Int) < 0) = false := by simp
          have hxge : decide (p.n ≤ (xn : Int)) = false := by simp; omega
          have hxge' : ¬ (p.n ≤ (xn : Int)) := by omega
          clear hx0 hx hxr l0 d0 s0 hd hs hc0 hc1 hc2 hbr
          obtain ⟨k0, k1, k2, k3, k4, k5⟩ := pfCells (GP4.out.then_ HBR.out)
          have lP := (GP4.out.then_ HBR.out).lt
          have HBE : Hid (∀ (y : Int) (W : World), Below Z.heap.size Z W → Calls Try.prog 22 #[.agg (pfA p m), .int .i64 y, .int .i64 xn] W fun e w' => e = .returned (.bool (bea p y xn)) ∧ Below W.heap.size W w') := fun y W hW => rbears_any p m y xn W HV.out (PM4.out.then_ (below_then HBR.out hW))
          by_cases hi0 : i = 0
          case pos =>
            have hn0 : decide (0 < i) = false := by simp [hi0]
            have hn1 : decide (0 < (i : Int)) = false := by simp [hi0]
            clear hi0
            go_upto_region 15 with (fail)
            have rg0 := cell_regrown k0
            have rg1 := cell_regrown k1
            have rg2 := cell_regrown k2
            have rg3 := cell_regrown k3
            have rg4 := cell_regrown k4
            have rg5 := cell_regrown k5
            have rg6 := cell_regrown l1
            have rg7 := cell_regrown d1
            have rg8 := cell_regrown s1
            refine wp_region_qt [0, 1, 2, 3, 4, 5, 6, 7, 8, 9, 10, 11, 12, 13, 14, 15, 16, 17, 18, 19, 20, 21, 22, 23, 24, 25, 26, 27, 28, 29, 30, 31, 32, 33, 34, 35, 36] [] (by kernel_rfl) (by kernel_rfl) (by repeat (first | with_reducible refine panOk_then ?_ | with_reducible refine panOk_block ?_ | exact panOk_body)) ?_
            simp only [opsAt, List.getElem?_toArray, List.getElem?_cons_succ, List.getElem?_cons_zero, Option.toList_some, List.cons_append, List.nil_append]
            repeat (go_big_quiet_step (fail))
            refine wpQuiet_nil ?_
            intro W5 hw2
            have hbW5 := qt_world hw2
            clear hw2 rg0 rg1 rg2 rg3 rg4 rg5 rg6 rg7 rg8
            refine wpList_done ?_
            have HB5 := Lib.hid hbW5
            clear hbW5 hn0 hn1 k0 k1 k2 k3 k4 k5 lP l1 d1 s1 HBE
            have HOV : Hid (∀ (t : Nat) (W : World), t < N → Below Z.heap.size Z W → Calls Try.prog 15 #[.agg (pfA p m), .int .i64 t, .slice (some ⟨g, 0, none⟩) N c] W fun e w' => e = .returned (.tuple #[.bool (ovr p (Dk p i) t), .bool true]) ∧ Below W.heap.size W w') := fun t W ht hW => by
              have hn := HN.out
              have h := over_any p m (t : Int) (outD p i) (some ⟨g, 0, none⟩) c W HV.out (PM4.out.then_ (below_then HBR.out hW)) ⟨by omega, by omega⟩ (outD_len HV.out _) ((SS.out.below hW).more hW.size)
              rw [pad_outD HV.out, HLI.out, show (ow p (Dk p i) (t : Int)).isSome = true from HK.out.1.ok _ hiK _ (by omega) (by omega)] at h
              exact h
            have HOX := Lib.hid (HOV.out xn W5 hxN HB5.out)
            have hox : ovr p (Dk p i) (xn : Int) = true := by
              rw [← has_nx HV.out _ HX0.out.1 HX0.out.2]; exact HXR.out.1
            rw [hox] at HOX
            clear hox
            obtain ⟨k0, k1, k2, k3, k4, k5⟩ := pfCells (GP4.out.then_ (below_then HBR.out HB5.out))
            have lP := (GP4.out.then_ (below_then HBR.out HB5.out)).lt
            go_upto_region 20 with (go_at_call 15; (with_reducible refine HOX.out.mono ?_); rintro e w6 ⟨rfl, hk6⟩)
            have HB6 := Lib.hid (below_then HB5.out hk6)
            have HSS6 := Lib.hid ((SS.out.below HB6.out).more HB6.out.size)
            clear HOX hk6 k0 k1 k2 k3 k4 k5 lP
            go_upto_region 22 with (at_builtin; go_loud (refine wpList_append_own _ rfl (.tmp 155) (.tmp 156) _ rfl w6.heap.size 4 ri _ 1 1 Try.underlying30 hin hz0 hz1 hz2 rfl (by omega) _ 0 [] rfl (own0s _ (Nat.le_refl _) _ _) _ N c ((outD p i).map Value.bool) rfl (by rw [List.length_map, HLI.out, Nat.mul_one]) (srcB HSS6.out (wa1 _ _)) (oneB _) (by unfold maxLen; omega) (by omega) (by simp) ?_); intro v8 V8 hown hgrow hnil)
            have hb8 : Below w6.heap.size w6 V8 := (wa1 _ _).grown hgrow (by simp) (fun k hk => by cases hk; exact Nat.le_refl _)
            have hO8 : Own V8 w6.heap.size 4 1 encB v8 (outD p i) := by
              unfold Own
              rw [flatB, HLI.out]
              simpa using hown
            obtain ⟨g2, cap2, e8, _, _⟩ := Own.at_ hO8 (by rw [HLI.out]; omega)
            rw [HLI.out] at e8
            subst e8
            have HO8 := Lib.hid hO8
            have HB8 := Lib.hid hb8
            clear hown hgrow hnil hO8 hb8
            go_loopw [16] (fun y WQ => ∃ (t : Nat) (V : List Bool), y = .int .i64 t ∧ t ≤ N ∧ Hid (Own WQ w6.heap.size 4 1 encB (.slice (some ⟨g2, 0, none⟩) N cap2) V ∧ V.length = N ∧ Below w6.heap.size w6 WQ ∧ (∀ s : Nat, s < t → V[s]? = some (has (Dk p (i + 1)) s)) ∧ (∀ s : Nat, t ≤ s → V[s]? = (outD p i)[s]?))) (fun y _ => 2000 - (intOf y).toNat)
            case atStart => exact ⟨0, _, rfl, by omega, HO8.out, HLI.out, HB8.out, fun s hs => by omega, fun s _ => rfl⟩
            case round =>
              obtain ⟨t, V, rfl, ht, hh⟩ := hrel
              have HH := hh
              obtain ⟨hO, hVl, hbq, _, hV2⟩ := hh.out
              have HBQ := Lib.hid (below_then HB6.out hbq)
              obtain ⟨k0, k1, k2, k3, k4, k5⟩ := pfCells (GP4.out.then_ (below_then HBR.out HBQ.out))
              have lP := (GP4.out.then_ (below_then HBR.out HBQ.out)).lt
              by_cases htN : t < N
              · have htn : (t : Int) < p.n := by have := HN.out; omega
                obtain ⟨b, hb⟩ : ∃ b, has (Dk p i) (t : Int) = b := ⟨_, rfl⟩
                obtain ⟨mu, hmu⟩ : ∃ b, ovr p (Dk p i) (t : Int) = b := ⟨_, rfl⟩
                have hVt : V[t]? = some b := by rw [hV2 t (Nat.le_refl _), outD_at HV.out _ htn, hb]
                have hnx := next_at HV.out HK.out hiK htn
                rw [hb, hmu] at hnx
                have HNX := Lib.hid hnx
                have HO := Lib.hid (HOV.out t wr htN HBQ.out)
                rw [hmu] at HO
                have HVT := Lib.hid hVt
                clear hh hO hVl hbq hV2 hb hmu hnx hVt
                go_upto_region 25 with (go_at_call 15; (with_reducible refine HO.out.mono ?_); rintro e w7 ⟨rfl, hk7⟩)
                have HO7 := Lib.hid (Own.below HH.out.1 hk7)
                have HB7 := Lib.hid (below_then HH.out.2.2.1 hk7)
                obtain ⟨u0, fz⟩ := Own.cell1 HO7.out encB_len HVT.out rfl
                have l7 := World.ownsRow.lt HO7.out
                clear k0 k1 k2 k3 k4 k5 lP hk7 HO
                have HST : Hid (∀ s : Nat, s < t + 1 → (V.set t (b || mu))[s]? = some (has (Dk p (i + 1)) s)) := fun s hs => by
                  by_cases hst : t = s
                  · subst hst
                    rw [List.getElem?_set_self (by rw [HH.out.2.1]; omega), HNX.out]
                  · rw [List.getElem?_set_ne hst]; exact HH.out.2.2.2.1 s (by omega)
                have HSU : Hid (∀ s : Nat, t + 1 ≤ s → (V.set t (b || mu))[s]? = (outD p i)[s]?) := fun s hs => by
                  rw [List.getElem?_set_ne (by omega)]; exact HH.out.2.2.2.2 s (by omega)
                have HSW : Hid (Own (w7.setCell ⟨g2, t, none⟩ (.bool (b || mu))) w6.heap.size 4 1 encB (.slice (some ⟨g2, 0, none⟩) N cap2) (V.set t (b || mu))) := Own.set1 HO7.out encB_len HH.out.2.1 htN rfl
                have HG2 : Hid (w6.heap.size ≤ g2) := by
                  obtain ⟨_, _, e, hge, _⟩ := Own.at_ HO7.out (by rw [HH.out.2.1]; omega)
                  cases e; exact hge
                cases b
                all_goals cases mu
                all_goals
                  simp only [Bool.or_self, Bool.or_true, Bool.true_or, Bool.or_false, Bool.false_or] at HST HSU HSW
                  go_wp2
                  go_roundw
                  case rel => exact ⟨t + 1, _, by go_num, by omega, HSW.out, by rw [List.length_set]; exact HH.out.2.1, HB7.out.setCell (p := ⟨g2, t, none⟩) HG2.out _, HST.out, HSU.out⟩
                  case measure => simp [intOf]; omega
              · have htn : ¬ ((t : Int) < p.n) := by have := HN.out; omega
                have heq : V = outD p (i + 1) := by
                  have hl := outD_len HV.out (i + 1)
                  have hn := HN.out
                  refine List.ext_getElem? fun s => ?_
                  by_cases hs : s < N
                  · rw [HH.out.2.2.2.1 s (by omega), outD_at HV.out _ (by omega)]
                  · rw [List.getElem?_eq_none (by omega), List.getElem?_eq_none (by omega)]
                have HE := Lib.hid heq
                have HOF := Lib.hid hO
                clear hh hO hVl hbq hV2 heq
                go_wp2
                go_roundw
                case rel => exact ⟨i + 1, by go_num, by omega, by rw [← HE.out]; exact Own.more HOF.out (Nat.le_trans HBR.out.size HB6.out.size), below_then HBR.out HBQ.out⟩
                case measure => simp [intOf]; omega
          case neg =>
            obtain ⟨j, rfl⟩ : ∃ j, i = j + 1 := ⟨i - 1, by omega⟩
            obtain ⟨y, hy⟩ : ∃ y, ch[j]? = some y := ⟨_, List.getElem?_eq_getElem (by rw [HCH.out.len]; omega)⟩
            have hb := HCH.out.be j y xn hy HCHX.out
            have HB := Lib.hid (fun W (hW : Below Z.heap.size Z W) => HBE.out y W hW)
            rw [hb] at HB
            obtain ⟨c3, o3, ec, hc3, m0⟩ := segN (SW4.out.below HBR.out) hy
            cases ec
            have m1 : Z.cell? ⟨bw, j, none⟩ = some (.int .i64 y) := by simpa using m0
            have hn0 : decide (0 < j + 1) = true := by simp
            have hn1 : decide (0 < (j : Int) + 1) = true := decide_eq_true (by omega)
            have hmx : max (j : Int) 0 = j := by omega
            clear hb hy m0 HBE hi0
            go_upto_region 15 with (fail)
            have rg0 := cell_regrown k0
            have rg1 := cell_regrown k1
            have rg2 := cell_regrown k2
            have rg3 := cell_regrown k3
            have rg4 := cell_regrown k4
            have rg5 := cell_regrown k5
            have rg6 := cell_regrown l1
            have rg7 := cell_regrown d1
            have rg8 := cell_regrown s1
            have rg9 := cell_regrown m1
            refine wp_region_qt [0, 1, 2, 3, 4, 5, 6, 7, 8, 9, 10, 11, 12, 13, 14, 15, 16, 17, 18, 19, 20, 21, 22, 23, 24, 25, 26, 27, 28, 29, 30, 31, 32, 33, 34, 35, 36] [] (by kernel_rfl) (by kernel_rfl) (by repeat (first | with_reducible refine panOk_then ?_ | with_reducible refine panOk_block ?_ | exact panOk_body)) ?_
            simp only [opsAt, List.getElem?_toArray, List.getElem?_cons_succ, List.getElem?_cons_zero, Option.toList_some, List.cons_append, List.nil_append]
            repeat (go_big_quiet_step ((go_at_call 22; exact qt_call (fun W' hW' => HB.out W' hW') _ _)))
            refine wpQuiet_nil ?_
            intro W5 hw2
            have hbW5 := qt_world hw2
            clear hw2 rg0 rg1 rg2 rg3 rg4 rg5 rg6 rg7 rg8 rg9
            refine wpList_done ?_
            have HB5 := Lib.hid hbW5
            clear hbW5 hn0 hn1 hmx m1 k0 k1 k2 k3 k4 k5 lP l1 d1 s1 HB
            have HOV : Hid (∀ (t : Nat) (W : World), t < N → Below Z.heap.size Z W → Calls Try.prog 15 #[.agg (pfA p m), .int .i64 t, .slice (some ⟨g, 0, none⟩) N c] W fun e w' => e = .returned (.tuple #[.bool (ovr p (Dk p (j + 1)) t), .bool true]) ∧ Below W.heap.size W w') := fun t W ht hW => by
              have hn := HN.out
              have h := over_any p m (t : Int) (outD p (j + 1)) (some ⟨g, 0, none⟩) c W HV.out (PM4.out.then_ (below_then HBR.out hW)) ⟨by omega, by omega⟩ (outD_len HV.out _) ((SS.out.below hW).more hW.size)
              rw [pad_outD HV.out, HLI.out, show (ow p (Dk p (j + 1)) (t : Int)).isSome = true from HK.out.1.ok _ hiK _ (by omega) (by omega)] at h
              exact h
            have HOX := Lib.hid (HOV.out xn W5 hxN HB5.out)
            have hox : ovr p (Dk p (j + 1)) (xn : Int) = true := by
              rw [← has_nx HV.out _ HX0.out.1 HX0.out.2]; exact HXR.out.1
            rw [hox] at HOX
            clear hox
            obtain ⟨k0, k1, k2, k3, k4, k5⟩ := pfCells (GP4.out.then_ (below_then HBR.out HB5.out))
            have lP := (GP4.out.then_ (below_then HBR.out HB5.out)).lt
            go_upto_region 20 with (go_at_call 15; (with_reducible refine HOX.out.mono ?_); rintro e w6 ⟨rfl, hk6⟩)
            have HB6 := Lib.hid (below_then HB5.out hk6)
            have HSS6 := Lib.hid ((SS.out.below HB6.out).more HB6.out.size)
            clear HOX hk6 k0 k1 k2 k3 k4 k5 lP
            go_upto_region 22 with (at_builtin; go_loud (refine wpList_append_own _ rfl (.tmp 155) (.tmp 156) _ rfl w6.heap.size 4 ri _ 1 1 Try.underlying30 hin hz0 hz1 hz2 rfl (by omega) _ 0 [] rfl (own0s _ (Nat.le_refl _) _ _) _ N c ((outD p (j + 1)).map Value.bool) rfl (by rw [List.length_map, HLI.out, Nat.mul_one]) (srcB HSS6.out (wa1 _ _)) (oneB _) (by unfold maxLen; omega) (by omega) (by simp) ?_); intro v8 V8 hown hgrow hnil)
            have hb8 : Below w6.heap.size w6 V8 := (wa1 _ _).grown hgrow (by simp) (fun k hk => by cases hk; exact Nat.le_refl _)
            have hO8 : Own V8 w6.heap.size 4 1 encB v8 (outD p (j + 1)) := by
              unfold Own
              rw [flatB, HLI.out]
              simpa using hown
            obtain ⟨g2, cap2, e8, _, _⟩ := Own.at_ hO8 (by rw [HLI.out]; omega)
            rw [HLI.out] at e8
            subst e8
            have HO8 := Lib.hid hO8
            have HB8 := Lib.hid hb8
            clear hown hgrow hnil hO8 hb8
            go_loopw [16] (fun y WQ => ∃ (t : Nat) (V : List Bool), y = .int .i64 t ∧ t ≤ N ∧ Hid (Own WQ w6.heap.size 4 1 encB (.slice (some ⟨g2, 0, none⟩) N cap2) V ∧ V.length = N ∧ Below w6.heap.size w6 WQ ∧ (∀ s : Nat, s < t → V[s]? = some (has (Dk p (j + 1 + 1)) s)) ∧ (∀ s : Nat, t ≤ s → V[s]? = (outD p (j + 1))[s]?))) (fun y _ => 2000 - (intOf y).toNat)
            case atStart => exact ⟨0, _, rfl, by omega, HO8.out, HLI.out, HB8.out, fun s hs => by omega, fun s _ => rfl⟩
            case round =>
              obtain ⟨t, V, rfl, ht, hh⟩ := hrel
              have HH := hh
              obtain ⟨hO, hVl, hbq, _, hV2⟩ := hh.out
              have HBQ := Lib.hid (below_then HB6.out hbq)
              obtain ⟨k0, k1, k2, k3, k4, k5⟩ := pfCells (GP4.out.then_ (below_then HBR.out HBQ.out))
              have lP := (GP4.out.then_ (below_then HBR.out HBQ.out)).lt
              by_cases htN : t < N
              · have htn : (t : Int) < p.n := by have := HN.out; omega
                obtain ⟨b, hb⟩ : ∃ b, has (Dk p (j + 1)) (t : Int) = b := ⟨_, rfl⟩
                obtain ⟨mu, hmu⟩ : ∃ b, ovr p (Dk p (j + 1)) (t : Int) = b := ⟨_, rfl⟩
                have hVt : V[t]? = some b := by rw [hV2 t (Nat.le_refl _), outD_at HV.out _ htn, hb]
                have hnx := next_at HV.out HK.out hiK htn
                rw [hb, hmu] at hnx
                have HNX := Lib.hid hnx
                have HO := Lib.hid (HOV.out t wr htN HBQ.out)
                rw [hmu] at HO
                have HVT := Lib.hid hVt
                clear hh hO hVl hbq hV2 hb hmu hnx hVt
                go_upto_region 25 with (go_at_call 15; (with_reducible refine HO.out.mono ?_); rintro e w7 ⟨rfl, hk7⟩)
                have HO7 := Lib.hid (Own.below HH.out.1 hk7)
                have HB7 := Lib.hid (below_then HH.out.2.2.1 hk7)
                obtain ⟨u0, fz⟩ := Own.cell1 HO7.out encB_len HVT.out rfl
                have l7 := World.ownsRow.lt HO7.out
                clear k0 k1 k2 k3 k4 k5 lP hk7 HO
                have HST : Hid (∀ s : Nat, s < t + 1 → (V.set t (b || mu))[s]? = some (has (Dk p (j + 1 + 1)) s)) := fun s hs => by
                  by_cases hst : t = s
                  · subst hst
                    rw [List.getElem?_set_self (by rw [HH.out.2.1]; omega), HNX.out]
                  · rw [List.getElem?_set_ne hst]; exact HH.out.2.2.2.1 s (by omega)
                have HSU : Hid (∀ s : Nat, t + 1 ≤ s → (V.set t (b || mu))[s]? = (outD p (j + 1))[s]?) := fun s hs => by
                  rw [List.getElem?_set_ne (by omega)]; exact HH.out.2.2.2.2 s (by omega)
                have HSW : Hid (Own (w7.setCell ⟨g2, t, none⟩ (.bool (b || mu))) w6.heap.size 4 1 encB (.slice (some ⟨g2, 0, none⟩) N cap2) (V.set t (b || mu))) := Own.set1 HO7.out encB_len HH.out.2.1 htN rfl
                have HG2 : Hid (w6.heap.size ≤ g2) := by
                  obtain ⟨_, _, e, hge, _⟩ := Own.at_ HO7.out (by rw [HH.out.2.1]; omega)
                  cases e; exact hge
                cases b
                all_goals cases mu
                all_goals
                  simp only [Bool.or_self, Bool.or_true, Bool.true_or, Bool.or_false, Bool.false_or] at HST HSU HSW
                  go_wp2
                  go_roundw
                  case rel => exact ⟨t + 1, _, by go_num, by omega, HSW.out, by rw [List.length_set]; exact HH.out.2.1, HB7.out.setCell (p := ⟨g2, t, none⟩) HG2.out _, HST.out, HSU.out⟩
                  case measure => simp [intOf]; omega
              · have htn : ¬ ((t : Int) < p.n) := by have := HN.out; omega
                have heq : V = outD p (j + 1 + 1) := by
                  have hl := outD_len HV.out (j + 1 + 1)
                  have hn := HN.out
                  refine List.ext_getElem? fun s => ?_
                  by_cases hs : s < N
                  · rw [HH.out.2.2.2.1 s (by omega), outD_at HV.out _ (by omega)]
                  · rw [List.getElem?_eq_none (by omega), List.getElem?_eq_none (by omega)]
                have HE := Lib.hid heq
                have HOF := Lib.hid hO
                clear hh hO hVl hbq hV2 heq
                go_wp2
                go_roundw
                case rel => exact ⟨j + 1 + 1, by go_num, by omega, by rw [← HE.out]; exact Own.more HOF.out (Nat.le_trans HBR.out.size HB6.out.size), below_then HBR.out HBQ.out⟩
                case measure => simp [intOf]; omega
        · go_wp2
          go_ret
          exact ⟨rfl, below_then HB4.out HBR.out⟩
    · have HWH := Lib.hid (why_none p m q w2 HV.out PM2.out HOK.out HK.out hh)
      have hDq := outD_at HV.out K pa1
      rw [hh] at hDq
      have HDQ := Lib.hid hDq
      clear hh hDq
      go_upto_region 5 with (go_at_call 21; (with_reducible refine HWH.out.mono ?_); rintro e w3 ⟨rfl, hk⟩)
      have HK3 := Lib.hid hk
      clear k0 k1 k2 k3 k4 k5 lP
      obtain ⟨k0, k1, k2, k3, k4, k5⟩ := pfCells (GP2.out.then_ hk)
      have lP := (GP2.out.then_ hk).lt
      clear hk HWH
      go_upto_region 6 with (go_at_call 13; (with_reducible refine (HDF.out _ HK3.out).mono ?_); rintro e w4 ⟨⟨v, rfl, hg⟩, hk⟩)
      obtain ⟨A, c, rfl, _, sg⟩ := Own.seg hg encB_len
      have HB4 := Lib.hid (below_then HB2.out (below_then HK3.out hk))
      obtain ⟨b1, o1, ea, hb1, x0⟩ := segB sg HDQ.out
      subst ea
      clear hg sg hk HDF k0 k1 k2 k3 k4 k5 lP HDQ
      rw [hDN]
      have hqN' : decide (q < N) = true := by simp [hqN]
      go_wp2
      go_ret
      exact ⟨rfl, HB4.out⟩
  · rw [hf] at HFW
    clear hf
    have hz := Lib.hid (Below.refl w1.heap.size w1)
    go_wp2_with (go_at_call 12; (with_reducible refine (HFW.out _).mono ?_); rintro e w2 ⟨rfl, hk⟩; replace hz := Lib.hid (below_then hz.out hk); have kk := (pfCells (GP.out.then_ hz.out)); clear k0 k1 k2 k3 k4 k5 lP; obtain ⟨k0, k1, k2, k3, k4, k5⟩ := kk; have lP := (GP.out.then_ hz.out).lt; clear hk)
    go_ret
    exact ⟨rfl, below_then HB1.out hz.out⟩
end Go.Proofs.Yteoicnhnpailiaa
