/- Contracts of functions and plain laws, joined: Kbs. -/
import Derived.Test.YtcplneglfbdooaaMb18
/- The walk of merge.Commute. -/
namespace Go.Proofs.Ytcplneglfbdooaa
open Go.RowKit

theorem al2_len {c : Con} {p q : Pat} (h : (c.al [p, q]).1 = 0) (h1 : p.kind = 1) (h2 : q.kind = 1) : (c.al [p, q]).2.cl.length = c.cl.length + 2 := by
  by_cases h0 : c.apE p = 0
  · rw [al_yes _ h0] at h ⊢
    by_cases h3 : (c.ap p).apE q = 0
    · rw [al_yes _ h3]
      show (q.do_ (p.do_ c.cl)).length = _
      rw [do_add h2, do_add h1]
      simp
    · rw [al_no _ h3] at h
      exact absurd h h3
  · rw [al_no _ h0] at h
    exact absurd h h0
theorem alC_ok {c : Con} {l : List Pat} (h : (c.al l).1 = 0) : c.alC l = (c.al l).2 := by unfold Con.alC; rw [if_pos h]
set_option maxRecDepth 100000 in
set_option maxHeartbeats 6400000 in
theorem com_any (HS : Hid SameC) (c : Con) (m : Cm) (p q : Pat) (pm qm : Pm) (w : World) (h : Cont w c m) (hp : PatM w p pm) (hq : PatM w q qm) :
    Calls Try.prog 18 #[.agg (coA c m), .agg (pL p pm), .agg (pL q qm)] w fun e w' => e = .returned (.bool (c.com p q)) ∧ Below w.heap.size w w' := by
  have H1 := Lib.hid (fun W g (hb : Below w.heap.size w W) => applied2 c m p q pm qm W g (h.then_ hb) (hp.then_ hb) (hq.then_ hb))
  have H2 := Lib.hid (fun W g (hb : Below w.heap.size w W) => applied2 c m q p qm pm W g (h.then_ hb) (hq.then_ hb) (hp.then_ hb))
  obtain ⟨R, hR⟩ : ∃ R, c.com p q = R := ⟨_, rfl⟩
  rw [hR]
  have HR : Hid ((decide ((c.al [p, q]).1 = 0) && decide ((c.al [q, p]).1 = 0) && decide ((c.al [p, q]).2.cl = if p.kind = 1 ∧ q.kind = 1 then swapL c.cl.length (c.al [q, p]).2.cl else (c.al [q, p]).2.cl)) = R) := hR
  have nk := h.nk
  clear h hp hq hR
  go_enter Try.func18, Try.ntmps18
  go_upto_region 1 with (fail)
  refine name_wp ?_
  intro X hX
  have gbc : Blk X w.heap.size 27 (coA c m) := by rw [hX]; exact ((blk_at (by simp)).alloc _).alloc _
  have gbp : Blk X (w.heap.size + 1) 49 (pL p pm) := by rw [hX]; exact (blk_at (by simp)).alloc _
  have gbq : Blk X (w.heap.size + 2) 49 (pL q qm) := by rw [hX]; exact blk_at (by simp)
  have HB : Below w.heap.size w X := by rw [hX]; (repeat (first | with_reducible assumption | with_reducible exact Below.refl _ _ | with_reducible refine below_drewN ?_ _ | with_reducible refine Below.drew ?_ | with_reducible refine below_alloc ?_ _ | with_reducible refine Below.setCell ?_ (by first | omega | (simp; done) | (simp; omega)) _ | with_reducible refine below_then ?_ (by with_reducible assumption) | (refine below_then (a := World.drew _) ?_ (by with_reducible assumption))))
  clear hX
  obtain ⟨bq, ebq⟩ : ∃ b, w.heap.size + 2 = b := ⟨_, rfl⟩
  obtain ⟨bp, ebp⟩ : ∃ b, w.heap.size + 1 = b := ⟨_, rfl⟩
  obtain ⟨bc, ebc⟩ : ∃ b, w.heap.size = b := ⟨_, rfl⟩
  have lbc : w.heap.size ≤ bc := by omega
  have lbp : w.heap.size ≤ bp := by omega
  have lbq : w.heap.size ≤ bq := by omega
  have nbcbp : bc ≠ bp := by omega
  have nbcbq : bc ≠ bq := by omega
  have nbpbq : bp ≠ bq := by omega
  rw [ebq] at gbq ⊢
  rw [ebp] at gbp ⊢
  rw [ebc] at gbc ⊢
  clear ebc ebp ebq
  have HBX := Lib.hid HB
  clear HB
  go_upto_region 2 with (first | (refine wpList_row_w (by rfl) 27 _ rfl bc rfl 27 _ gbc ⟨_, Try.underlying27⟩ (by kernel_rfl) ?_; simp only [Act.put, List.setIfInBounds_toArray, List.set_cons_succ, List.set_cons_zero]) | (refine wpList_row_w (by rfl) 49 _ rfl bp rfl 49 _ gbp ⟨_, Try.underlying49⟩ (by kernel_rfl) ?_; simp only [Act.put, List.setIfInBounds_toArray, List.set_cons_succ, List.set_cons_zero]) | (refine wpList_row_w (by rfl) 49 _ rfl bq rfl 49 _ gbq ⟨_, Try.underlying49⟩ (by kernel_rfl) ?_; simp only [Act.put, List.setIfInBounds_toArray, List.set_cons_succ, List.set_cons_zero]) | (go_at_call 29; (with_reducible refine (H1.out _ _ ?hb ?hk).mono ?_); (case hb => exact below_alloc HBX.out _); (case hk => exact Blk.new _ _ _); rintro e w1 ⟨⟨m1, rfl, hc1, ho1⟩, hb1⟩) | (refine wpList_store_all rfl 27 _ _ rfl w1.heap.size 27 [] coZ.toList [] (coA (c.alC [p, q]) m1).toList rfl rfl (Blk.new _ _ _) rfl (by kernel_rfl) (by simp [Value.oneCell']) ?_; intro w2 g1 U1))
  have hX2 : Below X.heap.size X w2 := by
    have h1 : Below X.heap.size X w1 := (below_alloc (Below.refl _ _) _).trans (hb1.mono (by simp))
    exact (below_alloc h1 _).trans (U1.b _ (by have := h1.size; omega))
  have gc2 := gbc.then_ hX2
  have gp2 := gbp.then_ hX2
  have gq2 := gbq.then_ hX2
  have HB2 := Lib.hid (below_then HBX.out hX2)
  have HC2 : Hid (Cont w2 (c.alC [p, q]) m1) := hc1.then_ ((wa1 _ _).trans (U1.b _ (Nat.le_refl _)))
  obtain ⟨b1, e1⟩ : ∃ b, w1.heap.size = b := ⟨_, rfl⟩
  rw [e1] at g1 ⊢
  clear hX2 hb1 hc1 ho1 U1 e1 gbc gbp gbq HBX H1
  by_cases h1 : (c.al [p, q]).1 = 0
  · have t0 : ((c.al [p, q]).1 != 0) = false := by rw [h1]; rfl
    have HH1 := Lib.hid h1
    rw [alC_ok h1] at HC2 g1
    clear h1
    go_upto_region 5 with (first | (refine wpList_row_w (by rfl) 27 _ rfl bc rfl 27 _ gc2 ⟨_, Try.underlying27⟩ (by kernel_rfl) ?_; simp only [Act.put, List.setIfInBounds_toArray, List.set_cons_succ, List.set_cons_zero]) | (refine wpList_row_w (by rfl) 49 _ rfl bp rfl 49 _ gp2 ⟨_, Try.underlying49⟩ (by kernel_rfl) ?_; simp only [Act.put, List.setIfInBounds_toArray, List.set_cons_succ, List.set_cons_zero]) | (refine wpList_row_w (by rfl) 49 _ rfl bq rfl 49 _ gq2 ⟨_, Try.underlying49⟩ (by kernel_rfl) ?_; simp only [Act.put, List.setIfInBounds_toArray, List.set_cons_succ, List.set_cons_zero]) | (go_at_call 29; (with_reducible refine (H2.out _ _ ?hb ?hk).mono ?_); (case hb => exact below_alloc HB2.out _); (case hk => exact Blk.new _ _ _); rintro e w3 ⟨⟨m3, rfl, hc3, ho3⟩, hb3⟩) | (refine wpList_store_all rfl 27 _ _ rfl w3.heap.size 27 [] coZ.toList [] (coA (c.alC [q, p]) m3).toList rfl rfl (Blk.new _ _ _) rfl (by kernel_rfl) (by simp [Value.oneCell']) ?_; intro w4 g3 U3))
    have hX4 : Below w2.heap.size w2 w4 := by
      have h1 : Below w2.heap.size w2 w3 := (below_alloc (Below.refl _ _) _).trans (hb3.mono (by simp))
      exact (below_alloc h1 _).trans (U3.b _ (by have := h1.size; omega))
    have gc4 := gc2.then_ hX4
    have gp4 := gp2.then_ hX4
    have gq4 := gq2.then_ hX4
    have g14 := g1.then_ hX4
    have HB4 := Lib.hid (below_then HB2.out hX4)
    have HC4 : Hid (Cont w4 (c.al [p, q]).2 m1) := HC2.out.then_ hX4
    have HD4 : Hid (Cont w4 (c.alC [q, p]) m3) := hc3.then_ ((wa1 _ _).trans (U3.b _ (Nat.le_refl _)))
    obtain ⟨b3, e3⟩ : ∃ b, w3.heap.size = b := ⟨_, rfl⟩
    rw [e3] at g3 ⊢
    clear hX4 hb3 hc3 ho3 U3 e3 gc2 gp2 gq2 g1 HB2 HC2 H2
    by_cases h2 : (c.al [q, p]).1 = 0
    · have t1 : ((c.al [q, p]).1 != 0) = false := by rw [h2]; rfl
      have HH2 := Lib.hid h2
      rw [alC_ok h2] at HD4 g3
      clear h2
      have HRR : Hid (R = decide ((c.al [p, q]).2.cl = if p.kind = 1 ∧ q.kind = 1 then swapL c.cl.length (c.al [q, p]).2.cl else (c.al [q, p]).2.cl)) := by
        unfold Hid
        rw [← HR.out, HH1.out, HH2.out]; rfl
      clear HR
      obtain ⟨n, hn⟩ : ∃ n, c.cl.length = n := ⟨_, rfl⟩
      have HN := Lib.hid hn
      have HL : Hid (p.kind = 1 → q.kind = 1 → (c.al [q, p]).2.cl.length = n + 2) := fun h1 h2 => by rw [al2_len HH2.out h2 h1, hn]
      rw [hn] at HRR nk
      obtain ⟨D, hD⟩ : ∃ D, (c.al [q, p]).2 = D := ⟨_, rfl⟩
      obtain ⟨C, hC⟩ : ∃ C, (c.al [p, q]).2 = C := ⟨_, rfl⟩
      rw [hD] at HD4 g3 HRR HL
      rw [hC] at HC4 g14 HRR
      clear hD hC hn HH1 HH2
      have hlk : m3.ks.length = D.cl.length := by have := congrArg List.length HD4.out.e; simpa using this
      have nD := HD4.out.nk
      have HCL := clone_kla m3.k m3.kc m3.ks w4 (by rw [hlk]; exact HD4.out.nk) HD4.out.k (by rw [hlk]; exact HD4.out.ck)
      rw [hlk] at HCL
      have HCL := Lib.hid HCL
      have d0 : w4.cell? ⟨b3, 4, none⟩ = some (.slice m3.k D.cl.length m3.kc) := g3.cell 4
      have n4 : w4.cell? ⟨bc, 4, none⟩ = some (.slice m.k n m.kc) := by rw [← HN.out]; exact gc4.cell 4
      go_upto_region 8 with (go_at_call 42; (with_reducible refine HCL.out.mono ?_); rintro e w5 ⟨⟨v5, rfl, hO⟩, hb5⟩; obtain ⟨A5, c5, ev, hc5, _⟩ := hO.seg eK_len; rw [hlk] at ev hc5; subst ev)
      have gp5 := gp4.then_ hb5
      have gq5 := gq4.then_ hb5
      have g15 := g14.then_ hb5
      have HB5 := Lib.hid (below_then HB4.out hb5)
      have HC5 : Hid (Cont w5 C m1) := HC4.out.then_ hb5
      have HO5 := Lib.hid hO
      have HT5 : Hid (∀ x ∈ m3.ks, KOk w5 x ∧ SegP (· < w4.heap.size) x.A x.k.start) := fun x hx => ⟨(HD4.out.t x hx).then_ hb5, HD4.out.off.t x hx⟩
      have HE5 := Lib.hid HD4.out.e
      have l4 := hb5.size
      have n5 : w5.cell? ⟨bc, 4, none⟩ = some (.slice m.k n m.kc) := by rw [← HN.out]; exact (gc4.then_ hb5).cell 4
      have o5 : w5.cell? ⟨b1, 4, none⟩ = some (.slice m1.k C.cl.length m1.kc) := g15.cell 4
      have l1 := g14.lt
      have HOF : Hid (Off (· < w4.heap.size) C m1) := HC4.out.off
      have HB5W : Hid (w.heap.size ≤ w4.heap.size) := HB4.out.size
      clear hO HCL hb5 gc4 gp4 gq4 g14 HB4 HC4 HD4 d0 g3 n4
      by_cases hk : p.kind = 1 ∧ q.kind = 1
      · have k1 : (p.kind == 1) = true := by simp [hk.1]
        have k2 : (q.kind == 1) = true := by simp [hk.2]
        have hl2 := HL.out hk.1 hk.2
        rw [if_pos hk] at HRR
        clear hk HL
        obtain ⟨g, rfl⟩ := own_some HO5.out (by omega)
        obtain ⟨x, hx⟩ : ∃ x, m3.ks[n]? = some x := ⟨_, List.getElem?_eq_getElem (by omega)⟩
        obtain ⟨y, hy⟩ : ∃ y, m3.ks[n + 1]? = some y := ⟨_, List.getElem?_eq_getElem (by omega)⟩
        have lg := HO5.out.lt_
        have rx : Hid (w5.rangeAt g (n * 16) (kL x)) := fun j v hv => by
          have h := (HO5.out.getAt eK_len hlk hx (j := j) (by have := (List.getElem?_eq_some_iff.1 hv).1; simpa using this)).1
          exact h.trans hv
        have ry : Hid (w5.rangeAt g ((n + 1) * 16) (kL y)) := fun j v hv => by
          have h := (HO5.out.getAt eK_len hlk hy (j := j) (by have := (List.getElem?_eq_some_iff.1 hv).1; simpa using this)).1
          exact h.trans hv
        have hix := fun W => idx_at (t := 25) (size := 16) (cap := c5) (len := D.cl.length) (k := n) (A := some ⟨g, 0, none⟩) rfl (by omega) (by kernel_rfl) (fun W => by kernel_rfl) W
        have hiy : ∀ W, (Instr.indexAt 25 (.slice (some ⟨g, 0, none⟩) D.cl.length c5) (.int .i64 ((n : Int) + 1))).run Try.prog W = .ok (.pointer (some ⟨g, (n + 1) * 16, none⟩)) W := fun W => by
          have h := idx_at (t := 25) (size := 16) (cap := c5) (len := D.cl.length) (k := n + 1) (A := some ⟨g, 0, none⟩) rfl (by omega) (by kernel_rfl) (fun W => by kernel_rfl) W
          simpa using h
        simp only [Nat.zero_add] at hix
        have hwr := wrap_small nk
        have p0 : w5.cell? ⟨bp, 0, none⟩ = some (.int .i64 p.kind) := gp5.cell 0
        have q0 : w5.cell? ⟨bq, 0, none⟩ = some (.int .i64 q.kind) := gq5.cell 0
        have HX := Lib.hid hx
        have HY := Lib.hid hy
        have HLK := Lib.hid hlk
        clear hx hy gp5 gq5 hl2 hlk
        go_upto_region 10 with (fail)
        go_cut [] from 46 to 61 (fun W => Own W w4.heap.size 47 16 eK (.slice (some ⟨g, 0, none⟩) D.cl.length c5) ((m3.ks.set n y).set (n + 1) x) ∧ Upd w5 W g)
        case first =>
          refine wp_region_hb (fun w' => True) [0, 1, 2, 3, 4, 5, 6, 7, 8, 9, 10, 11, 12, 13, 14, 15] [16, 17] (by kernel_rfl) (by kernel_rfl) (by repeat (first | with_reducible refine panOk_then ?_ | with_reducible refine panOk_block ?_ | exact panOk_body)) trivial (fun hdir hsel hpan hHeld => ?_)
          refine wpHB_take (i := 0) (oi := ⟨some 46, _, _, _, _, _⟩) (v := .slice (some ⟨g, 0, none⟩) D.cl.length c5) hdir hsel hpan rfl (by kernel_rfl) (by kernel_rfl) (by kernel_rfl) (Or.inl ⟨by rfl, fun w hw => by rfl⟩) (by assumption) ?_
          try simp only [Act.put, List.setIfInBounds_toArray, List.set_cons_zero, List.set_cons_succ]
          refine wpHB_take (i := 1) (oi := ⟨some 47, _, _, _, _, _⟩) (v := .int .i64 n) hdir hsel hpan rfl (by kernel_rfl) (by kernel_rfl) (by kernel_rfl) (Or.inl ⟨by rfl, fun w hw => by rfl⟩) (by assumption) ?_
          try simp only [Act.put, List.setIfInBounds_toArray, List.set_cons_zero, List.set_cons_succ]
          refine wpHB_take (i := 2) (oi := ⟨some 48, _, _, _, _, _⟩) (v := .slice (some ⟨g, 0, none⟩) D.cl.length c5) hdir hsel hpan rfl (by kernel_rfl) (by kernel_rfl) (by kernel_rfl) (Or.inl ⟨by rfl, fun w hw => by rfl⟩) (by assumption) ?_
          try simp only [Act.put, List.setIfInBounds_toArray, List.set_cons_zero, List.set_cons_succ]
          refine wpHB_take (i := 3) (oi := ⟨some 49, _, _, _, _, _⟩) (v := .int .i64 n) hdir hsel hpan rfl (by kernel_rfl) (by kernel_rfl) (by kernel_rfl) (Or.inl ⟨by rfl, fun w hw => by rfl⟩) (by assumption) ?_
          try simp only [Act.put, List.setIfInBounds_toArray, List.set_cons_zero, List.set_cons_succ]
          refine wpHB_take (i := 4) (oi := ⟨some 50, _, _, _, _, _⟩) (v := .int .i64 ((n : Int) + 1)) hdir hsel hpan rfl (by kernel_rfl) (by kernel_rfl) (by kernel_rfl) (Or.inl ⟨by rfl, fun w hw => by go_simp⟩) (by assumption) ?_
          try simp only [Act.put, List.setIfInBounds_toArray, List.set_cons_zero, List.set_cons_succ]
          refine wpHB_take (i := 5) (oi := ⟨some 51, _, _, _, _, _⟩) (v := .slice (some ⟨g, 0, none⟩) D.cl.length c5) hdir hsel hpan rfl (by kernel_rfl) (by kernel_rfl) (by kernel_rfl) (Or.inl ⟨by rfl, fun w hw => by rfl⟩) (by assumption) ?_
          try simp only [Act.put, List.setIfInBounds_toArray, List.set_cons_zero, List.set_cons_succ]
          refine wpHB_take (i := 6) (oi := ⟨some 52, _, _, _, _, _⟩) (v := .int .i64 n) hdir hsel hpan rfl (by kernel_rfl) (by kernel_rfl) (by kernel_rfl) (Or.inl ⟨by rfl, fun w hw => by rfl⟩) (by assumption) ?_
          try simp only [Act.put, List.setIfInBounds_toArray, List.set_cons_zero, List.set_cons_succ]
          refine wpHB_take (i := 7) (oi := ⟨some 53, _, _, _, _, _⟩) (v := .int .i64 ((n : Int) + 1)) hdir hsel hpan rfl (by kernel_rfl) (by kernel_rfl) (by kernel_rfl) (Or.inl ⟨by rfl, fun w hw => by go_simp⟩) (by assumption) ?_
          try simp only [Act.put, List.setIfInBounds_toArray, List.set_cons_zero, List.set_cons_succ]
          refine wpHB_take (i := 8) (oi := ⟨some 54, _, _, _, _, _⟩) (v := .pointer (some ⟨g, (n + 1) * 16, none⟩)) hdir hsel hpan rfl (by kernel_rfl) (by kernel_rfl) (by kernel_rfl) (Or.inl ⟨by rfl, fun w hw => by have h := hiy w; go_simp⟩) (by assumption) ?_
          try simp only [Act.put, List.setIfInBounds_toArray, List.set_cons_zero, List.set_cons_succ]
          refine wpHB_take (i := 10) (oi := ⟨some 56, _, _, _, _, _⟩) (v := .slice (some ⟨g, 0, none⟩) D.cl.length c5) hdir hsel hpan rfl (by kernel_rfl) (by kernel_rfl) (by kernel_rfl) (Or.inl ⟨by rfl, fun w hw => by rfl⟩) (by assumption) ?_
          try simp only [Act.put, List.setIfInBounds_toArray, List.set_cons_zero, List.set_cons_succ]
          refine wpHB_take (i := 11) (oi := ⟨some 57, _, _, _, _, _⟩) (v := .int .i64 n) hdir hsel hpan rfl (by kernel_rfl) (by kernel_rfl) (by kernel_rfl) (Or.inl ⟨by rfl, fun w hw => by rfl⟩) (by assumption) ?_
          try simp only [Act.put, List.setIfInBounds_toArray, List.set_cons_zero, List.set_cons_succ]
          refine wpHB_take (i := 12) (oi := ⟨some 58, _, _, _, _, _⟩) (v := .pointer (some ⟨g, n * 16, none⟩)) hdir hsel hpan rfl (by kernel_rfl) (by kernel_rfl) (by kernel_rfl) (Or.inl ⟨by rfl, fun w hw => by have h := hix w; go_simp⟩) (by assumption) ?_
          try simp only [Act.put, List.setIfInBounds_toArray, List.set_cons_zero, List.set_cons_succ]
          refine wpHB_ready (rs := [9, 13]) (by kernel_rfl) (by simp) ?_
          refine AllHB.cons (by kernel_rfl) (o := ⟨some 55, _, _, _, _, _⟩) rfl (fun K hK => ?_) ?_
          · rw [if_pos (by rfl)]
            refine wp_load_mid 47 _ rfl g _ rfl (kL y) _ ((World.rangeAt_drew _ _ _ _).2 ry.out) Try.underlying47 rfl (by kernel_rfl) ?_
            refine hK.out _ _ trivial (fun hHeld2 => ?_)
            clear hK K hHeld
            have hHeld := hHeld2
            clear hHeld2
            try simp only [Act.put, List.setIfInBounds_toArray, List.set_cons_zero, List.set_cons_succ]
            refine wpHB_ready (rs := [13]) (by kernel_rfl) (by simp) ?_
            refine AllHB.cons (by kernel_rfl) (o := ⟨some 59, _, _, _, _, _⟩) rfl (fun K hK => ?_) AllHB.nil
            rw [if_pos (by rfl)]
            refine wp_load_mid 47 _ rfl g _ rfl (kL x) _ ((World.rangeAt_drew _ _ _ _).2 rx.out) Try.underlying47 rfl (by kernel_rfl) ?_
            refine hK.out _ _ trivial (fun hHeld2 => ?_)
            clear hK K hHeld
            have hHeld := hHeld2
            clear hHeld2
            try simp only [Act.put, List.setIfInBounds_toArray, List.set_cons_zero, List.set_cons_succ]
            refine wpHB_take (i := 14) (oi := ⟨some 60, _, _, _, _, _⟩) (v := .pointer (some ⟨g, n * 16, none⟩)) hdir hsel hpan rfl (by kernel_rfl) (by kernel_rfl) (by kernel_rfl) (Or.inl ⟨by rfl, fun w hw => by have h := hix w; go_simp⟩) (by assumption) ?_
            try simp only [Act.put, List.setIfInBounds_toArray, List.set_cons_zero, List.set_cons_succ]
            refine wpHB_ready (rs := [15]) (by kernel_rfl) (by simp) ?_
            refine AllHB.cons (by kernel_rfl) (o := ⟨none, _, _, _, _, _⟩) rfl (fun K hK => ?_) AllHB.nil
            rw [if_pos (by rfl)]
            refine wp_store_el 47 _ _ rfl (show Own w5.drew w4.heap.size 47 16 eK (.slice (some ⟨g, 0, none⟩) D.cl.length c5) m3.ks from HO5.out) eK_len HLK.out HX.out y rfl rfl (by kernel_rfl) (by simp [eK, Value.oneCell']) ?_
            intro w6 hO6 U6
            refine hK.out _ _ trivial (fun hHeld2 => ?_)
            clear hK K hHeld
            have hHeld := hHeld2
            clear hHeld2
            try simp only [Act.put]
            refine wpHB_tail (by kernel_rfl) (by kernel_rfl) ?_
            clear hdir hsel hpan
            simp only [opsAt, List.getElem?_toArray, List.getElem?_cons_succ, List.getElem?_cons_zero, Option.toList_some, List.cons_append, List.nil_append]
            go_upto_region 11 with (refine wpList_store_el rfl 47 _ _ rfl hO6 eK_len (by rw [List.length_set]; exact HLK.out) (k := n + 1) (z := y) (by rw [List.getElem?_set_ne (by omega)]; exact HY.out) x rfl rfl (by kernel_rfl) (by simp [eK, Value.oneCell']) ?_; intro w7 hO7 U7)
            go_meet
            case rel => exact ⟨hO7, ⟨fun B hB => (Below.drew (Below.refl _ _)).trans ((U6.trans U7).b B hB), (U6.trans U7).f, (U6.trans U7).s⟩⟩
          refine AllHB.cons (by kernel_rfl) (o := ⟨some 59, _, _, _, _, _⟩) rfl (fun K hK => ?_) ?_
          · rw [if_pos (by rfl)]
            refine wp_load_mid 47 _ rfl g _ rfl (kL x) _ ((World.rangeAt_drew _ _ _ _).2 rx.out) Try.underlying47 rfl (by kernel_rfl) ?_
            refine hK.out _ _ trivial (fun hHeld2 => ?_)
            clear hK K hHeld
            have hHeld := hHeld2
            clear hHeld2
            try simp only [Act.put, List.setIfInBounds_toArray, List.set_cons_zero, List.set_cons_succ]
            refine wpHB_ready (rs := [9]) (by kernel_rfl) (by simp) ?_
            refine AllHB.cons (by kernel_rfl) (o := ⟨some 55, _, _, _, _, _⟩) rfl (fun K hK => ?_) AllHB.nil
            rw [if_pos (by rfl)]
            refine wp_load_mid 47 _ rfl g _ rfl (kL y) _ ((World.rangeAt_drew _ _ _ _).2 ry.out) Try.underlying47 rfl (by kernel_rfl) ?_
            refine hK.out _ _ trivial (fun hHeld2 => ?_)
            clear hK K hHeld
            have hHeld := hHeld2
            clear hHeld2
            try simp only [Act.put, List.setIfInBounds_toArray, List.set_cons_zero, List.set_cons_succ]
            refine wpHB_take (i := 14) (oi := ⟨some 60, _, _, _, _, _⟩) (v := .pointer (some ⟨g, n * 16, none⟩)) hdir hsel hpan rfl (by kernel_rfl) (by kernel_rfl) (by kernel_rfl) (Or.inl ⟨by rfl, fun w hw => by have h := hix w; go_simp⟩) (by assumption) ?_
            try simp only [Act.put, List.setIfInBounds_toArray, List.set_cons_zero, List.set_cons_succ]
            refine wpHB_ready (rs := [15]) (by kernel_rfl) (by simp) ?_
            refine AllHB.cons (by kernel_rfl) (o := ⟨none, _, _, _, _, _⟩) rfl (fun K hK => ?_) AllHB.nil
            rw [if_pos (by rfl)]
            refine wp_store_el 47 _ _ rfl (show Own w5.drew w4.heap.size 47 16 eK (.slice (some ⟨g, 0, none⟩) D.cl.length c5) m3.ks from HO5.out) eK_len HLK.out HX.out y rfl rfl (by kernel_rfl) (by simp [eK, Value.oneCell']) ?_
            intro w6 hO6 U6
            refine hK.out _ _ trivial (fun hHeld2 => ?_)
            clear hK K hHeld
            have hHeld := hHeld2
            clear hHeld2
            try simp only [Act.put]
            refine wpHB_tail (by kernel_rfl) (by kernel_rfl) ?_
            clear hdir hsel hpan
            simp only [opsAt, List.getElem?_toArray, List.getElem?_cons_succ, List.getElem?_cons_zero, Option.toList_some, List.cons_append, List.nil_append]
            go_upto_region 11 with (refine wpList_store_el rfl 47 _ _ rfl hO6 eK_len (by rw [List.length_set]; exact HLK.out) (k := n + 1) (z := y) (by rw [List.getElem?_set_ne (by omega)]; exact HY.out) x rfl rfl (by kernel_rfl) (by simp [eK, Value.oneCell']) ?_; intro w7 hO7 U7)
            go_meet
            case rel => exact ⟨hO7, ⟨fun B hB => (Below.drew (Below.refl _ _)).trans ((U6.trans U7).b B hB), (U6.trans U7).f, (U6.trans U7).s⟩⟩
          exact AllHB.nil
        obtain ⟨hO7, U⟩ := hcut
        obtain ⟨w7, e7⟩ : ∃ W, wc = W := ⟨_, rfl⟩
        rw [e7] at hO7 U ⊢
        clear e7 hix hiy rx ry
        have HT7 : Hid (∀ z ∈ (m3.ks.set n y).set (n + 1) x, KOk w7 z) := by
          have h1 : ∀ z ∈ m3.ks, KOk w7 z := fun z hz => by
            obtain ⟨h2, h3⟩ := HT5.out z hz
            exact ⟨by rw [U.s]; exact h2.s.upd2 U (h3.mono fun b hb e => by omega), h2.v, h2.n, h2.c⟩
          exact mem_set (mem_set h1 n (h1 y (List.mem_of_getElem? HY.out))) (n + 1) (h1 x (List.mem_of_getElem? HX.out))
        have HC7 : Hid (Cont w7 C m1) := HC5.out.upd U (HOF.out.mono fun b hb e => by omega)
        have HB7 : Hid (Below w.heap.size w w7) := HB5.out.trans (U.b _ (by have := HB5W.out; omega))
        have o7 : w7.cell? ⟨b1, 4, none⟩ = some (.slice m1.k C.cl.length m1.kc) := (U.cell (x := b1) (by omega)).trans o5
        have hl7 : ((m3.ks.set n y).set (n + 1) x).length = D.cl.length := by rw [List.length_set, List.length_set]; exact HLK.out
        have hlC : m1.ks.length = C.cl.length := by have := congrArg List.length HC7.out.e; simpa using this
        have HEQ := eqf_key HS m1.k (some ⟨g, 0, none⟩) m1.kc c5 m1.ks ((m3.ks.set n y).set (n + 1) x) w7 HC7.out.k (hO7.segA eK_len) HC7.out.t HT7.out (by rw [hlC]; exact HC7.out.nk)
        rw [hl7, hlC] at HEQ
        have hfin : decide (m1.ks.map (·.k) = ((m3.ks.set n y).set (n + 1) x).map (·.k)) = R := by
          rw [HRR.out, HC7.out.e, List.map_set, List.map_set, HE5.out]
          have a1 : D.cl[n]? = some x.k := by rw [← HE5.out, List.getElem?_map, HX.out]; rfl
          have a2 : D.cl[n + 1]? = some y.k := by rw [← HE5.out, List.getElem?_map, HY.out]; rfl
          have : swapL n D.cl = (D.cl.set n y.k).set (n + 1) x.k := by unfold swapL; rw [a1, a2]
          rw [this]
        rw [hfin] at HEQ
        have HEQ := Lib.hid HEQ
        clear o5 hO7 U hfin
        go_wp2_with (go_at_call 43; (with_reducible refine HEQ.out.mono ?_); rintro e w8 ⟨rfl, hb8⟩)
        go_ret
        exact ⟨rfl, below_then HB7.out hb8⟩
      · rw [if_neg hk] at HRR
        have HEQ := eqf_key HS m1.k A5 m1.kc c5 m1.ks m3.ks w5 HC5.out.k (HO5.out.segA eK_len) HC5.out.t (fun x hx => (HT5.out x hx).1) (by have := congrArg List.length HC5.out.e; simp at this; rw [this]; exact HC5.out.nk)
        have hlC : m1.ks.length = C.cl.length := by have := congrArg List.length HC5.out.e; simpa using this
        rw [hlk, hlC, HC5.out.e, HE5.out, ← HRR.out] at HEQ
        have HEQ := Lib.hid HEQ
        have p0 : w5.cell? ⟨bp, 0, none⟩ = some (.int .i64 p.kind) := gp5.cell 0
        have q0 : w5.cell? ⟨bq, 0, none⟩ = some (.int .i64 q.kind) := gq5.cell 0
        by_cases k1 : p.kind = 1
        · have t2 : (p.kind == 1) = true := by simp [k1]
          have t3 : (q.kind == 1) = false := by simp; intro e; exact hk ⟨k1, e⟩
          clear hk k1
          go_wp2_with (go_at_call 43; (with_reducible refine HEQ.out.mono ?_); rintro e w8 ⟨rfl, hb8⟩)
          go_ret
          exact ⟨rfl, below_then HB5.out hb8⟩
        · have t2 : (p.kind == 1) = false := by simp [k1]
          clear hk k1
          go_wp2_with (go_at_call 43; (with_reducible refine HEQ.out.mono ?_); rintro e w8 ⟨rfl, hb8⟩)
          go_ret
          exact ⟨rfl, below_then HB5.out hb8⟩
    · have t1 : ((c.al [q, p]).1 != 0) = true := by simpa using h2
      have hf : Hid (R = false) := by unfold Hid; rw [← HR.out, decide_eq_false h2, Bool.and_false]; rfl
      clear h2
      go_wp2
      go_ret
      exact ⟨ret_bool hf.out.symm, HB4.out⟩
  · have t0 : ((c.al [p, q]).1 != 0) = true := by simpa using h1
    have hf : Hid (R = false) := by unfold Hid; rw [← HR.out, decide_eq_false h1]; rfl
    clear h1
    go_wp2
    go_ret
    exact ⟨ret_bool hf.out.symm, HB2.out⟩
end Go.Proofs.Ytcplneglfbdooaa
