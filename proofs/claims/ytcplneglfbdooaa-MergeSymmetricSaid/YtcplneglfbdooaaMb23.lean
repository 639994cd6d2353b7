/- Contracts of functions and plain laws, joined: Kbw, Krl, Krm. -/
import Derived.Test.YtcplneglfbdooaaMb22
import Derived.Test.YtcplneglfbdooaaMb17
/- The walk of merge.Merge. -/
namespace Go.Proofs.Ytcplneglfbdooaa
open Go.RowKit

theorem ret_sae {P : Program} {fn : Func} {a : Act} {w : World} {q r s g : Nat} {t e : TypeId} {n : Nat} {cs : Array Value} (hres : fn.results = #[.tmp q, .cell r t, .tmp s]) (hp : a.tmps.getD r undef = .pointer (some ⟨g, 0, none⟩)) (hk : Blk w g t cs) (hu : P.underlying t = some (.array n e)) (hi : (P.info? t).map (·.size) = some cs.size) :
    (results fn a.tmps).run P w = .ok (.tuple #[a.tmps.getD q undef, .agg cs, a.tmps.getD s undef]) w := by
  have h1 := run_loadVar_row w g t t cs (0, 0) _ hk hu rfl hi
  rw [Array.getD_eq_getD_getElem?] at hp
  have ha : (isAgg t).run P w = .ok true w := by simp [isAgg, run_underlying hu, Result.andThen]
  simp only [go_sem] at h1
  simp [results, hres, hp, go_sem, ha]
  simp [ha] at h1
  rw [h1]
  rfl
def mrM (O : Option (Nat × Nat)) : Int × Nat × Nat := match O with
  | some (i, j) => (16, i, j)
  | none => (0, 0, 0)
/-- what Merge gives -/
def MrgR (c : Con) (l r : List Pat) (W : World) (e : Ending) (w' : World) : Prop :=
  (∃ (A : Option Addr) (cap : Nat) (M : List Pk), e = .returned (.tuple #[.slice A M.length cap, .agg (pairA (c.mrE l r).2.1 (c.mrE l r).2.2), .int .i64 (c.mrE l r).1]) ∧ pats M = (if (c.mrE l r).1 = 0 then c.mrL l r else []) ∧ Pats w' A M ∧ M.length ≤ cap) ∧ Below W.heap.size W w'
theorem mrgR_no {c : Con} {l r : List Pat} {E : Int} {i j : Nat} (h : c.mrE l r = (E, i, j)) (hE : E ≠ 0) {W w' : World} (hb : Below W.heap.size W w') : MrgR c l r W (.returned (.tuple #[.slice none 0 0, .agg (pairA i j), .int .i64 E])) w' := by
  refine ⟨⟨none, 0, [], ?_, ?_, ⟨Seg.nil _ _ _ _ _, fun x hx => (by cases hx), by decide⟩, Nat.le_refl _⟩, hb⟩
  · rw [h]; rfl
  · rw [h, if_neg hE]; rfl
theorem Mrg.pats {w : World} {B : Nat} {A : Option Addr} {n cap : Nat} {M : List Pk} (h : Mrg w B (.slice A n cap) M) (hl : M.length ≤ 1000000) : Pats w A M := ⟨h.o.segA eP_len, fun x hx => (h.t x hx).1.m (h.t x hx).2, hl⟩
set_option maxRecDepth 100000 in
set_option maxHeartbeats 6400000 in
theorem merge_any (HS : Hid SameC) (c : Con) (m : Cm) (L R : List Pk) (A1 A2 : Option Addr) (k1 k2 : Nat) (w : World) (h : Cont w c m) (hL : Pats w A1 L) (hR : Pats w A2 R) (hc1 : L.length ≤ k1) :
    Calls Try.prog 13 #[.agg (coA c m), .slice A1 L.length k1, .slice A2 R.length k2] w fun e w' => MrgR c (pats L) (pats R) w e w' := by
  have HAL := Lib.hid (fun W (hb : Below w.heap.size w W) => all_any c m L A1 k1 W (h.then_ hb) (hL.then_ hb))
  have HAR := Lib.hid (fun W (hb : Below w.heap.size w W) => all_any c m R A2 k2 W (h.then_ hb) (hR.then_ hb))
  have HCO := Lib.hid (fun hs W (hb : Below w.heap.size w W) => conflict_any HS c m L R A1 A2 k1 k2 W (h.then_ hb) (hL.then_ hb) (hR.then_ hb) hc1 hs)
  have HL := Lib.hid hL
  have HR := Lib.hid hR
  have nL := hL.n
  have nR := hR.n
  have ix0 : ∀ W, (Instr.index 71 (.agg #[.slice A1 L.length k1, .slice A2 R.length k2]) (.int .i64 0)).run Try.prog W = .ok (.slice A1 L.length k1) W := fun W => by kernel_rfl
  have ix1 : ∀ W, (Instr.index 71 (.agg #[.slice A1 L.length k1, .slice A2 R.length k2]) (.int .i64 1)).run Try.prog W = .ok (.slice A2 R.length k2) W := fun W => by kernel_rfl
  clear h hL hR
  go_enter Try.func13, Try.ntmps13
  go_upto_region 1 with (fail)
  refine name_wp ?_
  intro X hX
  have gbc : Blk X w.heap.size 27 (coA c m) := by rw [hX]; exact (blk_at (by simp)).alloc _
  have gbr : Blk X (w.heap.size + 1) 36 (pairA 0 0) := by rw [hX]; exact blk_at (by simp)
  have HB : Below w.heap.size w X := by rw [hX]; (repeat (first | with_reducible assumption | with_reducible exact Below.refl _ _ | with_reducible refine below_drewN ?_ _ | with_reducible refine Below.drew ?_ | with_reducible refine below_alloc ?_ _ | with_reducible refine Below.setCell ?_ (by first | omega | (simp; done) | (simp; omega)) _ | with_reducible refine below_then ?_ (by with_reducible assumption) | (refine below_then (a := World.drew _) ?_ (by with_reducible assumption))))
  clear hX
  obtain ⟨br, ebr⟩ : ∃ b, w.heap.size + 1 = b := ⟨_, rfl⟩
  obtain ⟨bc, ebc⟩ : ∃ b, w.heap.size = b := ⟨_, rfl⟩
  have lbc : w.heap.size ≤ bc := by omega
  have lbr : w.heap.size ≤ br := by omega
  have nbcbr : bc ≠ br := by omega
  rw [ebr] at gbr ⊢
  rw [ebc] at gbc ⊢
  clear ebc ebr
  have HB0 := Lib.hid HB
  have GC0 := Lib.hid gbc
  have GR0 := Lib.hid gbr
  clear HB gbc gbr
  go_upto_region 2 with (fail)
  go_loopw [25] (fun y WR => ∃ (i : Nat), ((i = 0 ∧ y = .int .i64 0) ∨ (i = 1 ∧ y = .int .i64 1) ∨ (i = 2 ∧ y = .int .i64 2)) ∧ Hid (0 < i → c.allE (pats L) = 0) ∧ Hid (1 < i → c.allE (pats R) = 0) ∧ Hid (Blk WR bc 27 (coA c m)) ∧ Hid (Blk WR br 36 (pairA 0 0)) ∧ Hid (Below w.heap.size w WR)) (fun y _ => 10 - (intOf y).toNat)
  case atStart => exact ⟨0, .inl ⟨rfl, rfl⟩, fun h => by omega, fun h => by omega, GC0, GR0, HB0⟩
  case round =>
    clear GC0 GR0 HB0
    obtain ⟨i, hy, hE1, hE2, hc, hr, hB⟩ := hrel
    have gc := hc.out
    have hB1 := hB.out
    rcases hy with ⟨rfl, rfl⟩ | ⟨rfl, rfl⟩ | ⟨rfl, rfl⟩
    · go_upto_region 5 with (first | (refine wpList_row_w (by rfl) 27 _ rfl bc rfl 27 _ gc ⟨_, Try.underlying27⟩ (by kernel_rfl) ?_; simp only [Act.put, List.setIfInBounds_toArray, List.set_cons_succ, List.set_cons_zero]) | (go_at_call 11; (with_reducible refine (HAL.out _ hB1).mono ?_); rintro e w1 ⟨⟨m1, rfl, hc1'⟩, hb1⟩) | (refine wpList_store_all rfl 27 _ _ rfl w1.heap.size 27 [] coZ.toList [] (coA (c.allC (pats L)) m1).toList rfl rfl (Blk.new _ _ _) rfl (by kernel_rfl) (by simp [Value.oneCell']) ?_; intro w2 g2 U2))
      have h12 : Below wr.heap.size wr w2 := (below_alloc hb1 _).trans (U2.b _ hb1.size)
      have gc2 := Lib.hid (gc.then_ h12)
      have gr2 := hr.out.then_ h12
      have HB2 := Lib.hid (below_then hB1 h12)
      clear hc hr gc g2 U2 hb1 hc1' h12
      by_cases hE : c.allE (pats L) ≠ 0
      · have t0 : (c.allE (pats L) != 0) = true := by simpa using hE
        have hM : Hid (c.mrE (pats L) (pats R) = (c.allE (pats L), 0, 0)) := by unfold Hid Con.mrE; rw [if_pos hE]
        have hE' := Lib.hid hE
        clear hE
        go_wp2_with (refine wpList_store_all rfl 36 _ _ rfl br 36 [] (pairA 0 0).toList [] (pairA 0 0).toList rfl rfl gr2 rfl (by kernel_rfl) (by simp [Value.oneCell']) ?_; intro we ge ue)
        refine bodyPost_ret (ret_sae rfl rfl ge Try.underlying36 (by kernel_rfl)) rfl ?_
        exact mrgR_no hM.out hE'.out (HB2.out.trans (ue.b _ lbr))
      · have hE0 : c.allE (pats L) = 0 := by omega
        have t0 : (c.allE (pats L) != 0) = false := by rw [hE0]; rfl
        have HE := Lib.hid hE0
        have GR2 := Lib.hid gr2
        clear hE hE0 gr2
        go_wp2
        go_roundw
        case rel => exact ⟨1, .inr (.inl ⟨rfl, by simp⟩), fun _ => HE.out, fun _ => by omega, gc2, GR2, HB2⟩
        case measure => simp [intOf]
    · go_upto_region 5 with (first | (refine wpList_row_w (by rfl) 27 _ rfl bc rfl 27 _ gc ⟨_, Try.underlying27⟩ (by kernel_rfl) ?_; simp only [Act.put, List.setIfInBounds_toArray, List.set_cons_succ, List.set_cons_zero]) | (go_at_call 11; (with_reducible refine (HAR.out _ hB1).mono ?_); rintro e w1 ⟨⟨m1, rfl, hc1'⟩, hb1⟩) | (refine wpList_store_all rfl 27 _ _ rfl w1.heap.size 27 [] coZ.toList [] (coA (c.allC (pats R)) m1).toList rfl rfl (Blk.new _ _ _) rfl (by kernel_rfl) (by simp [Value.oneCell']) ?_; intro w2 g2 U2))
      have h12 : Below wr.heap.size wr w2 := (below_alloc hb1 _).trans (U2.b _ hb1.size)
      have gc2 := Lib.hid (gc.then_ h12)
      have gr2 := hr.out.then_ h12
      have HB2 := Lib.hid (below_then hB1 h12)
      clear hc hr gc g2 U2 hb1 hc1' h12
      by_cases hE : c.allE (pats R) ≠ 0
      · have t0 : (c.allE (pats R) != 0) = true := by simpa using hE
        have hM : Hid (c.mrE (pats L) (pats R) = (c.allE (pats R), 0, 0)) := by unfold Hid Con.mrE; rw [if_neg (by have := hE1.out (by omega); omega), if_pos hE]
        have hE' := Lib.hid hE
        clear hE
        go_wp2_with (refine wpList_store_all rfl 36 _ _ rfl br 36 [] (pairA 0 0).toList [] (pairA 0 0).toList rfl rfl gr2 rfl (by kernel_rfl) (by simp [Value.oneCell']) ?_; intro we ge ue)
        refine bodyPost_ret (ret_sae rfl rfl ge Try.underlying36 (by kernel_rfl)) rfl ?_
        exact mrgR_no hM.out hE'.out (HB2.out.trans (ue.b _ lbr))
      · have hE0 : c.allE (pats R) = 0 := by omega
        have t0 : (c.allE (pats R) != 0) = false := by rw [hE0]; rfl
        have HE := Lib.hid hE0
        have GR2 := Lib.hid gr2
        clear hE hE0 gr2
        go_wp2
        go_roundw
        case rel => exact ⟨2, .inr (.inr ⟨rfl, by simp⟩), fun _ => hE1.out (by omega), fun _ => HE.out, gc2, GR2, HB2⟩
        case measure => simp [intOf]
    · have HE1 : Hid (c.allE (pats L) = 0) := hE1.out (by omega)
      have HE2 : Hid (c.allE (pats R) = 0) := hE2.out (by omega)
      clear hE1 hE2
      have SML := Lib.hid (al_sm HE1.out)
      have SMR := Lib.hid (al_sm HE2.out)
      have hn4 : c.cl.length ≤ 400 := by
        have := (allE_ok HE1.out).1
        unfold Con.ok Con.lim at this
        simp only [Bool.and_eq_true, decide_eq_true_eq] at this
        exact this.1.1.2
      obtain ⟨n, hn⟩ : ∃ n, c.cl.length = n := ⟨_, rfl⟩
      obtain ⟨a, ha⟩ : ∃ a, addsN (pats L) = a := ⟨_, rfl⟩
      obtain ⟨b, hb⟩ : ∃ b, addsN (pats R) = b := ⟨_, rfl⟩
      have la : a ≤ L.length := by rw [← ha]; have := addsN_le (pats L); simpa using this
      have lb : b ≤ R.length := by rw [← hb]; have := addsN_le (pats R); simpa using this
      rw [hn] at hn4
      have HN := Lib.hid hn
      have HMR : Hid (c.mrE (pats L) (pats R) = if 60 < L.length + R.length ∨ 400 < n + a + b then ((3, 0, 0) : Int × Nat × Nat) else mrM (outer c.cl.length (pats R) c 0 0 (pats L))) := by
        unfold Hid Con.mrE
        rw [if_neg (by rw [HE1.out]; simp), if_neg (by rw [HE2.out]; simp), hn, ha, hb, List.length_map, List.length_map]
        rfl
      have HLL : Hid (c.mrL (pats L) (pats R) = (pats L).map (fun p => p.ren n 0) ++ (pats R).map (fun q => q.ren n a)) := by
        unfold Hid Con.mrL; rw [hn, ha]
      have HD1 : Hid (∀ W, Below wr.heap.size wr W → Calls Try.prog 32 #[.slice A1 L.length k1] W fun e w' => e = .returned (.int .i64 (a : Nat)) ∧ Below W.heap.size W w') := fun W hW => by
        have h := added_any L A1 k1 W ((HL.out.then_ (below_then hB1 hW)).s) nL
        rw [ha] at h; exact h
      have HD2 : Hid (∀ W, Below wr.heap.size wr W → Calls Try.prog 32 #[.slice A2 R.length k2] W fun e w' => e = .returned (.int .i64 (b : Nat)) ∧ Below W.heap.size W w') := fun W hW => by
        have h := added_any R A2 k2 W ((HR.out.then_ (below_then hB1 hW)).s) nR
        rw [hb] at h; exact h
      have k4 : wr.cell? ⟨bc, 4, none⟩ = some (.slice m.k n m.kc) := by rw [← HN.out]; exact gc.cell 4
      clear hn ha hb HE1 HE2 HAL HAR ix0 ix1
      go_upto_region 8 with (fail)
      have rg0 := cell_regrown k4
      refine wp_region_qt [0, 1, 2, 3, 4, 5, 6] [] (by kernel_rfl) (by kernel_rfl) (by repeat (first | with_reducible refine panOk_then ?_ | with_reducible refine panOk_block ?_ | exact panOk_body)) ?_
      simp only [opsAt, List.getElem?_toArray, List.getElem?_cons_succ, List.getElem?_cons_zero, Option.toList_some, List.cons_append, List.nil_append]
      repeat (go_big_quiet_step ((go_at_call 32; with_reducible exact qt_call (fun W' hW' => HD1.out W' hW') _ _)))
      refine wpQuiet_nil ?_
      intro V hw2
      have hbV := qt_world hw2
      clear hw2 rg0
      refine wpList_done ?_
      have gcV := Lib.hid (gc.then_ hbV)
      have grV := Lib.hid (hr.out.then_ hbV)
      have HBV := Lib.hid (below_then hB1 hbV)
      have HD3 : Hid (∀ W, Below V.heap.size V W → Calls Try.prog 32 #[.slice A2 R.length k2] W fun e w' => e = .returned (.int .i64 (b : Nat)) ∧ Below W.heap.size W w') := fun W hW => HD2.out W (below_then hbV hW)
      have w1 : IntKind.i64.wrap ((L.length : Int) + (R.length : Int)) = (L.length : Int) + (R.length : Int) := by rw [IntKind.wrap_i64]; omega
      have w2 : IntKind.i64.wrap ((n : Int) + (a : Int)) = (n : Int) + (a : Int) := by rw [IntKind.wrap_i64]; omega
      have w3 : IntKind.i64.wrap ((n : Int) + (a : Int) + (b : Int)) = (n : Int) + (a : Int) + (b : Int) := by rw [IntKind.wrap_i64]; omega
      clear gc hc hr hB hB1 hbV HD1 HD2 k4
      go_upto_region 9 with (fail)
      have hzV := Below.refl V.heap.size V
      go_cut [58] from 44 to 57 (fun v W => v = .bool (decide (60 < L.length + R.length ∨ 400 < n + a + b)) ∧ Below V.heap.size V W)
      case first =>
        by_cases q1 : 60 < L.length + R.length
        · have t1 : decide ((60 : Int) < (L.length : Int) + (R.length : Int)) = true := decide_eq_true (by omega)
          have hd : Hid (decide (60 < L.length + R.length ∨ 400 < n + a + b) = true) := decide_eq_true (.inl q1)
          clear q1
          go_wp2
          go_meet
          case rel => exact ⟨by rw [hd.out], hzV⟩
        · have t1 : decide ((60 : Int) < (L.length : Int) + (R.length : Int)) = false := decide_eq_false (by omega)
          by_cases q2 : 400 < n + a + b
          · have t2 : decide ((400 : Int) < (n : Int) + (a : Int) + (b : Int)) = true := decide_eq_true (by omega)
            have hd : Hid (decide (60 < L.length + R.length ∨ 400 < n + a + b) = true) := decide_eq_true (.inr q2)
            clear q1 q2
            go_wp2_with (go_at_call 32; (with_reducible refine (HD3.out _ hzV).mono ?_); rintro e w5 ⟨rfl, hb5⟩)
            go_meet
            case rel => exact ⟨by rw [hd.out], hb5⟩
          · have t2 : decide ((400 : Int) < (n : Int) + (a : Int) + (b : Int)) = false := decide_eq_false (by omega)
            have hd : Hid (decide (60 < L.length + R.length ∨ 400 < n + a + b) = false) := decide_eq_false (by omega)
            clear q1 q2
            go_wp2_with (go_at_call 32; (with_reducible refine (HD3.out _ hzV).mono ?_); rintro e w5 ⟨rfl, hb5⟩)
            go_meet
            case rel => exact ⟨by rw [hd.out], hb5⟩
      obtain ⟨rfl, hb9⟩ := hcut
      obtain ⟨V1, eV⟩ : ∃ W, wc = W := ⟨_, rfl⟩
      rw [eV] at hb9 ⊢
      have gc1 := gcV.out.then_ hb9
      have gr1 := grV.out.then_ hb9
      have HB1 := Lib.hid (below_then HBV.out hb9)
      clear eV hb9 hzV gcV grV HBV HD3 w1 w2 w3
      by_cases hlim : 60 < L.length + R.length ∨ 400 < n + a + b
      · have td : decide (60 < L.length + R.length ∨ 400 < n + a + b) = true := decide_eq_true hlim
        have hM : Hid (c.mrE (pats L) (pats R) = (3, 0, 0)) := by unfold Hid; rw [HMR.out, if_pos hlim]
        clear hlim
        rw [td]
        go_wp2_with (refine wpList_store_all rfl 36 _ _ rfl br 36 [] (pairA 0 0).toList [] (pairA 0 0).toList rfl rfl gr1 rfl (by kernel_rfl) (by simp [Value.oneCell']) ?_; intro we ge ue)
        refine bodyPost_ret (ret_sae rfl rfl ge Try.underlying36 (by kernel_rfl)) rfl ?_
        exact mrgR_no hM.out (by decide) (HB1.out.trans (ue.b _ lbr))
      have td : decide (60 < L.length + R.length ∨ 400 < n + a + b) = false := decide_eq_false hlim
      rw [td]
      have HM2 : Hid (c.mrE (pats L) (pats R) = mrM (outer c.cl.length (pats R) c 0 0 (pats L))) := by unfold Hid; rw [HMR.out, if_neg hlim]
      have lLR : L.length + R.length ≤ 60 := by omega
      have hC0 := HCO.out (fun x hx => SMR.out x.p (List.mem_map.2 ⟨x, hx, rfl⟩)) V1 HB1.out
      obtain ⟨O, hO⟩ : ∃ O, outer c.cl.length (pats R) c 0 0 (pats L) = O := ⟨_, rfl⟩
      rw [hO] at hC0 HM2
      have hC1 := Lib.hid hC0
      clear td hlim HMR hC0 hO HCO
      cases O with
      | some ij =>
        obtain ⟨i, j⟩ := ij
        have hM : Hid (c.mrE (pats L) (pats R) = (16, i, j)) := HM2.out
        go_upto_region 13 with (first | (refine wpList_row_w (by rfl) 27 _ rfl bc rfl 27 _ gc1 ⟨_, Try.underlying27⟩ (by kernel_rfl) ?_; simp only [Act.put, List.setIfInBounds_toArray, List.set_cons_succ, List.set_cons_zero]) | (go_at_call 33; (with_reducible refine hC1.out.mono ?_); rintro e w5 ⟨rfl, hb5⟩) | (refine wpList_store_all rfl 36 _ _ rfl w5.heap.size 36 [] (pairA 0 0).toList [] (pairA i j).toList rfl rfl (Blk.new _ _ _) rfl (by kernel_rfl) (by simp [Value.oneCell']) ?_; intro w6 g6 U6))
        have h16 : Below V1.heap.size V1 w6 := (below_alloc hb5 _).trans (U6.b _ hb5.size)
        have gr6 := gr1.then_ h16
        have HB6 := Lib.hid (below_then HB1.out h16)
        have l5 := hb5.size
        have l1 := gr1.lt
        have g6' : Blk w6 w5.heap.size 36 (pairA i j) := g6
        obtain ⟨b5, e5⟩ : ∃ x, w5.heap.size = x := ⟨_, rfl⟩
        rw [e5] at g6' l5 ⊢
        clear h16 hb5 U6 g6 gc1 gr1 HB1 e5 hC1
        refine wp_region_hb (fun w' => Blk w' b5 36 (pairA i j)) [0, 1] [2, 3] (by kernel_rfl) (by kernel_rfl) (by repeat (first | with_reducible refine panOk_then ?_ | with_reducible refine panOk_block ?_ | exact panOk_body)) g6' (fun hdir hsel hpan hHeld => ?_)
        refine wpHB_take (i := 0) (oi := ⟨some 68, _, _, _, _, _⟩) hdir hsel hpan rfl (by kernel_rfl) (by kernel_rfl) (by kernel_rfl) (yieldsIf_load_mid (by rfl) 36 _ rfl b5 _ rfl (pairA i j).toList _ (fun w hw => Blk.range (pre := []) (mid := (pairA i j).toList) (post := []) hw) Try.underlying36 rfl (by kernel_rfl)) (by assumption) ?_
        try simp only [Act.put, List.setIfInBounds_toArray, List.set_cons_zero, List.set_cons_succ]
        refine wpHB_take (i := 1) (oi := ⟨some 6, _, _, _, _, _⟩) (v := .slice none 0 0) hdir hsel hpan rfl (by kernel_rfl) (by kernel_rfl) (by kernel_rfl) (Or.inl ⟨by rfl, fun w hw => by rfl⟩) (by assumption) ?_
        try simp only [Act.put, List.setIfInBounds_toArray, List.set_cons_zero, List.set_cons_succ]
        refine wpHB_tail (by kernel_rfl) (by kernel_rfl) ?_
        clear hdir hsel hpan
        simp only [opsAt, List.getElem?_toArray, List.getElem?_cons_succ, List.getElem?_cons_zero, Option.toList_some, List.cons_append, List.nil_append]
        go_wp2_with (refine wpList_store_all rfl 36 _ _ rfl br 36 [] (pairA 0 0).toList [] (pairA i j).toList rfl rfl (gr6.drew) rfl (by kernel_rfl) (by simp [Value.oneCell']) ?_; intro we ge ue)
        refine bodyPost_ret (ret_sae rfl rfl ge Try.underlying36 (by kernel_rfl)) rfl ?_
        exact mrgR_no hM.out (by decide) (HB6.out.trans ((Below.drew (Below.refl _ _)).trans (ue.b _ lbr)))
      | none =>
        have hM : Hid (c.mrE (pats L) (pats R) = (0, 0, 0)) := HM2.out
        go_upto_region 15 with (first | (refine wpList_row_w (by rfl) 27 _ rfl bc rfl 27 _ gc1 ⟨_, Try.underlying27⟩ (by kernel_rfl) ?_; simp only [Act.put, List.setIfInBounds_toArray, List.set_cons_succ, List.set_cons_zero]) | (go_at_call 33; (with_reducible refine hC1.out.mono ?_); rintro e w5 ⟨rfl, hb5⟩) | (refine wpList_store_all rfl 36 _ _ rfl w5.heap.size 36 [] (pairA 0 0).toList [] (pairA 0 0).toList rfl rfl (Blk.new _ _ _) rfl (by kernel_rfl) (by simp [Value.oneCell']) ?_; intro w6 g6 U6))
        have h16 : Below V1.heap.size V1 w6 := (below_alloc hb5 _).trans (U6.b _ hb5.size)
        have GR6 := Lib.hid (gr1.then_ h16)
        have HB6 := Lib.hid (below_then HB1.out h16)
        have l1 : br < w6.heap.size := GR6.out.lt
        have l6 : w.heap.size ≤ w6.heap.size := HB6.out.size
        clear h16 hb5 U6 g6 gc1 gr1 HB1 hC1
        obtain ⟨ri, hi, hz0, hz1, hz2⟩ := info_parts zero_pat
        obtain ⟨B, eB⟩ : ∃ x, w6.heap.size = x := ⟨_, rfl⟩
        rw [eB] at l1 l6
        have hS6 : Hid (B ≤ w6.heap.size) := by unfold Hid; omega
        clear eB
        go_upto_region 16 with (fail)
        go_loopw [17, 71] (fun v y WR => ∃ (i : Nat) (M : List Pk), i ≤ L.length ∧ y = .int .i64 i ∧ M.length = i ∧ Hid (pats M = ((pats L).take i).map (fun p => p.ren n 0)) ∧ Hid (Mrg WR B v M) ∧ Hid (Blk WR br 36 (pairA 0 0)) ∧ Hid (Below w.heap.size w WR) ∧ Hid (B ≤ WR.heap.size)) (fun _ y _ => 2000000 - (intOf y).toNat)
        case atStart => exact ⟨0, [], by omega, rfl, rfl, rfl, ⟨Own.nil _ _ _ _ _, fun x hx => by cases hx⟩, GR6, HB6, hS6⟩
        case round =>
          clear GR6 HB6 hS6
          obtain ⟨i, M, hi', rfl, hml, hpm, hG, hr, hB, hS⟩ := hrel
          by_cases hlt : i < L.length
          · have tn : decide ((i : Int) < (L.length : Int)) = true := decide_eq_true (by omega)
            obtain ⟨x, hx⟩ : ∃ x, L[i]? = some x := ⟨_, List.getElem?_eq_getElem hlt⟩
            have hLw := HL.out.then_ hB.out
            obtain ⟨b0, o0, eA0, hb0, hc0⟩ := segAt hLw.s hx
            have hrg : wr.rangeAt b0 (o0 + i * 19) (eP x) := fun j v hv => hc0 j v hv
            have hix := fun W => idx_at (t := 28) (size := 19) (cap := k1) (len := L.length) eA0 hlt (by kernel_rfl) (fun W => by kernel_rfl) W
            have hpx := hLw.t x (List.mem_of_getElem? hx)
            have hsx := SML.out x.p (List.mem_map.2 ⟨x, List.mem_of_getElem? hx, rfl⟩)
            have HX := Lib.hid hx
            clear hc0 hx eA0 hLw
            go_upto_region 18 with (refine wpList_elem 49 el19 _ _ _ rfl rfl rfl rfl rfl rfl rfl rfl rfl b0 _ rfl (eP x) rfl hrg (by simp [Value.oneCell']) (by decide) (by simp) (by simp) ?_; simp only [Act.put, List.setIfInBounds_toArray, List.set_cons_succ, List.set_cons_zero])
            refine name_wp ?_
            intro Y hY
            have gx : Blk Y wr.heap.size 49 (pL x.p x.m) := by rw [hY]; exact Blk.new _ _ _
            have hbY : Below wr.heap.size wr Y := by rw [hY]; exact wa1 _ _
            clear hY hrg hix
            have HRN0 := ren_any x.p x.m n 0 Y (hpx.then_ hbY) hsx.1 hsx.2 (by omega) (by omega)
            rw [show ((0 : Nat) : Int) = 0 from rfl] at HRN0
            have HRN := Lib.hid HRN0
            have HGY := Lib.hid (hG.out.then_ hbY)
            have GRY := Lib.hid (hr.out.then_ hbY)
            have HBY := Lib.hid (below_then hB.out hbY)
            have hSY : B ≤ Y.heap.size := by have := hbY.size; have := hS.out; omega
            obtain ⟨bx, ex⟩ : ∃ b, wr.heap.size = b := ⟨_, rfl⟩
            rw [ex] at gx ⊢
            clear hpx hsx hG hr hB hS hbY ex HRN0
            go_wp2_with (first | (refine wpList_row_w (by rfl) 49 _ rfl bx rfl 49 _ gx ⟨_, Try.underlying49⟩ (by kernel_rfl) ?_; simp only [Act.put, List.setIfInBounds_toArray, List.set_cons_succ, List.set_cons_zero]) | (go_at_call 34; (with_reducible refine HRN.out.mono ?_); rintro e w1 ⟨⟨pm1, rfl, hp1, ho1, hO1⟩, hb1⟩) | (at_builtin; go_loud (refine wpList_app _ rfl (.tmp 75) (.tmp 79) _ rfl B 49 ri _ 19 176 Try.underlying28 hi hz0 hz1 hz2 rfl (by omega) (by omega) eP eP_len one_pat _ M rfl (((HGY.out.then_ hb1).o).alloc _) (by omega) w1.heap.size 1 ⟨x.p.ren n 0, pm1⟩ rfl (Blk.new _ _ _) (by have := hb1.size; simp; omega) ?_); intro v4 w4 hO4 hb4 hg4))
            have l1b := hb1.size
            have hwB : w.heap.size ≤ B := by omega
            go_roundw
            case rel =>
              have hGN : Hid (Mrg w4 B v4 (M ++ [⟨x.p.ren n 0, pm1⟩])) := ((HGY.out.then_ hb1).then_ (wa1 _ _)).app hO4 hg4 (hO1.then_ (wa1 _ _)) hp1.pn
              have hw4 : Below B Y w4 := ((hb1.mono hSY).alloc (by omega) _).trans hb4
              exact ⟨_, _, _, _, _, _, _, _, _, _, _, _, _, ⟨i + 1, M ++ [⟨x.p.ren n 0, pm1⟩], by omega, by simp, by simp [hml], by unfold Hid; rw [show pats (M ++ [⟨x.p.ren n 0, pm1⟩]) = pats M ++ [x.p.ren n 0] from by simp, hpm.out, take_snoc (l := pats L) (i := i) (p := x.p) (by rw [List.getElem?_map, HX.out]; rfl)]; simp, hGN, GRY.out.below hw4 l1, HBY.out.trans (hw4.mono hwB), by unfold Hid; have := hw4.size; omega⟩, rfl⟩
            case measure => simp [intOf]; omega
          · have tn : decide ((i : Int) < (L.length : Int)) = false := decide_eq_false (by omega)
            obtain rfl : i = L.length := by omega
            have HPM : Hid (pats M = (pats L).map (fun p => p.ren n 0)) := by unfold Hid; rw [hpm.out, List.take_of_length_le (by simp)]
            have hML := hml
            clear hpm hml
            go_upto_region 21 with (fail)
            go_loopw [17, 84] (fun v y WR => ∃ (i : Nat) (N : List Pk), i ≤ R.length ∧ y = .int .i64 i ∧ N.length = L.length + i ∧ Hid (pats N = pats M ++ ((pats R).take i).map (fun p => p.ren n a)) ∧ Hid (Mrg WR B v N) ∧ Hid (Blk WR br 36 (pairA 0 0)) ∧ Hid (Below w.heap.size w WR) ∧ Hid (B ≤ WR.heap.size)) (fun _ y _ => 2000000 - (intOf y).toNat)
            case atStart => exact ⟨0, M, by omega, rfl, by omega, by unfold Hid; simp, hG, hr, hB, hS⟩
            case round =>
              clear hG hr hB hS
              obtain ⟨i, N, hi', rfl, hml, hpm, hG, hr, hB, hS⟩ := hrel
              by_cases hlt : i < R.length
              · have tn : decide ((i : Int) < (R.length : Int)) = true := decide_eq_true (by omega)
                obtain ⟨x, hx⟩ : ∃ x, R[i]? = some x := ⟨_, List.getElem?_eq_getElem hlt⟩
                have hLw := HR.out.then_ hB.out
                obtain ⟨b0, o0, eA0, hb0, hc0⟩ := segAt hLw.s hx
                have hrg : wr.rangeAt b0 (o0 + i * 19) (eP x) := fun j v hv => hc0 j v hv
                have hix := fun W => idx_at (t := 28) (size := 19) (cap := k2) (len := R.length) eA0 hlt (by kernel_rfl) (fun W => by kernel_rfl) W
                have hpx := hLw.t x (List.mem_of_getElem? hx)
                have hsx := SMR.out x.p (List.mem_map.2 ⟨x, List.mem_of_getElem? hx, rfl⟩)
                have HX := Lib.hid hx
                clear hc0 hx eA0 hLw
                go_upto_region 23 with (refine wpList_elem 49 el19 _ _ _ rfl rfl rfl rfl rfl rfl rfl rfl rfl b0 _ rfl (eP x) rfl hrg (by simp [Value.oneCell']) (by decide) (by simp) (by simp) ?_; simp only [Act.put, List.setIfInBounds_toArray, List.set_cons_succ, List.set_cons_zero])
                refine name_wp ?_
                intro Y hY
                have gx : Blk Y wr.heap.size 49 (pL x.p x.m) := by rw [hY]; exact Blk.new _ _ _
                have hbY : Below wr.heap.size wr Y := by rw [hY]; exact wa1 _ _
                clear hY hrg hix
                have HRN0 := ren_any x.p x.m n a Y (hpx.then_ hbY) hsx.1 hsx.2 (by omega) (by omega)
                skip
                have HRN := Lib.hid HRN0
                have HGY := Lib.hid (hG.out.then_ hbY)
                have GRY := Lib.hid (hr.out.then_ hbY)
                have HBY := Lib.hid (below_then hB.out hbY)
                have hSY : B ≤ Y.heap.size := by have := hbY.size; have := hS.out; omega
                obtain ⟨bx, ex⟩ : ∃ b, wr.heap.size = b := ⟨_, rfl⟩
                rw [ex] at gx ⊢
                clear hpx hsx hG hr hB hS hbY ex HRN0
                go_wp2_with (first | (refine wpList_row_w (by rfl) 49 _ rfl bx rfl 49 _ gx ⟨_, Try.underlying49⟩ (by kernel_rfl) ?_; simp only [Act.put, List.setIfInBounds_toArray, List.set_cons_succ, List.set_cons_zero]) | (go_at_call 34; (with_reducible refine HRN.out.mono ?_); rintro e w1 ⟨⟨pm1, rfl, hp1, ho1, hO1⟩, hb1⟩) | (at_builtin; go_loud (refine wpList_app _ rfl (.tmp 88) (.tmp 93) _ rfl B 49 ri _ 19 176 Try.underlying28 hi hz0 hz1 hz2 rfl (by omega) (by omega) eP eP_len one_pat _ N rfl (((HGY.out.then_ hb1).o).alloc _) (by omega) w1.heap.size 1 ⟨x.p.ren n a, pm1⟩ rfl (Blk.new _ _ _) (by have := hb1.size; simp; omega) ?_); intro v4 w4 hO4 hb4 hg4))
                have l1b := hb1.size
                have hwB : w.heap.size ≤ B := by omega
                go_roundw
                case rel =>
                  have hGN : Hid (Mrg w4 B v4 (N ++ [⟨x.p.ren n a, pm1⟩])) := ((HGY.out.then_ hb1).then_ (wa1 _ _)).app hO4 hg4 (hO1.then_ (wa1 _ _)) hp1.pn
                  have hw4 : Below B Y w4 := ((hb1.mono hSY).alloc (by omega) _).trans hb4
                  exact ⟨_, _, _, _, _, _, _, _, _, _, _, _, _, _, ⟨i + 1, N ++ [⟨x.p.ren n a, pm1⟩], by omega, by simp, by simp [hml]; omega, by unfold Hid; rw [show pats (N ++ [⟨x.p.ren n a, pm1⟩]) = pats N ++ [x.p.ren n a] from by simp, hpm.out, take_snoc (l := pats R) (i := i) (p := x.p) (by rw [List.getElem?_map, HX.out]; rfl)]; simp, hGN, GRY.out.below hw4 l1, HBY.out.trans (hw4.mono hwB), by unfold Hid; have := hw4.size; omega⟩, rfl⟩
                case measure => simp [intOf]; omega
              · have tn : decide ((i : Int) < (R.length : Int)) = false := decide_eq_false (by omega)
                obtain rfl : i = R.length := by omega
                have gr9 := hr.out
                have hNN : Hid (pats N = c.mrL (pats L) (pats R)) := by unfold Hid; rw [hpm.out, HLL.out, HPM.out, List.take_of_length_le (by simp)]
                clear hpm hr
                go_wp2_with (refine wpList_store_all rfl 36 _ _ rfl br 36 [] (pairA 0 0).toList [] (pairA 0 0).toList rfl rfl gr9 rfl (by kernel_rfl) (by simp [Value.oneCell']) ?_; intro we ge ue)
                obtain ⟨A9, c9, ev, hc9, hs9⟩ := hG.out.o.seg eP_len
                refine bodyPost_ret (ret_sae rfl rfl ge Try.underlying36 (by kernel_rfl)) rfl ?_
                have hO9 := hG.out.o.upd ue (own_ne hG.out.o l1)
                refine ⟨⟨A9, c9, N, by rw [hM.out]; show Ending.returned (.tuple #[_, _, _]) = _; rw [← ev]; rfl, by rw [hM.out, if_pos rfl]; exact hNN.out, ⟨?_, fun x hx => ?_, by omega⟩, hc9⟩, hB.out.trans (ue.b _ lbr)⟩
                · rw [ev] at hO9
                  exact hO9.segA eP_len
                · obtain ⟨h1, h2⟩ := hG.out.t x hx
                  have hgr : wr.grownBy we (some br) := ⟨(ue.b 0 (by omega)).os, (ue.b 0 (by omega)).tape, (ue.b 0 (by omega)).output, by rw [ue.s]; omega, fun k hk hne => ue.f k (fun e => hne (by rw [e]))⟩
                  have hty : ∀ {α : Type} {T : TypeId} {size : Nat} {enc : α → List Value} {v : Value} {xs : List α}, Own wr 0 T size enc v xs → T ≠ 36 → ∀ k, v.ownBlock = some k → k ≠ br := fun ho hT k hk e => by
                    rcases ho.2 with ⟨h4, _⟩ | ⟨g4, cap4, cur4, hv4, _, hh4, _⟩
                    · rw [h4] at hk; cases hk
                    · rw [hv4] at hk
                      cases hk
                      have e4 : g4 = br := e
                      have h5 : wr.heap[br]? = _ := gr9
                      rw [e4, h5] at hh4
                      injection hh4 with hh4
                      injection hh4 with _ h7
                      exact hT h7.symm
                  exact PatO.m ⟨h1.1.upd ue (hty h1.1 (by decide)), h1.2.upd ue (hty h1.2 (by decide))⟩ h2
end Go.Proofs.Ytcplneglfbdooaa
/- The walks of the law's clause, waive, span. -/
namespace Go.Proofs.Ytcplneglfbdooaa
open Go.RowKit

def Cla.at (n : Int) : Cla := { kind := 1, role := 0, act := 0, need := 1, start := [], aft := n, grace := 0, bus := false, fin := false, pause := -1, resume := -1, v := (0, 1), unit := -1, to_ := -1, waived := false }
def Cla.zero : Cla := { kind := 0, role := 0, act := 0, need := 0, start := [], aft := 0, grace := 0, bus := false, fin := false, pause := 0, resume := 0, v := (0, 0), unit := 0, to_ := 0, waived := false }
def Pat.waive (i : Int) : Pat := { kind := 3, cls := [i], new := Cla.zero, days := 0 }
def Pat.span (i d : Int) : Pat := { kind := 5, cls := [i], new := Cla.zero, days := d }
set_option maxRecDepth 100000 in
set_option maxHeartbeats 3200000 in
theorem clause_any (n : Int) (w : World) : Calls Try.prog 24 #[.int .i64 n] w fun e w' => e = .returned (.agg (kA ⟨Cla.at n, none, 0⟩)) ∧ Below w.heap.size w w' := by
  go_enter Try.func24, Try.ntmps24
  go_upto_region 1 with (fail)
  refine name_wp ?_
  intro X hX
  have gR : Blk X w.heap.size 47 kZ.toArray := by rw [hX]; exact blk_at (by simp)
  have HB : Below w.heap.size w X := by rw [hX]; (repeat (first | with_reducible assumption | with_reducible exact Below.refl _ _ | with_reducible refine below_drewN ?_ _ | with_reducible refine Below.drew ?_ | with_reducible refine below_alloc ?_ _ | with_reducible refine Below.setCell ?_ (by first | omega | (simp; done) | (simp; omega)) _ | with_reducible refine below_then ?_ (by with_reducible assumption) | (refine below_then (a := World.drew _) ?_ (by with_reducible assumption))))
  clear hX
  obtain ⟨bR, eR⟩ : ∃ b, w.heap.size = b := ⟨_, rfl⟩
  have lR : w.heap.size ≤ bR := by omega
  rw [eR] at gR ⊢
  clear eR
  have lX := gR.lt
  go_wp2_with (refine wpList_store_all rfl 47 _ _ rfl bR 47 [] kZ [] (kA ⟨Cla.at n, none, 0⟩).toList rfl rfl gR rfl (by kernel_rfl) (by simp [Value.oneCell']) ?_; intro w2 g2 U2)
  refine bodyPost_ret (ret_row rfl rfl g2 ⟨_, Try.underlying47⟩ (by kernel_rfl)) rfl ?_
  exact ⟨rfl, HB.trans (U2.b _ lR)⟩
set_option maxRecDepth 100000 in
set_option maxHeartbeats 3200000 in
theorem lwaive_any (i : Int) (w : World) : Calls Try.prog 22 #[.int .i64 i] w fun e w' => (∃ pm, e = .returned (.agg (pL (Pat.waive i) pm)) ∧ PatM w' (Pat.waive i) pm ∧ OffP (w.heap.size ≤ ·) (Pat.waive i) pm) ∧ Below w.heap.size w w' := by
  go_enter Try.func22, Try.ntmps22
  go_upto_region 1 with (fail)
  refine name_wp ?_
  intro X hX
  have gR : Blk X w.heap.size 49 pZ.toArray := by rw [hX]; exact blk_at (by simp)
  have HB : Below w.heap.size w X := by rw [hX]; (repeat (first | with_reducible assumption | with_reducible exact Below.refl _ _ | with_reducible refine below_drewN ?_ _ | with_reducible refine Below.drew ?_ | with_reducible refine below_alloc ?_ _ | with_reducible refine Below.setCell ?_ (by first | omega | (simp; done) | (simp; omega)) _ | with_reducible refine below_then ?_ (by with_reducible assumption) | (refine below_then (a := World.drew _) ?_ (by with_reducible assumption))))
  clear hX
  obtain ⟨bR, eR⟩ : ∃ b, w.heap.size = b := ⟨_, rfl⟩
  have lR : w.heap.size ≤ bR := by omega
  rw [eR] at gR ⊢
  clear eR
  have lX := gR.lt
  have lwX := HB.size
  go_wp2_with (refine wpList_store_all rfl 49 _ _ rfl bR 49 [] pZ [] (pL (Pat.waive i) ⟨some ⟨X.heap.size, 0, none⟩, 1, none, 0⟩).toList rfl rfl (gR.alloc _) rfl (by kernel_rfl) (by simp [Value.oneCell']) ?_; intro w2 g2 U2)
  have gl := (Blk.new X _ _).upd U2 (by omega)
  have hs : Seg w2 w2.heap.size 1 eI (some ⟨X.heap.size, 0, none⟩) [i] := blk_seg (xs := [i]) eI_len gl
  refine bodyPost_ret (ret_row rfl rfl g2 ⟨_, Try.underlying49⟩ (by kernel_rfl)) rfl ?_
  refine ⟨⟨⟨some ⟨X.heap.size, 0, none⟩, 1, none, 0⟩, rfl, ⟨hs, (by show 1 ≤ 1000000; decide), Nat.le_refl _, Seg.nil _ _ _ _ _, (by show I64 0 ∧ I64 0; decide), Nat.zero_le _, Nat.zero_le _⟩, ?_, ?_⟩, (HB.alloc lwX _).trans (U2.b _ lR)⟩
  · intro _ a ha
    cases ha
    exact lwX
  · intro h0
    exact absurd h0 (Nat.lt_irrefl 0)
set_option maxRecDepth 100000 in
set_option maxHeartbeats 3200000 in
theorem lspan_any (i d : Int) (w : World) : Calls Try.prog 23 #[.int .i64 i, .int .i64 d] w fun e w' => (∃ pm, e = .returned (.agg (pL (Pat.span i d) pm)) ∧ PatM w' (Pat.span i d) pm ∧ OffP (w.heap.size ≤ ·) (Pat.span i d) pm) ∧ Below w.heap.size w w' := by
  go_enter Try.func23, Try.ntmps23
  go_upto_region 1 with (fail)
  refine name_wp ?_
  intro X hX
  have gR : Blk X w.heap.size 49 pZ.toArray := by rw [hX]; exact blk_at (by simp)
  have HB : Below w.heap.size w X := by rw [hX]; (repeat (first | with_reducible assumption | with_reducible exact Below.refl _ _ | with_reducible refine below_drewN ?_ _ | with_reducible refine Below.drew ?_ | with_reducible refine below_alloc ?_ _ | with_reducible refine Below.setCell ?_ (by first | omega | (simp; done) | (simp; omega)) _ | with_reducible refine below_then ?_ (by with_reducible assumption) | (refine below_then (a := World.drew _) ?_ (by with_reducible assumption))))
  clear hX
  obtain ⟨bR, eR⟩ : ∃ b, w.heap.size = b := ⟨_, rfl⟩
  have lR : w.heap.size ≤ bR := by omega
  rw [eR] at gR ⊢
  clear eR
  have lX := gR.lt
  have lwX := HB.size
  go_wp2_with (refine wpList_store_all rfl 49 _ _ rfl bR 49 [] pZ [] (pL (Pat.span i d) ⟨some ⟨X.heap.size, 0, none⟩, 1, none, 0⟩).toList rfl rfl (gR.alloc _) rfl (by kernel_rfl) (by simp [Value.oneCell']) ?_; intro w2 g2 U2)
  have gl := (Blk.new X _ _).upd U2 (by omega)
  have hs : Seg w2 w2.heap.size 1 eI (some ⟨X.heap.size, 0, none⟩) [i] := blk_seg (xs := [i]) eI_len gl
  refine bodyPost_ret (ret_row rfl rfl g2 ⟨_, Try.underlying49⟩ (by kernel_rfl)) rfl ?_
  refine ⟨⟨⟨some ⟨X.heap.size, 0, none⟩, 1, none, 0⟩, rfl, ⟨hs, (by show 1 ≤ 1000000; decide), Nat.le_refl _, Seg.nil _ _ _ _ _, (by show I64 0 ∧ I64 0; decide), Nat.zero_le _, Nat.zero_le _⟩, ?_, ?_⟩, (HB.alloc lwX _).trans (U2.b _ lR)⟩
  · intro _ a ha
    cases ha
    exact lwX
  · intro h0
    exact absurd h0 (Nat.lt_irrefl 0)
end Go.Proofs.Ytcplneglfbdooaa
/- The walk of the law's example. -/
namespace Go.Proofs.Ytcplneglfbdooaa
open Go.RowKit

def Con.ex : Con := { par := 1, hold := [0], un := [], ac := [{ kind := 1, role := 0, give := 0, to_ := -1, unit := -1, lot := (0, 1) }], cl := [Cla.at 3, Cla.at 4], days := 9, off := [] }
set_option maxRecDepth 100000 in
set_option maxHeartbeats 3200000 in
theorem example_any (w : World) : Calls Try.prog 21 #[] w fun e w' => (∃ m, e = .returned (.agg (coA Con.ex m)) ∧ Cont w' Con.ex m ∧ Off (w.heap.size ≤ ·) Con.ex m) ∧ Below w.heap.size w w' := by
  go_enter Try.func21, Try.ntmps21
  go_upto_region 1 with (fail)
  refine name_wp ?_
  intro X hX
  have gR : Blk X w.heap.size 27 coZ := by rw [hX]; exact blk_at (by simp)
  have HB : Below w.heap.size w X := by rw [hX]; (repeat (first | with_reducible assumption | with_reducible exact Below.refl _ _ | with_reducible refine below_drewN ?_ _ | with_reducible refine Below.drew ?_ | with_reducible refine below_alloc ?_ _ | with_reducible refine Below.setCell ?_ (by first | omega | (simp; done) | (simp; omega)) _ | with_reducible refine below_then ?_ (by with_reducible assumption) | (refine below_then (a := World.drew _) ?_ (by with_reducible assumption))))
  clear hX
  obtain ⟨bR, eR⟩ : ∃ b, w.heap.size = b := ⟨_, rfl⟩
  have lR : w.heap.size ≤ bR := by omega
  rw [eR] at gR ⊢
  clear eR
  have lX := gR.lt
  have lwX := HB.size
  have HC := Lib.hid (fun n W => clause_any n W)
  go_wp2_with (first | (go_at_call 24; (with_reducible refine (HC.out _ _).mono ?_); rintro e w9 ⟨rfl, hb9⟩) | (refine wpList_store_all rfl 27 _ _ rfl bR 27 [] coZ.toList [] (coA Con.ex ⟨some ⟨X.heap.size, 0, none⟩, 1, none, 0, some ⟨X.heap.size + 1, 0, none⟩, 1, some ⟨_, 0, none⟩, 2, none, 0, [⟨Cla.at 3, none, 0⟩, ⟨Cla.at 4, none, 0⟩]⟩).toList rfl rfl ?gz rfl (by kernel_rfl) (by simp [Value.oneCell']) ?_; (case gz => (rename_i w3 hb3; exact ((((gR.alloc _).alloc _).then_ hb3).then_ hb9).alloc _)); rename_i w3 hb3; intro w2 g2 U2))
  have s3 := hb3.size
  have s9 := hb9.size
  simp only [World.alloc, Array.size_push] at s3
  have gh := ((((((Blk.new X _ _).alloc _).then_ hb3).then_ hb9).alloc _).upd U2 (by omega))
  have ga := (((((blk_at (w := X.alloc _) (by simp)).then_ hb3).then_ hb9).alloc _).upd U2 (show X.heap.size + 1 ≠ bR by omega))
  have gk := ((Blk.new w9 _ _).upd U2 (by omega))
  have hh : Seg w2 w2.heap.size 1 eI (some ⟨X.heap.size, 0, none⟩) [0] := blk_seg (xs := [0]) eI_len gh
  have ha : Seg w2 w2.heap.size 7 eA (some ⟨X.heap.size + 1, 0, none⟩) Con.ex.ac := blk_seg (xs := Con.ex.ac) eA_len ga
  have hk : Seg w2 w2.heap.size 16 eK (some ⟨w9.heap.size, 0, none⟩) [⟨Cla.at 3, none, 0⟩, ⟨Cla.at 4, none, 0⟩] := blk_seg (xs := [⟨Cla.at 3, none, 0⟩, ⟨Cla.at 4, none, 0⟩]) eK_len gk
  refine bodyPost_ret (ret_row rfl rfl g2 ⟨_, Try.underlying27⟩ (by kernel_rfl)) rfl ?_
  refine ⟨⟨⟨some ⟨X.heap.size, 0, none⟩, 1, none, 0, some ⟨X.heap.size + 1, 0, none⟩, 1, some ⟨w9.heap.size, 0, none⟩, 2, none, 0, [⟨Cla.at 3, none, 0⟩, ⟨Cla.at 4, none, 0⟩]⟩, rfl, ⟨hh, Seg.nil _ _ _ _ _, ha, hk, Seg.nil _ _ _ _ _, rfl, ?_, ?_, ?_, by decide, by decide, by decide, by decide, by decide, Nat.le_refl _, Nat.le_refl _, Nat.le_refl _, Nat.le_refl _, Nat.le_refl _⟩, ⟨?_, ?_, ?_, ?_, ?_, ?_⟩⟩, ?_⟩
  · intro x hx
    rcases List.mem_cons.1 hx with rfl | hx
    · exact ⟨Seg.nil _ _ _ _ _, by decide, by decide, by decide⟩
    · rcases List.mem_cons.1 hx with rfl | hx
      · exact ⟨Seg.nil _ _ _ _ _, by decide, by decide, by decide⟩
      · cases hx
  · intro x hx
    cases hx
  · decide
  · intro _ a e
    cases e
    exact lwX
  · intro h0
    exact absurd h0 (Nat.lt_irrefl 0)
  · intro _ a e
    cases e
    show w.heap.size ≤ X.heap.size + 1
    omega
  · intro _ a e
    cases e
    show w.heap.size ≤ w9.heap.size
    omega
  · intro h0
    exact absurd h0 (Nat.lt_irrefl 0)
  · intro x hx h0
    rcases List.mem_cons.1 hx with rfl | hx
    · exact absurd h0 (Nat.lt_irrefl 0)
    · rcases List.mem_cons.1 hx with rfl | hx
      · exact absurd h0 (Nat.lt_irrefl 0)
      · cases hx
  · exact (below_then (below_then ((HB.alloc lwX _).alloc (by simp; omega) _) hb3) hb9 |>.alloc (by omega) _).trans (U2.b _ lR)
end Go.Proofs.Ytcplneglfbdooaa
