/- Contracts of functions and plain laws, joined: Fc4. -/
import Derived.Test.YtemkghgcdpmlbaaDoorMb14
/- The walks of file.part, AsOf and Open. -/
namespace Go.Proofs.YtemkghgcdpmlbaaDoor
open Go.RowKit Go.Sort Go.Maps

set_option maxRecDepth 100000 in
set_option maxHeartbeats 6400000 in
theorem partA_any (f : Fil) (k : Fm) (p : Fac → Bool) (h : Nat) (w : World) (hk : Filt w f k) (h1 : ∀ x ∈ f.facts, I64 x.ref) (h2 : ∀ b ∈ f.ords, I64 b.1 ∧ I64 b.2)
    (HF : ∀ x W, Below w.heap.size w W → Calls Tryd.prog 34 #[.agg (fA x), .pointer (some ⟨h, 0, none⟩)] W fun e w' => e = .returned (.bool (p x)) ∧ Below W.heap.size W w') :
    Calls Tryd.prog 33 #[.agg (flA f k), .func (.func 34) #[] #[.pointer (some ⟨h, 0, none⟩)]] w fun e w' => (∃ m, e = .returned (.agg (flA (f.part p) m)) ∧ Filt w' (f.part p) m ∧ FOff (w.heap.size ≤ ·) m) ∧ Below w.heap.size w w' := by
  obtain ⟨ri, hi1, hz10, hz11, hz12⟩ := info_parts (show (Tryd.prog.info? 33).map (fun i => (i.zero, i.size, i.bytes)) = some (some (.agg #[.int .i64 0, .int .i64 0, .int .i64 0, .int .i64 0, .int .i64 0, .bool false]), 6, 48) by kernel_rfl)
  obtain ⟨rj, hi2, hz20, hz21, hz22⟩ := info_parts (show (Tryd.prog.info? 35).map (fun i => (i.zero, i.size, i.bytes)) = some (some (.agg #[.int .i64 0, .int .i64 0]), 2, 16) by kernel_rfl)
  have HK := Lib.hid hk
  have nf := hk.nf
  have no := hk.no
  have HF2 := Lib.hid HF
  have H1 := Lib.hid h1
  have H2 := Lib.hid h2
  have hmm := @run_makeMap Tryd.prog
  clear hk HF h1 h2
  go_enter Tryd.func33, Tryd.ntmps33
  go_upto_region 3 with (fail)
  refine name_wp ?_
  intro X hX
  have h0 := Lib.hid (PS.start w f k)
  rw [show _ = X from hX.symm] at h0
  clear hX
  obtain ⟨B, eB⟩ : ∃ b, w.heap.size + 4 = b := ⟨_, rfl⟩
  obtain ⟨bM, eM⟩ : ∃ b, w.heap.size + 3 = b := ⟨_, rfl⟩
  obtain ⟨b5, e5⟩ : ∃ b, w.heap.size + 2 = b := ⟨_, rfl⟩
  obtain ⟨br, er⟩ : ∃ b, w.heap.size + 1 = b := ⟨_, rfl⟩
  obtain ⟨bf, ef⟩ : ∃ b, w.heap.size = b := ⟨_, rfl⟩
  rw [eB, eM, e5, er] at h0
  rw [eM, e5, er]
  have lts : w.heap.size ≤ bf ∧ bf < br ∧ br < b5 ∧ b5 < bM ∧ bM < B := by omega
  have h00 : Hid (PS w f k bf br b5 bM B [] [] none 0 none 0 0 (.map []) X) := by unfold Hid; rw [← ef]; exact h0.out
  clear h0
  rw [ef]
  clear eB eM e5 er ef
  have f0 : X.cell? ⟨bf, 0, none⟩ = some (.int .i64 f.house) := (h00.out.gf).cell 0
  have f1 : X.cell? ⟨bf, 1, none⟩ = some (.slice k.f f.facts.length k.fc) := (h00.out.gf).cell 1
  have f2 : X.cell? ⟨bf, 2, none⟩ = some (.slice k.o f.ords.length k.oc) := (h00.out.gf).cell 2
  go_upto_region 4 with (fail)
  go_loopw [18] (fun y WR => ∃ (i cnt n : Nat) (A : Option Addr) (D : DataW Unit), i ≤ f.facts.length ∧ y = .int .i64 i ∧ cnt ≤ i ∧ Hid (PS w f k bf br b5 bM B ((f.facts.take i).filter p) [] A n none 0 cnt D WR)) (fun y _ => 2000000 - (intOf y).toNat)
  case atStart => exact ⟨0, 0, 0, none, .map [], by omega, rfl, by omega, h00.out⟩
  case round =>
    obtain ⟨i, cnt, n, A, D, hi', rfl, hcnt, hP⟩ := hrel
    clear f0 f1 f2 h00
    by_cases hlt : i < f.facts.length
    case neg =>
      have hP0 := hP.out
      rw [List.take_of_length_le (by omega)] at hP0
      obtain ⟨FL, eFL⟩ : ∃ L, f.facts.filter p = L := ⟨_, rfl⟩
      rw [eFL] at hP0
      have HP0 := Lib.hid hP0
      have HFL := Lib.hid eFL
      have hFl : FL.length ≤ 1000000 := by rw [← eFL]; exact Nat.le_trans (List.length_filter_le _ _) nf
      have tl : decide ((i : Int) < (f.facts.length : Int)) = false := decide_eq_false (by omega)
      clear hP0 hP eFL
      have f0 : wr.cell? ⟨bf, 0, none⟩ = some (.int .i64 f.house) := (HP0.out.gf).cell 0
      have f1 : wr.cell? ⟨bf, 1, none⟩ = some (.slice k.f f.facts.length k.fc) := (HP0.out.gf).cell 1
      have f2 : wr.cell? ⟨bf, 2, none⟩ = some (.slice k.o f.ords.length k.oc) := (HP0.out.gf).cell 2
      obtain ⟨wo, rfl⟩ : ∃ wo : World, wo = wr := ⟨_, rfl⟩
      go_upto_region 11 with (fail)
      clear tl f0 f1 f2
      go_loopw [38] (fun y WR => ∃ (q n2 : Nat) (A2 : Option Addr), q ≤ f.ords.length ∧ y = .int .i64 q ∧ Hid (PS w f k bf br b5 bM B FL ((f.ords.take q).filter fun b => hasRef FL b.1 && hasRef FL b.2) A n A2 n2 cnt D WR)) (fun y _ => 2000000 - (intOf y).toNat)
      case atStart => exact ⟨0, 0, none, by omega, rfl, HP0.out⟩
      case round =>
        obtain ⟨q, n2, A2, hq', rfl, hP⟩ := hrel
        by_cases hlq : q < f.ords.length
        case neg =>
          have hP0 := hP.out
          rw [List.take_of_length_le (by omega)] at hP0
          obtain ⟨OL, eOL⟩ : ∃ L, (f.ords.filter fun b => hasRef FL b.1 && hasRef FL b.2) = L := ⟨_, rfl⟩
          rw [eOL] at hP0
          have hpt : Hid (f.part p = { f with facts := FL, ords := OL }) := by unfold Hid Fil.part; rw [HFL.out, eOL]
          have hOl : OL.length ≤ 1000000 := by rw [← eOL]; exact Nat.le_trans (List.length_filter_le _ _) no
          have HP1 := Lib.hid hP0
          have g5 := hP0.g5
          have gr := hP0.gr
          have hls := hP0.lt
          have tl : decide ((q : Int) < (f.ords.length : Int)) = false := decide_eq_false (by omega)
          clear hP hP0 eOL HP0
          go_wp2_with (first | (refine wpList_row_w (by rfl) 31 _ rfl b5 rfl 31 _ g5 ⟨_, Tryd.underlying31⟩ (by kernel_rfl) ?_; simp only [Act.put, List.setIfInBounds_toArray, List.set_cons_succ, List.set_cons_zero]) | (refine wpList_store_all rfl 31 _ _ rfl br 31 [] zF.toList [] [.int .i64 f.house, .slice A FL.length n, .slice A2 OL.length n2] rfl rfl gr rfl (by kernel_rfl) (by simp [Value.oneCell']) ?_; intro we ge ue))
          refine bodyPost_ret (ret_row rfl rfl ge ⟨_, Tryd.underlying31⟩ (by kernel_rfl)) rfl ?_
          have h9 := filt_own (F := { f with facts := FL, ords := OL }) ((HP1.out.o1.updT ue gr (by decide)).more (B' := w.heap.size) (by omega)) ((HP1.out.o2.updT ue gr (by decide)).more (by omega)) hFl hOl
          rw [hpt.out]
          exact ⟨⟨_, rfl, h9.1, h9.2⟩, HP1.out.hb.trans (ue.b _ (by omega))⟩
        obtain ⟨x, hx⟩ : ∃ x, f.ords[q]? = some x := ⟨_, List.getElem?_eq_getElem hlq⟩
        obtain ⟨b0, o0, e0, hb0, hc0⟩ := segAt (HK.out.so.below hP.out.hb) hx
        have hix := fun W => idx_at (t := 29) (size := 2) (cap := k.oc) (len := f.ords.length) e0 hlq (by kernel_rfl) (fun W => by kernel_rfl) W
        have hrg : wr.rangeAt b0 (o0 + q * 2) ([.int .i64 x.1, .int .i64 x.2]) := fun j v hv => hc0 j v hv
        have HX := Lib.hid hx
        have tl : decide ((q : Int) < (f.ords.length : Int)) = true := decide_eq_true (by omega)
        clear hx hc0 e0
        go_upto_region 13 with ((refine wpList_elem 35 elO _ _ _ rfl rfl rfl rfl rfl rfl rfl rfl rfl b0 _ rfl ([.int .i64 x.1, .int .i64 x.2]) rfl hrg (by simp [Value.oneCell']) (by decide) (by simp) (by simp) ?_; simp only [Act.put, List.setIfInBounds_toArray, List.set_cons_succ, List.set_cons_zero]))
        refine name_wp ?_
        intro Z hZ
        have gx : Blk Z wr.heap.size 35 (bA x) := by rw [hZ]; exact Blk.new _ _ _
        have hbZ : Below wr.heap.size wr Z := by rw [hZ]; exact wa1 _ _
        have hls := hP.out.lt
        obtain ⟨bx, ex⟩ : ∃ b, wr.heap.size = b := ⟨_, rfl⟩
        rw [ex] at gx hls ⊢
        have hPZ := Lib.hid (hP.out.then_ hbZ)
        clear hZ hbZ hrg hix ex tl hP HP0
        have hI := H2.out x (List.mem_of_getElem? HX.out)
        have l1 := lookup_R hPZ.out.mp hPZ.out.mr hI.1
        have l2 := lookup_R hPZ.out.mp hPZ.out.mr hI.2
        obtain ⟨r1, er1⟩ : ∃ r, hasRef FL x.1 = r := ⟨_, rfl⟩
        obtain ⟨r2, er2⟩ : ∃ r, hasRef FL x.2 = r := ⟨_, rfl⟩
        rw [er1] at l1
        rw [er2] at l2
        have hq2 : Hid ((fun b : Int × Int => hasRef FL b.1 && hasRef FL b.2) x = (r1 && r2)) := by unfold Hid; show (hasRef FL x.1 && hasRef FL x.2) = _; rw [er1, er2]
        clear er1 er2 hI
        have x0 : Z.cell? ⟨bx, 0, none⟩ = some (.int .i64 x.1) := gx.cell 0
        have x1 : Z.cell? ⟨bx, 1, none⟩ = some (.int .i64 x.2) := gx.cell 1
        have skip : (r1 && r2) = false → Hid ((f.ords.take (q + 1)).filter (fun b => hasRef FL b.1 && hasRef FL b.2) = (f.ords.take q).filter (fun b => hasRef FL b.1 && hasRef FL b.2)) := fun h => flt_no HX.out (hq2.out.trans h)
        cases r1 with
        | false =>
          have hfl := skip rfl
          clear skip
          go_wp2
          go_roundw
          case rel => exact ⟨q + 1, n2, A2, by omega, by simp, by rw [hfl.out]; exact hPZ.out⟩
          case measure => simp [intOf]; omega
        | true =>
        cases r2 with
        | false =>
          have hfl := skip rfl
          clear skip
          go_wp2
          go_roundw
          case rel => exact ⟨q + 1, n2, A2, by omega, by simp, by rw [hfl.out]; exact hPZ.out⟩
          case measure => simp [intOf]; omega
        | true =>
        clear skip
        have hfl := Lib.hid (flt_yes (p := fun b : Int × Int => hasRef FL b.1 && hasRef FL b.2) HX.out (hq2.out.trans rfl))
        have hlen := Lib.hid (flt_lt (p := fun b : Int × Int => hasRef FL b.1 && hasRef FL b.2) (l := f.ords) (i := q) no hlq)
        have hPa := Lib.hid (hPZ.out.then_ (wa1 Z (.cells (bA x) 35)))
        obtain ⟨Lc, eLc⟩ : ∃ L, (f.ords.take q).filter (fun b => hasRef FL b.1 && hasRef FL b.2) = L := ⟨_, rfl⟩
        rw [eLc] at hPZ hPa hfl hlen
        have hlen2 := hlen.out
        clear eLc hlen
        have q1 : Z.cell? ⟨b5, 2, none⟩ = some (.slice A2 Lc.length n2) := hPZ.out.g5.cell 2
        have hB1 := hPZ.out.lt.2.2.2.2.2
        go_wp2_with (first | (refine wpList_row_w (by rfl) 35 _ rfl bx rfl 35 _ gx ⟨_, Tryd.underlying35⟩ (by kernel_rfl) ?_; simp only [Act.put, List.setIfInBounds_toArray, List.set_cons_succ, List.set_cons_zero]) | (at_builtin; refine wpList_app _ rfl (.tmp 53) (.tmp 55) _ rfl B 35 rj _ 2 16 Tryd.underlying29 hi2 hz20 hz21 hz22 rfl (by omega) (by omega) eS eS_len one_bef _ Lc rfl ((hPZ.out.o2).alloc _) (by omega) _ 1 x rfl (Blk.new _ _ _) (by simp; omega) ?_; intro v' w2 hO2 hb2 hg2; obtain ⟨A', n', rfl, _⟩ := hO2.segz eS_len; have g52 := hPa.out.g5.below hb2 (by omega); have q1' : w2.cell? ⟨b5, 2, none⟩ = some (.slice A2 Lc.length n2) := g52.cell 2; have qf : w2.frozen? ⟨b5, 2, none⟩ = false := g52.frozen 2))
        have hPn := fun (Y : World) (hY : Y = w2.setCell ⟨b5, 2, none⟩ (.slice A' (Lc ++ [x]).length n')) => Lib.hid (hPa.out.app2 hO2 hb2 hg2 hY (hPa.out.o1.grownT hPa.out.o2 (by decide) hg2))
        go_roundw
        case rel => exact ⟨q + 1, n', A', by omega, by simp, by rw [hfl.out]; exact (hPn _ (by simp)).out⟩
        case measure => simp [intOf]; omega
    obtain ⟨x, hx⟩ : ∃ x, f.facts[i]? = some x := ⟨_, List.getElem?_eq_getElem hlt⟩
    obtain ⟨b0, o0, e0, hb0, hc0⟩ := segAt (HK.out.sf.below hP.out.hb) hx
    have hix := fun W => idx_at (t := 28) (size := 6) (cap := k.fc) (len := f.facts.length) e0 hlt (by kernel_rfl) (fun W => by kernel_rfl) W
    have hrg : wr.rangeAt b0 (o0 + i * 6) ([.int .i64 x.ref, .int .i64 x.act, .int .i64 x.low, .int .i64 x.high, .int .i64 x.filed, .bool x.sec]) := fun j v hv => hc0 j v hv
    have HX := Lib.hid hx
    have tl : decide ((i : Int) < (f.facts.length : Int)) = true := decide_eq_true (by omega)
    clear hx hc0 e0
    go_upto_region 6 with ((refine wpList_elem 33 elF _ _ _ rfl rfl rfl rfl rfl rfl rfl rfl rfl b0 _ rfl ([.int .i64 x.ref, .int .i64 x.act, .int .i64 x.low, .int .i64 x.high, .int .i64 x.filed, .bool x.sec]) rfl hrg (by simp [Value.oneCell']) (by decide) (by simp) (by simp) ?_; simp only [Act.put, List.setIfInBounds_toArray, List.set_cons_succ, List.set_cons_zero]))
    refine name_wp ?_
    intro Z hZ
    have gx : Blk Z wr.heap.size 33 (fA x) := by rw [hZ]; exact Blk.new _ _ _
    have hbZ : Below wr.heap.size wr Z := by rw [hZ]; exact wa1 _ _
    have hls := hP.out.lt
    obtain ⟨bx, ex⟩ : ∃ b, wr.heap.size = b := ⟨_, rfl⟩
    have HEX := Lib.hid ex
    rw [ex] at gx hls ⊢
    have hPZ := Lib.hid (hP.out.then_ hbZ)
    clear hZ hbZ hrg hix ex tl
    obtain ⟨v, ev⟩ : ∃ v, p x = v := ⟨_, rfl⟩
    have HFX := Lib.hid (HF2.out x)
    rw [ev] at HFX
    have HEV := Lib.hid ev
    clear ev
    cases v with
    | false =>
      have hfl := Lib.hid (flt_no HX.out HEV.out)
      go_wp2_with (first | (refine wpList_row_w (by rfl) 33 _ rfl bx rfl 33 _ gx ⟨_, Tryd.underlying33⟩ (by kernel_rfl) ?_; simp only [Act.put, List.setIfInBounds_toArray, List.set_cons_succ, List.set_cons_zero]) | (go_at_call 34; (with_reducible refine (HFX.out _ hPZ.out.hb).mono ?_); rintro e w1 ⟨rfl, hb1⟩))
      go_roundw
      case rel => exact ⟨i + 1, cnt, n, A, D, by omega, by simp, by omega, by rw [hfl.out]; exact hPZ.out.then_ hb1⟩
      case measure => simp [intOf]; omega
    | true =>
    have hfl := Lib.hid (flt_yes HX.out HEV.out)
    have hlen := Lib.hid (flt_lt (p := p) (l := f.facts) (i := i) nf hlt)
    go_upto_region 7 with (first | (refine wpList_row_w (by rfl) 33 _ rfl bx rfl 33 _ gx ⟨_, Tryd.underlying33⟩ (by kernel_rfl) ?_; simp only [Act.put, List.setIfInBounds_toArray, List.set_cons_succ, List.set_cons_zero]) | (go_at_call 34; (with_reducible refine (HFX.out _ hPZ.out.hb).mono ?_); rintro e w1 ⟨rfl, hb1⟩))
    have hP1 := Lib.hid (hPZ.out.then_ hb1)
    have gx1 := gx.then_ hb1
    have hPa := Lib.hid (hP1.out.then_ (wa1 w1 (.cells (fA x) 33)))
    have gxa := gx1.then_ (wa1 w1 (.cells (fA x) 33))
    have q1 : w1.cell? ⟨b5, 1, none⟩ = some (.slice A ((f.facts.take i).filter p).length n) := hP1.out.g5.cell 1
    have lbx := gx1.lt
    have hB1 := hP1.out.lt.2.2.2.2.2
    clear hPZ hb1 gx
    obtain ⟨Lc, eLc⟩ : ∃ L, (f.facts.take i).filter p = L := ⟨_, rfl⟩
    rw [eLc] at hP hP1 hPa q1 hfl hlen
    have hlen2 := hlen.out
    clear eLc hlen
    go_upto_region 8 with (first | (refine wpList_row_w (by rfl) 33 _ rfl bx rfl 33 _ gx1 ⟨_, Tryd.underlying33⟩ (by kernel_rfl) ?_; simp only [Act.put, List.setIfInBounds_toArray, List.set_cons_succ, List.set_cons_zero]) | (at_builtin; refine wpList_app _ rfl (.tmp 26) (.tmp 28) _ rfl B 33 ri _ 6 48 Tryd.underlying28 hi1 hz10 hz11 hz12 rfl (by omega) (by omega) eF eF_len one_fac _ Lc rfl ((hP1.out.o1).alloc _) (by omega) _ 1 x rfl (Blk.new _ _ _) (by simp; omega) ?_; intro v' w2 hO2 hb2 hg2; obtain ⟨A', n', rfl, _⟩ := hO2.segz eF_len; have g52 := hPa.out.g5.below hb2 (by omega); have q1' : w2.cell? ⟨b5, 1, none⟩ = some (.slice A Lc.length n) := g52.cell 1; have qf : w2.frozen? ⟨b5, 1, none⟩ = false := g52.frozen 1))
    refine name_wp ?_
    intro Y hY
    rw [show Lc.length + 1 = (Lc ++ [x]).length by simp] at hY
    have u : Upd w2 Y b5 := by rw [hY]; exact (Upd.refl _ _).setCell 1 _
    have x0 : Y.cell? ⟨bx, 0, none⟩ = some (.int .i64 x.ref) := (u.cell (by omega)).trans ((grown_cell hP.out.o1 hg2 0 (by have := HEX.out; omega) (by simp; omega)).trans (gxa.cell 0))
    have h8 := Lib.hid (hPa.out.app1 hO2 hb2 hg2 hY (hPa.out.o2.grownT hPa.out.o1 (by decide) hg2))
    have HKEY := Lib.hid (keyOf_int_mk (P := Tryd.prog) (k := 3) (q := .i64) (a := x.ref) Tryd.underlying3 (by have := H1.out x (List.mem_of_getElem? HX.out); simp [Lit.wf, IntKind.min, IntKind.max, IntKind.signed, IntKind.bits]; omega))
    have GM := Lib.hid h8.out.2.2.2.2.2.1
    have HMR := Lib.hid hP1.out.mr
    clear hY u hO2 hb2 hg2 g52 q1' qf hPa hP1 hP q1 gx1 gxa hls
    go_wp2_with (at_mapUpdate; (refine wpList_mapUpdate_own _ rfl _ _ _ 99 rfl 3 4 keyI Tryd.underlying99 _ bM cnt _ rfl GM.out (by unfold maxLen; omega) _ _ _ rfl rfl HKEY.out _ [] (plainElem_bool Tryd.underlying4 true) ?_); intro w3 hown3 hgrow3)
    have hPn := Lib.hid (PS.next1 lts HMR.out h8.out hown3 hgrow3)
    clear h8 hown3 hgrow3 GM
    go_roundw
    case rel => exact ⟨i + 1, cnt + 1, n', A', _, by omega, by simp, by omega, by rw [hfl.out]; exact hPn.out⟩
    case measure => simp [intOf]; omega

set_option maxRecDepth 100000 in
set_option maxHeartbeats 6400000 in
theorem partP_any (f : Fil) (k : Fm) (p : Fac → Bool) (w : World) (hk : Filt w f k) (h1 : ∀ x ∈ f.facts, I64 x.ref) (h2 : ∀ b ∈ f.ords, I64 b.1 ∧ I64 b.2)
    (HF : ∀ x W, Below w.heap.size w W → Calls Tryd.prog 35 #[.agg (fA x)] W fun e w' => e = .returned (.bool (p x)) ∧ Below W.heap.size W w') :
    Calls Tryd.prog 33 #[.agg (flA f k), .func (.func 35) #[] #[]] w fun e w' => (∃ m, e = .returned (.agg (flA (f.part p) m)) ∧ Filt w' (f.part p) m ∧ FOff (w.heap.size ≤ ·) m) ∧ Below w.heap.size w w' := by
  obtain ⟨ri, hi1, hz10, hz11, hz12⟩ := info_parts (show (Tryd.prog.info? 33).map (fun i => (i.zero, i.size, i.bytes)) = some (some (.agg #[.int .i64 0, .int .i64 0, .int .i64 0, .int .i64 0, .int .i64 0, .bool false]), 6, 48) by kernel_rfl)
  obtain ⟨rj, hi2, hz20, hz21, hz22⟩ := info_parts (show (Tryd.prog.info? 35).map (fun i => (i.zero, i.size, i.bytes)) = some (some (.agg #[.int .i64 0, .int .i64 0]), 2, 16) by kernel_rfl)
  have HK := Lib.hid hk
  have nf := hk.nf
  have no := hk.no
  have HF2 := Lib.hid HF
  have H1 := Lib.hid h1
  have H2 := Lib.hid h2
  have hmm := @run_makeMap Tryd.prog
  clear hk HF h1 h2
  go_enter Tryd.func33, Tryd.ntmps33
  go_upto_region 3 with (fail)
  refine name_wp ?_
  intro X hX
  have h0 := Lib.hid (PS.start w f k)
  rw [show _ = X from hX.symm] at h0
  clear hX
  obtain ⟨B, eB⟩ : ∃ b, w.heap.size + 4 = b := ⟨_, rfl⟩
  obtain ⟨bM, eM⟩ : ∃ b, w.heap.size + 3 = b := ⟨_, rfl⟩
  obtain ⟨b5, e5⟩ : ∃ b, w.heap.size + 2 = b := ⟨_, rfl⟩
  obtain ⟨br, er⟩ : ∃ b, w.heap.size + 1 = b := ⟨_, rfl⟩
  obtain ⟨bf, ef⟩ : ∃ b, w.heap.size = b := ⟨_, rfl⟩
  rw [eB, eM, e5, er] at h0
  rw [eM, e5, er]
  have lts : w.heap.size ≤ bf ∧ bf < br ∧ br < b5 ∧ b5 < bM ∧ bM < B := by omega
  have h00 : Hid (PS w f k bf br b5 bM B [] [] none 0 none 0 0 (.map []) X) := by unfold Hid; rw [← ef]; exact h0.out
  clear h0
  rw [ef]
  clear eB eM e5 er ef
  have f0 : X.cell? ⟨bf, 0, none⟩ = some (.int .i64 f.house) := (h00.out.gf).cell 0
  have f1 : X.cell? ⟨bf, 1, none⟩ = some (.slice k.f f.facts.length k.fc) := (h00.out.gf).cell 1
  have f2 : X.cell? ⟨bf, 2, none⟩ = some (.slice k.o f.ords.length k.oc) := (h00.out.gf).cell 2
  go_upto_region 4 with (fail)
  go_loopw [18] (fun y WR => ∃ (i cnt n : Nat) (A : Option Addr) (D : DataW Unit), i ≤ f.facts.length ∧ y = .int .i64 i ∧ cnt ≤ i ∧ Hid (PS w f k bf br b5 bM B ((f.facts.take i).filter p) [] A n none 0 cnt D WR)) (fun y _ => 2000000 - (intOf y).toNat)
  case atStart => exact ⟨0, 0, 0, none, .map [], by omega, rfl, by omega, h00.out⟩
  case round =>
    obtain ⟨i, cnt, n, A, D, hi', rfl, hcnt, hP⟩ := hrel
    clear f0 f1 f2 h00
    by_cases hlt : i < f.facts.length
    case neg =>
      have hP0 := hP.out
      rw [List.take_of_length_le (by omega)] at hP0
      obtain ⟨FL, eFL⟩ : ∃ L, f.facts.filter p = L := ⟨_, rfl⟩
      rw [eFL] at hP0
      have HP0 := Lib.hid hP0
      have HFL := Lib.hid eFL
      have hFl : FL.length ≤ 1000000 := by rw [← eFL]; exact Nat.le_trans (List.length_filter_le _ _) nf
      have tl : decide ((i : Int) < (f.facts.length : Int)) = false := decide_eq_false (by omega)
      clear hP0 hP eFL
      have f0 : wr.cell? ⟨bf, 0, none⟩ = some (.int .i64 f.house) := (HP0.out.gf).cell 0
      have f1 : wr.cell? ⟨bf, 1, none⟩ = some (.slice k.f f.facts.length k.fc) := (HP0.out.gf).cell 1
      have f2 : wr.cell? ⟨bf, 2, none⟩ = some (.slice k.o f.ords.length k.oc) := (HP0.out.gf).cell 2
      obtain ⟨wo, rfl⟩ : ∃ wo : World, wo = wr := ⟨_, rfl⟩
      go_upto_region 11 with (fail)
      clear tl f0 f1 f2
      go_loopw [38] (fun y WR => ∃ (q n2 : Nat) (A2 : Option Addr), q ≤ f.ords.length ∧ y = .int .i64 q ∧ Hid (PS w f k bf br b5 bM B FL ((f.ords.take q).filter fun b => hasRef FL b.1 && hasRef FL b.2) A n A2 n2 cnt D WR)) (fun y _ => 2000000 - (intOf y).toNat)
      case atStart => exact ⟨0, 0, none, by omega, rfl, HP0.out⟩
      case round =>
        obtain ⟨q, n2, A2, hq', rfl, hP⟩ := hrel
        by_cases hlq : q < f.ords.length
        case neg =>
          have hP0 := hP.out
          rw [List.take_of_length_le (by omega)] at hP0
          obtain ⟨OL, eOL⟩ : ∃ L, (f.ords.filter fun b => hasRef FL b.1 && hasRef FL b.2) = L := ⟨_, rfl⟩
          rw [eOL] at hP0
          have hpt : Hid (f.part p = { f with facts := FL, ords := OL }) := by unfold Hid Fil.part; rw [HFL.out, eOL]
          have hOl : OL.length ≤ 1000000 := by rw [← eOL]; exact Nat.le_trans (List.length_filter_le _ _) no
          have HP1 := Lib.hid hP0
          have g5 := hP0.g5
          have gr := hP0.gr
          have hls := hP0.lt
          have tl : decide ((q : Int) < (f.ords.length : Int)) = false := decide_eq_false (by omega)
          clear hP hP0 eOL HP0
          go_wp2_with (first | (refine wpList_row_w (by rfl) 31 _ rfl b5 rfl 31 _ g5 ⟨_, Tryd.underlying31⟩ (by kernel_rfl) ?_; simp only [Act.put, List.setIfInBounds_toArray, List.set_cons_succ, List.set_cons_zero]) | (refine wpList_store_all rfl 31 _ _ rfl br 31 [] zF.toList [] [.int .i64 f.house, .slice A FL.length n, .slice A2 OL.length n2] rfl rfl gr rfl (by kernel_rfl) (by simp [Value.oneCell']) ?_; intro we ge ue))
          refine bodyPost_ret (ret_row rfl rfl ge ⟨_, Tryd.underlying31⟩ (by kernel_rfl)) rfl ?_
          have h9 := filt_own (F := { f with facts := FL, ords := OL }) ((HP1.out.o1.updT ue gr (by decide)).more (B' := w.heap.size) (by omega)) ((HP1.out.o2.updT ue gr (by decide)).more (by omega)) hFl hOl
          rw [hpt.out]
          exact ⟨⟨_, rfl, h9.1, h9.2⟩, HP1.out.hb.trans (ue.b _ (by omega))⟩
        obtain ⟨x, hx⟩ : ∃ x, f.ords[q]? = some x := ⟨_, List.getElem?_eq_getElem hlq⟩
        obtain ⟨b0, o0, e0, hb0, hc0⟩ := segAt (HK.out.so.below hP.out.hb) hx
        have hix := fun W => idx_at (t := 29) (size := 2) (cap := k.oc) (len := f.ords.length) e0 hlq (by kernel_rfl) (fun W => by kernel_rfl) W
        have hrg : wr.rangeAt b0 (o0 + q * 2) ([.int .i64 x.1, .int .i64 x.2]) := fun j v hv => hc0 j v hv
        have HX := Lib.hid hx
        have tl : decide ((q : Int) < (f.ords.length : Int)) = true := decide_eq_true (by omega)
        clear hx hc0 e0
        go_upto_region 13 with ((refine wpList_elem 35 elO _ _ _ rfl rfl rfl rfl rfl rfl rfl rfl rfl b0 _ rfl ([.int .i64 x.1, .int .i64 x.2]) rfl hrg (by simp [Value.oneCell']) (by decide) (by simp) (by simp) ?_; simp only [Act.put, List.setIfInBounds_toArray, List.set_cons_succ, List.set_cons_zero]))
        refine name_wp ?_
        intro Z hZ
        have gx : Blk Z wr.heap.size 35 (bA x) := by rw [hZ]; exact Blk.new _ _ _
        have hbZ : Below wr.heap.size wr Z := by rw [hZ]; exact wa1 _ _
        have hls := hP.out.lt
        obtain ⟨bx, ex⟩ : ∃ b, wr.heap.size = b := ⟨_, rfl⟩
        rw [ex] at gx hls ⊢
        have hPZ := Lib.hid (hP.out.then_ hbZ)
        clear hZ hbZ hrg hix ex tl hP HP0
        have hI := H2.out x (List.mem_of_getElem? HX.out)
        have l1 := lookup_R hPZ.out.mp hPZ.out.mr hI.1
        have l2 := lookup_R hPZ.out.mp hPZ.out.mr hI.2
        obtain ⟨r1, er1⟩ : ∃ r, hasRef FL x.1 = r := ⟨_, rfl⟩
        obtain ⟨r2, er2⟩ : ∃ r, hasRef FL x.2 = r := ⟨_, rfl⟩
        rw [er1] at l1
        rw [er2] at l2
        have hq2 : Hid ((fun b : Int × Int => hasRef FL b.1 && hasRef FL b.2) x = (r1 && r2)) := by unfold Hid; show (hasRef FL x.1 && hasRef FL x.2) = _; rw [er1, er2]
        clear er1 er2 hI
        have x0 : Z.cell? ⟨bx, 0, none⟩ = some (.int .i64 x.1) := gx.cell 0
        have x1 : Z.cell? ⟨bx, 1, none⟩ = some (.int .i64 x.2) := gx.cell 1
        have skip : (r1 && r2) = false → Hid ((f.ords.take (q + 1)).filter (fun b => hasRef FL b.1 && hasRef FL b.2) = (f.ords.take q).filter (fun b => hasRef FL b.1 && hasRef FL b.2)) := fun h => flt_no HX.out (hq2.out.trans h)
        cases r1 with
        | false =>
          have hfl := skip rfl
          clear skip
          go_wp2
          go_roundw
          case rel => exact ⟨q + 1, n2, A2, by omega, by simp, by rw [hfl.out]; exact hPZ.out⟩
          case measure => simp [intOf]; omega
        | true =>
        cases r2 with
        | false =>
          have hfl := skip rfl
          clear skip
          go_wp2
          go_roundw
          case rel => exact ⟨q + 1, n2, A2, by omega, by simp, by rw [hfl.out]; exact hPZ.out⟩
          case measure => simp [intOf]; omega
        | true =>
        clear skip
        have hfl := Lib.hid (flt_yes (p := fun b : Int × Int => hasRef FL b.1 && hasRef FL b.2) HX.out (hq2.out.trans rfl))
        have hlen := Lib.hid (flt_lt (p := fun b : Int × Int => hasRef FL b.1 && hasRef FL b.2) (l := f.ords) (i := q) no hlq)
        have hPa := Lib.hid (hPZ.out.then_ (wa1 Z (.cells (bA x) 35)))
        obtain ⟨Lc, eLc⟩ : ∃ L, (f.ords.take q).filter (fun b => hasRef FL b.1 && hasRef FL b.2) = L := ⟨_, rfl⟩
        rw [eLc] at hPZ hPa hfl hlen
        have hlen2 := hlen.out
        clear eLc hlen
        have q1 : Z.cell? ⟨b5, 2, none⟩ = some (.slice A2 Lc.length n2) := hPZ.out.g5.cell 2
        have hB1 := hPZ.out.lt.2.2.2.2.2
        go_wp2_with (first | (refine wpList_row_w (by rfl) 35 _ rfl bx rfl 35 _ gx ⟨_, Tryd.underlying35⟩ (by kernel_rfl) ?_; simp only [Act.put, List.setIfInBounds_toArray, List.set_cons_succ, List.set_cons_zero]) | (at_builtin; refine wpList_app _ rfl (.tmp 53) (.tmp 55) _ rfl B 35 rj _ 2 16 Tryd.underlying29 hi2 hz20 hz21 hz22 rfl (by omega) (by omega) eS eS_len one_bef _ Lc rfl ((hPZ.out.o2).alloc _) (by omega) _ 1 x rfl (Blk.new _ _ _) (by simp; omega) ?_; intro v' w2 hO2 hb2 hg2; obtain ⟨A', n', rfl, _⟩ := hO2.segz eS_len; have g52 := hPa.out.g5.below hb2 (by omega); have q1' : w2.cell? ⟨b5, 2, none⟩ = some (.slice A2 Lc.length n2) := g52.cell 2; have qf : w2.frozen? ⟨b5, 2, none⟩ = false := g52.frozen 2))
        have hPn := fun (Y : World) (hY : Y = w2.setCell ⟨b5, 2, none⟩ (.slice A' (Lc ++ [x]).length n')) => Lib.hid (hPa.out.app2 hO2 hb2 hg2 hY (hPa.out.o1.grownT hPa.out.o2 (by decide) hg2))
        go_roundw
        case rel => exact ⟨q + 1, n', A', by omega, by simp, by rw [hfl.out]; exact (hPn _ (by simp)).out⟩
        case measure => simp [intOf]; omega
    obtain ⟨x, hx⟩ : ∃ x, f.facts[i]? = some x := ⟨_, List.getElem?_eq_getElem hlt⟩
    obtain ⟨b0, o0, e0, hb0, hc0⟩ := segAt (HK.out.sf.below hP.out.hb) hx
    have hix := fun W => idx_at (t := 28) (size := 6) (cap := k.fc) (len := f.facts.length) e0 hlt (by kernel_rfl) (fun W => by kernel_rfl) W
    have hrg : wr.rangeAt b0 (o0 + i * 6) ([.int .i64 x.ref, .int .i64 x.act, .int .i64 x.low, .int .i64 x.high, .int .i64 x.filed, .bool x.sec]) := fun j v hv => hc0 j v hv
    have HX := Lib.hid hx
    have tl : decide ((i : Int) < (f.facts.length : Int)) = true := decide_eq_true (by omega)
    clear hx hc0 e0
    go_upto_region 6 with ((refine wpList_elem 33 elF _ _ _ rfl rfl rfl rfl rfl rfl rfl rfl rfl b0 _ rfl ([.int .i64 x.ref, .int .i64 x.act, .int .i64 x.low, .int .i64 x.high, .int .i64 x.filed, .bool x.sec]) rfl hrg (by simp [Value.oneCell']) (by decide) (by simp) (by simp) ?_; simp only [Act.put, List.setIfInBounds_toArray, List.set_cons_succ, List.set_cons_zero]))
    refine name_wp ?_
    intro Z hZ
    have gx : Blk Z wr.heap.size 33 (fA x) := by rw [hZ]; exact Blk.new _ _ _
    have hbZ : Below wr.heap.size wr Z := by rw [hZ]; exact wa1 _ _
    have hls := hP.out.lt
    obtain ⟨bx, ex⟩ : ∃ b, wr.heap.size = b := ⟨_, rfl⟩
    have HEX := Lib.hid ex
    rw [ex] at gx hls ⊢
    have hPZ := Lib.hid (hP.out.then_ hbZ)
    clear hZ hbZ hrg hix ex tl
    obtain ⟨v, ev⟩ : ∃ v, p x = v := ⟨_, rfl⟩
    have HFX := Lib.hid (HF2.out x)
    rw [ev] at HFX
    have HEV := Lib.hid ev
    clear ev
    cases v with
    | false =>
      have hfl := Lib.hid (flt_no HX.out HEV.out)
      go_wp2_with (first | (refine wpList_row_w (by rfl) 33 _ rfl bx rfl 33 _ gx ⟨_, Tryd.underlying33⟩ (by kernel_rfl) ?_; simp only [Act.put, List.setIfInBounds_toArray, List.set_cons_succ, List.set_cons_zero]) | (go_at_call 35; (with_reducible refine (HFX.out _ hPZ.out.hb).mono ?_); rintro e w1 ⟨rfl, hb1⟩))
      go_roundw
      case rel => exact ⟨i + 1, cnt, n, A, D, by omega, by simp, by omega, by rw [hfl.out]; exact hPZ.out.then_ hb1⟩
      case measure => simp [intOf]; omega
    | true =>
    have hfl := Lib.hid (flt_yes HX.out HEV.out)
    have hlen := Lib.hid (flt_lt (p := p) (l := f.facts) (i := i) nf hlt)
    go_upto_region 7 with (first | (refine wpList_row_w (by rfl) 33 _ rfl bx rfl 33 _ gx ⟨_, Tryd.underlying33⟩ (by kernel_rfl) ?_; simp only [Act.put, List.setIfInBounds_toArray, List.set_cons_succ, List.set_cons_zero]) | (go_at_call 35; (with_reducible refine (HFX.out _ hPZ.out.hb).mono ?_); rintro e w1 ⟨rfl, hb1⟩))
    have hP1 := Lib.hid (hPZ.out.then_ hb1)
    have gx1 := gx.then_ hb1
    have hPa := Lib.hid (hP1.out.then_ (wa1 w1 (.cells (fA x) 33)))
    have gxa := gx1.then_ (wa1 w1 (.cells (fA x) 33))
    have q1 : w1.cell? ⟨b5, 1, none⟩ = some (.slice A ((f.facts.take i).filter p).length n) := hP1.out.g5.cell 1
    have lbx := gx1.lt
    have hB1 := hP1.out.lt.2.2.2.2.2
    clear hPZ hb1 gx
    obtain ⟨Lc, eLc⟩ : ∃ L, (f.facts.take i).filter p = L := ⟨_, rfl⟩
    rw [eLc] at hP hP1 hPa q1 hfl hlen
    have hlen2 := hlen.out
    clear eLc hlen
    go_upto_region 8 with (first | (refine wpList_row_w (by rfl) 33 _ rfl bx rfl 33 _ gx1 ⟨_, Tryd.underlying33⟩ (by kernel_rfl) ?_; simp only [Act.put, List.setIfInBounds_toArray, List.set_cons_succ, List.set_cons_zero]) | (at_builtin; refine wpList_app _ rfl (.tmp 26) (.tmp 28) _ rfl B 33 ri _ 6 48 Tryd.underlying28 hi1 hz10 hz11 hz12 rfl (by omega) (by omega) eF eF_len one_fac _ Lc rfl ((hP1.out.o1).alloc _) (by omega) _ 1 x rfl (Blk.new _ _ _) (by simp; omega) ?_; intro v' w2 hO2 hb2 hg2; obtain ⟨A', n', rfl, _⟩ := hO2.segz eF_len; have g52 := hPa.out.g5.below hb2 (by omega); have q1' : w2.cell? ⟨b5, 1, none⟩ = some (.slice A Lc.length n) := g52.cell 1; have qf : w2.frozen? ⟨b5, 1, none⟩ = false := g52.frozen 1))
    refine name_wp ?_
    intro Y hY
    rw [show Lc.length + 1 = (Lc ++ [x]).length by simp] at hY
    have u : Upd w2 Y b5 := by rw [hY]; exact (Upd.refl _ _).setCell 1 _
    have x0 : Y.cell? ⟨bx, 0, none⟩ = some (.int .i64 x.ref) := (u.cell (by omega)).trans ((grown_cell hP.out.o1 hg2 0 (by have := HEX.out; omega) (by simp; omega)).trans (gxa.cell 0))
    have h8 := Lib.hid (hPa.out.app1 hO2 hb2 hg2 hY (hPa.out.o2.grownT hPa.out.o1 (by decide) hg2))
    have HKEY := Lib.hid (keyOf_int_mk (P := Tryd.prog) (k := 3) (q := .i64) (a := x.ref) Tryd.underlying3 (by have := H1.out x (List.mem_of_getElem? HX.out); simp [Lit.wf, IntKind.min, IntKind.max, IntKind.signed, IntKind.bits]; omega))
    have GM := Lib.hid h8.out.2.2.2.2.2.1
    have HMR := Lib.hid hP1.out.mr
    clear hY u hO2 hb2 hg2 g52 q1' qf hPa hP1 hP q1 gx1 gxa hls
    go_wp2_with (at_mapUpdate; (refine wpList_mapUpdate_own _ rfl _ _ _ 99 rfl 3 4 keyI Tryd.underlying99 _ bM cnt _ rfl GM.out (by unfold maxLen; omega) _ _ _ rfl rfl HKEY.out _ [] (plainElem_bool Tryd.underlying4 true) ?_); intro w3 hown3 hgrow3)
    have hPn := Lib.hid (PS.next1 lts HMR.out h8.out hown3 hgrow3)
    clear h8 hown3 hgrow3 GM
    go_roundw
    case rel => exact ⟨i + 1, cnt + 1, n', A', _, by omega, by simp, by omega, by rw [hfl.out]; exact hPn.out⟩
    case measure => simp [intOf]; omega

theorem asOf1_any (x : Fac) (d : Int) (g : Nat) (w : World) (hg : Blk w g 3 #[.int .i64 d]) :
    Calls Tryd.prog 34 #[.agg (fA x), .pointer (some ⟨g, 0, none⟩)] w fun e w' => e = .returned (.bool (decide (x.filed ≤ d))) ∧ Below w.heap.size w w' := by
  have c0 : w.cell? ⟨g, 0, none⟩ = some (.int .i64 d) := hg.cell 0
  have lg := hg.lt
  obtain ⟨r, hr⟩ : ∃ r, decide (x.filed ≤ d) = r := ⟨_, rfl⟩
  clear hg
  go_enter Tryd.func34, Tryd.ntmps34
  go_wp2
  go_ret
  exact ⟨ret_bool hr.symm, wa1 _ _⟩
theorem open1_any (x : Fac) (w : World) :
    Calls Tryd.prog 35 #[.agg (fA x)] w fun e w' => e = .returned (.bool (!x.sec)) ∧ Below w.heap.size w w' := by
  go_enter Tryd.func35, Tryd.ntmps35
  go_wp2
  go_ret
  exact ⟨rfl, wa1 _ _⟩
/-- a file returned -/
def RetP (w : World) (F : Fil) (e : Ending) (w' : World) : Prop := (∃ m, e = .returned (.agg (flA F m)) ∧ Filt w' F m ∧ FOff (w.heap.size ≤ ·) m) ∧ Below w.heap.size w w'
/-- the numbers that key the map are int64 -/
def Fil.B (f : Fil) : Prop := (∀ x ∈ f.facts, I64 x.ref) ∧ ∀ b ∈ f.ords, I64 b.1 ∧ I64 b.2
theorem Fil.B.part {f : Fil} (h : f.B) (p : Fac → Bool) : (f.part p).B := ⟨fun x hx => h.1 x (List.mem_filter.1 hx).1, fun b hb => h.2 b (List.mem_filter.1 hb).1⟩
set_option maxRecDepth 100000 in
set_option maxHeartbeats 1600000 in
theorem asOf_any (f : Fil) (k : Fm) (d : Int) (w : World) (hk : Filt w f k) (hB : f.B) :
    Calls Tryd.prog 18 #[.agg (flA f k), .int .i64 d] w fun e w' => RetP w (f.asOf d) e w' := by
  have HP := Lib.hid (fun W (g : Nat) (hb : Below w.heap.size w W) (hg : Blk W g 3 #[.int .i64 d]) => partA_any f k (fun x => decide (x.filed ≤ d)) g W (hk.then_ hb) hB.1 hB.2 (fun x W' hb' => asOf1_any x d g W' (hg.then_ hb')))
  rw [show f.asOf d = f.part fun x => decide (x.filed ≤ d) from rfl]
  obtain ⟨P, eP⟩ : ∃ P, (f.part fun x => decide (x.filed ≤ d)) = P := ⟨_, rfl⟩
  rw [eP] at HP ⊢
  clear hk hB eP
  go_enter Tryd.func18, Tryd.ntmps18
  go_upto_region 1 with (fail)
  refine name_wp ?_
  intro X hX
  have gbf : Blk X w.heap.size 31 (flA f k) := by rw [hX]; exact ((blk_at (by simp)).alloc _).alloc _
  have gbd : Blk X (w.heap.size + 1) 3 (#[.int .i64 d]) := by rw [hX]; exact (blk_at (by simp)).alloc _
  have gbr : Blk X (w.heap.size + 2) 31 (zF) := by rw [hX]; exact blk_at (by simp)
  have HB : Below w.heap.size w X := by rw [hX]; (repeat (first | with_reducible assumption | with_reducible exact Below.refl _ _ | with_reducible refine below_drewN ?_ _ | with_reducible refine Below.drew ?_ | with_reducible refine below_alloc ?_ _ | with_reducible refine Below.setCell ?_ (by first | omega | (simp; done) | (simp; omega)) _ | with_reducible refine below_then ?_ (by with_reducible assumption) | (refine below_then (a := World.drew _) ?_ (by with_reducible assumption))))
  clear hX
  obtain ⟨br, ebr⟩ : ∃ b, w.heap.size + 2 = b := ⟨_, rfl⟩
  obtain ⟨bd, ebd⟩ : ∃ b, w.heap.size + 1 = b := ⟨_, rfl⟩
  obtain ⟨bf, ebf⟩ : ∃ b, w.heap.size = b := ⟨_, rfl⟩
  have lbf : w.heap.size ≤ bf := by omega
  have lbd : w.heap.size ≤ bd := by omega
  have lbr : w.heap.size ≤ br := by omega
  have nbfbd : bf ≠ bd := by omega
  have nbfbr : bf ≠ br := by omega
  have nbdbr : bd ≠ br := by omega
  rw [ebr] at gbr ⊢
  rw [ebd] at gbd ⊢
  rw [ebf] at gbf ⊢
  clear ebf ebd ebr
  have HBX := Lib.hid HB
  clear HB
  go_wp2_with (first | (refine wpList_row_w (by rfl) 31 _ rfl bf rfl 31 _ gbf ⟨_, Tryd.underlying31⟩ (by kernel_rfl) ?_; simp only [Act.put, List.setIfInBounds_toArray, List.set_cons_succ, List.set_cons_zero]) | (go_at_call 33; (with_reducible refine (HP.out _ bd HBX.out gbd).mono ?_); rintro e w1 ⟨⟨m, rfl, hF, hO⟩, hb1⟩; have gr1 := gbr.then_ hb1; have lr := gbr.lt) | (refine wpList_store_all rfl 31 _ _ rfl br 31 [] zF.toList [] [.int .i64 P.house, .slice m.f P.facts.length m.fc, .slice m.o P.ords.length m.oc] rfl rfl gr1 rfl (by kernel_rfl) (by simp [Value.oneCell']) ?_; intro we ge ue))
  refine bodyPost_ret (ret_row rfl rfl ge ⟨_, Tryd.underlying31⟩ (by kernel_rfl)) rfl ?_
  exact ⟨⟨m, rfl, hF.upd ue (hO.mono fun b hb => by omega), hO.mono fun b hb => Nat.le_trans HBX.out.size hb⟩, (HBX.out.trans (hb1.mono HBX.out.size)).trans (ue.b _ lbr)⟩
set_option maxRecDepth 100000 in
set_option maxHeartbeats 1600000 in
theorem open_any (f : Fil) (k : Fm) (w : World) (hk : Filt w f k) (hB : f.B) :
    Calls Tryd.prog 19 #[.agg (flA f k)] w fun e w' => RetP w f.open_ e w' := by
  have HP := Lib.hid (fun W (hb : Below w.heap.size w W) => partP_any f k (fun x => !x.sec) W (hk.then_ hb) hB.1 hB.2 (fun x W' _ => open1_any x W'))
  rw [show f.open_ = f.part fun x => !x.sec from rfl]
  obtain ⟨P, eP⟩ : ∃ P, (f.part fun x => !x.sec) = P := ⟨_, rfl⟩
  rw [eP] at HP ⊢
  clear hk hB eP
  go_enter Tryd.func19, Tryd.ntmps19
  go_upto_region 1 with (fail)
  refine name_wp ?_
  intro X hX
  have gbf : Blk X w.heap.size 31 (flA f k) := by rw [hX]; exact (blk_at (by simp)).alloc _
  have gbr : Blk X (w.heap.size + 1) 31 (zF) := by rw [hX]; exact blk_at (by simp)
  have HB : Below w.heap.size w X := by rw [hX]; (repeat (first | with_reducible assumption | with_reducible exact Below.refl _ _ | with_reducible refine below_drewN ?_ _ | with_reducible refine Below.drew ?_ | with_reducible refine below_alloc ?_ _ | with_reducible refine Below.setCell ?_ (by first | omega | (simp; done) | (simp; omega)) _ | with_reducible refine below_then ?_ (by with_reducible assumption) | (refine below_then (a := World.drew _) ?_ (by with_reducible assumption))))
  clear hX
  obtain ⟨br, ebr⟩ : ∃ b, w.heap.size + 1 = b := ⟨_, rfl⟩
  obtain ⟨bf, ebf⟩ : ∃ b, w.heap.size = b := ⟨_, rfl⟩
  have lbf : w.heap.size ≤ bf := by omega
  have lbr : w.heap.size ≤ br := by omega
  have nbfbr : bf ≠ br := by omega
  rw [ebr] at gbr ⊢
  rw [ebf] at gbf ⊢
  clear ebf ebr
  have HBX := Lib.hid HB
  clear HB
  go_wp2_with (first | (refine wpList_row_w (by rfl) 31 _ rfl bf rfl 31 _ gbf ⟨_, Tryd.underlying31⟩ (by kernel_rfl) ?_; simp only [Act.put, List.setIfInBounds_toArray, List.set_cons_succ, List.set_cons_zero]) | (go_at_call 33; (with_reducible refine (HP.out _ HBX.out).mono ?_); rintro e w1 ⟨⟨m, rfl, hF, hO⟩, hb1⟩; have gr1 := gbr.then_ hb1; have lr := gbr.lt) | (refine wpList_store_all rfl 31 _ _ rfl br 31 [] zF.toList [] [.int .i64 P.house, .slice m.f P.facts.length m.fc, .slice m.o P.ords.length m.oc] rfl rfl gr1 rfl (by kernel_rfl) (by simp [Value.oneCell']) ?_; intro we ge ue))
  refine bodyPost_ret (ret_row rfl rfl ge ⟨_, Tryd.underlying31⟩ (by kernel_rfl)) rfl ?_
  exact ⟨⟨m, rfl, hF.upd ue (hO.mono fun b hb => by omega), hO.mono fun b hb => Nat.le_trans HBX.out.size hb⟩, (HBX.out.trans (hb1.mono HBX.out.size)).trans (ue.b _ lbr)⟩
end Go.Proofs.YtemkghgcdpmlbaaDoor
