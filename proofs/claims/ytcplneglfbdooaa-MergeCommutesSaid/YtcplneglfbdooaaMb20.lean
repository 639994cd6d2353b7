/- Contracts of functions and plain laws, joined: Kbt, Kbu, Kc5. -/
import Derived.Test.YtcplneglfbdooaaMb19
import Derived.Test.YtcplneglfbdooaaMb16
import Derived.WalkMore
import Derived.Test.YtcplneglfbdooaaMb18
import Derived.Test.YtcplneglfbdooaaMb11
/- The walk of merge.conflict. -/
namespace Go.Proofs.Ytcplneglfbdooaa
open Go.RowKit

theorem ret_arr2 {P : Program} {fn : Func} {a : Act} {w : World} {r s g : Nat} {t e : TypeId} {n : Nat} {cs : Array Value} (hres : fn.results = #[.cell r t, .tmp s]) (hp : a.tmps.getD r undef = .pointer (some ⟨g, 0, none⟩)) (hk : Blk w g t cs) (hu : P.underlying t = some (.array n e)) (hi : (P.info? t).map (·.size) = some cs.size) :
    (results fn a.tmps).run P w = .ok (.tuple #[.agg cs, a.tmps.getD s undef]) w := by
  have h1 := run_loadVar_row w g t t cs (0, 0) _ hk hu rfl hi
  rw [Array.getD_eq_getD_getElem?] at hp
  have ha : (isAgg t).run P w = .ok true w := by simp [isAgg, run_underlying hu, Result.andThen]
  simp only [go_sem] at h1
  simp [results, hres, hp, go_sem, ha]
  simp [ha] at h1
  rw [h1]
  rfl
theorem take_at {t : TypeId} {size : Nat} {A : Option Addr} {len cap i : Nat} (hi : i ≤ cap) (ht : Try.prog.underlying t = some (.slice (Try.prog.elem t))) (hs : ∀ W : World, (sizeOf (Try.prog.elem t)).run Try.prog W = .ok size W) (W : World) :
    (Instr.slice t (.slice A len cap) none (some (.int .i64 (i : Nat))) none).run Try.prog W = .ok (.slice A i cap) W := by
  rw [run_slice_h W t A len cap ht .i64 i (by omega) (by omega), hs]
  cases A with
  | none => simp [sliced, Result.andThen]
  | some p => simp [sliced, Result.andThen, Addr.add]
theorem added_take (L : List Pk) (A : Option Addr) (cap i : Nat) (w : World) (hs : Seg w w.heap.size 19 eP A L) (hn : L.length ≤ 1000000) (hi : i ≤ L.length) :
    Calls Try.prog 32 #[.slice A i cap] w fun e w' => e = .returned (.int .i64 (addsN ((pats L).take i) : Nat)) ∧ Below w.heap.size w w' := by
  have hl : (L.take i).length = i := by rw [List.length_take]; omega
  have h := added_any (L.take i) A cap w (fun k x hx => by
    have h2 : L[k]? = some x := by
      rw [List.getElem?_take] at hx
      split at hx
      · exact hx
      · cases hx
    exact hs k x h2) (by omega)
  rw [hl] at h
  rw [show pats (L.take i) = (pats L).take i from List.map_take] at h
  exact h
/-- what conflict gives -/
def outR (o : Option (Nat × Nat)) : Int × Int × Bool := match o with
  | some (i, j) => (i, j, true)
  | none => (0, 0, false)
abbrev pairA (i j : Int) : Array Value := #[.int .i64 i, .int .i64 j]
/-- the indices of a patch are small -/
def Pat.sm (p : Pat) : Prop := (∀ x ∈ p.cls, x ≤ 1000000) ∧ ∀ s ∈ p.new.start, s.1 ≤ 1000000
theorem alC_one {c : Con} {q : Pat} (h : c.apE q = 0) : c.alC [q] = c.ap q ∧ (c.al [q]).1 = 0 := by
  unfold Con.alC
  rw [al_yes _ h]
  exact ⟨rfl, rfl⟩
theorem al_one_no {c : Con} {q : Pat} (h : c.apE q ≠ 0) : (c.al [q]).1 ≠ 0 := by
  rw [al_no _ h]; exact h
set_option maxRecDepth 100000 in
set_option maxHeartbeats 6400000 in
theorem conflict_any (HS : Hid SameC) (c : Con) (m : Cm) (L R : List Pk) (A1 A2 : Option Addr) (k1 k2 : Nat) (w : World) (h : Cont w c m) (hL : Pats w A1 L) (hR : Pats w A2 R) (hc1 : L.length ≤ k1) (hs : ∀ x ∈ R, x.p.sm) :
    Calls Try.prog 33 #[.agg (coA c m), .slice A1 L.length k1, .slice A2 R.length k2] w fun e w' => e = .returned (.tuple #[.agg (pairA (outR (outer c.cl.length (pats R) c 0 0 (pats L))).1 (outR (outer c.cl.length (pats R) c 0 0 (pats L))).2.1), .bool (outR (outer c.cl.length (pats R) c 0 0 (pats L))).2.2]) ∧ Below w.heap.size w w' := by
  have HL := Lib.hid hL
  have HR := Lib.hid hR
  have HSM := Lib.hid hs
  have nL := hL.n
  have nR := hR.n
  have nk := h.nk
  have HC := Lib.hid h
  obtain ⟨O, hO⟩ : ∃ O, outer c.cl.length (pats R) c 0 0 (pats L) = O := ⟨_, rfl⟩
  rw [hO]
  obtain ⟨n, hn⟩ : ∃ n, c.cl.length = n := ⟨_, rfl⟩
  have HN := Lib.hid hn
  rw [hn] at hO nk
  have HO := Lib.hid hO
  clear hL hR hs h hO
  go_enter Try.func33, Try.ntmps33
  go_upto_region 1 with (fail)
  refine name_wp ?_
  intro X hX
  have gbc : Blk X w.heap.size 27 (coA c m) := by rw [hX]; exact (blk_at (by simp)).alloc _
  have gbr : Blk X (w.heap.size + 1) 36 (pairA 0 0) := by rw [hX]; exact blk_at (by simp)
  have HB : Below w.heap.size w X := by rw [hX]; (repeat (first | with_reducible assumption | with_reducible exact Below.refl _ _ | with_reducible refine below_drewN ?_ _ | with_reducible refine Below.drew ?_ | with_reducible refine below_alloc ?_ _ | with_reducible refine Below.setCell ?_ (by first | omega | (simp; done) | (simp; omega)) _ | with_reducible refine below_then ?_ (by with_reducible assumption) | (refine below_then (a := World.drew _) ?_ (by with_reducible assumption))))
  clear hX
  obtain ⟨br, ebr⟩ : ∃ b, w.heap.size + 1 = b := ⟨_, rfl⟩
  obtain ⟨bc, ebc⟩ : ∃ b, w.heap.size = b := ⟨_, rfl⟩
  have lbc : w.heap.size ≤ bc := by omega
  have lbr : w.heap.size ≤ br := by omega
  have nbcbr : bc ≠ br := by omega
  rw [ebr] at gbr ⊢
  rw [ebc] at gbc ⊢
  clear ebc ebr
  have k4 : X.cell? ⟨bc, 4, none⟩ = some (.slice m.k n m.kc) := by rw [← hn]; exact gbc.cell 4
  have HBX := Lib.hid HB
  have HCX : Hid (Cont X c m) := HC.out.then_ HB
  clear HB hn
  go_step3
  go_upto_region 3 with (first | (refine wpList_row_w (by rfl) 27 _ rfl bc rfl 27 _ gbc ⟨_, Try.underlying27⟩ (by kernel_rfl) ?_; simp only [Act.put, List.setIfInBounds_toArray, List.set_cons_succ, List.set_cons_zero]) | (refine wpList_store_all rfl 27 _ _ rfl X.heap.size 27 [] coZ.toList [] (coA c m).toList rfl rfl (Blk.new _ _ _) rfl (by kernel_rfl) (by simp [Value.oneCell']) ?_; intro w2 g1 U1))
  have hX2 : Below X.heap.size X w2 := (wa1 _ _).trans (U1.b _ (Nat.le_refl _))
  have gr2 := Lib.hid (gbr.then_ hX2)
  have HB2 := Lib.hid (below_then HBX.out hX2)
  have HC2 : Hid (Cont w2 c m) := HCX.out.then_ hX2
  have lX := HBX.out.size
  have lr := gbr.lt
  have HOX0 := Lib.hid HCX.out.off
  obtain ⟨bf, ef⟩ : ∃ b, X.heap.size = b := ⟨_, rfl⟩
  have HOX : Hid (Off (· ≠ bf) c m) := HOX0.out.mono fun b hb e => by omega
  rw [ef] at g1 lr lX ⊢
  have g2 := Lib.hid g1
  have lf : Hid (bf < w2.heap.size) := g1.lt
  clear hX2 U1 gbc gbr ef k4 HBX HCX g1 HOX0
  go_upto_region 4 with (fail)
  go_step3
  go_upto_region 4 with (fail)
  go_loopw [26] (fun y WR => ∃ (i : Nat) (ci : Con) (mi : Cm), i ≤ L.length ∧ y = .int .i64 i ∧ Hid (Blk WR bf 27 (coA ci mi)) ∧ Hid (Cont WR ci mi) ∧ Hid (Off (· ≠ bf) ci mi) ∧ Hid (Blk WR br 36 (pairA 0 0)) ∧ Hid (outer n (pats R) ci (addsN ((pats L).take i)) i (pats (L.drop i)) = O) ∧ Hid (Below w.heap.size w WR)) (fun y _ => 2000000 - (intOf y).toNat)
  case atStart => exact ⟨0, c, m, by omega, rfl, g2, HC2, HOX, gr2, HO, HB2⟩
  case round =>
    clear g2 HC2 gr2 HO HB2 lf
    obtain ⟨i, ci, mi, hi', rfl, hf, hci, hof, hr, hO, hB⟩ := hrel
    by_cases hlt : i < L.length
    · have tn : decide ((i : Int) < (L.length : Int)) = true := decide_eq_true (by omega)
      obtain ⟨x, hx⟩ : ∃ x, L[i]? = some x := ⟨_, List.getElem?_eq_getElem hlt⟩
      have hdr : L.drop i = x :: L.drop (i + 1) := by
        rw [List.drop_eq_getElem_cons hlt]
        rw [List.getElem?_eq_getElem hlt] at hx
        injection hx with hx
        rw [hx]
      have hLw := HL.out.then_ hB.out
      obtain ⟨b0, o0, eA0, hb0, hc0⟩ := segAt hLw.s hx
      have hrg : wr.rangeAt b0 (o0 + i * 19) (eP x) := fun j v hv => hc0 j v hv
      have hix := fun W => idx_at (t := 28) (size := 19) (cap := k1) (len := L.length) eA0 hlt (by kernel_rfl) (fun W => by kernel_rfl) W
      have hsl := fun W => take_at (t := 28) (A := A1) (len := L.length) (size := 19) (show i ≤ k1 by omega) (by kernel_rfl) (fun W => by kernel_rfl) W
      have HPW := Lib.hid (HL.out.t x (List.mem_of_getElem? hx))
      obtain ⟨k, hk⟩ : ∃ k, addsN ((pats L).take i) = k := ⟨_, rfl⟩
      have hkn : k ≤ 1000000 := by rw [← hk]; have := addsN_le ((pats L).take i); rw [List.length_take] at this; omega
      have HK := Lib.hid hk
      have HK2 : Hid (addsN ((pats L).take (i + 1)) = k + addsN [x.p]) := by
        unfold Hid
        rw [addsN_take_succ (by rw [List.getElem?_map, hx]; rfl), hk]
        unfold addsN
        by_cases hkk : x.p.kind = 1 <;> simp [hkk]
      have HOO : Hid ((match inner n k x.p ci 0 (pats R) with | some j => some (i, j) | none => if ci.apE x.p = 0 then outer n (pats R) (ci.ap x.p) (k + addsN [x.p]) (i + 1) (pats (L.drop (i + 1))) else none) = O) := by
        unfold Hid
        rw [← hO.out, hdr, hk]
        rfl
      have HAD : Hid (∀ W, Below w.heap.size w W → Calls Try.prog 32 #[.slice A1 i k1] W fun e w' => e = .returned (.int .i64 (k : Nat)) ∧ Below W.heap.size W w') := fun W hb => by
        have h := added_take L A1 k1 i W (HL.out.then_ hb).s nL (by omega)
        rw [HK.out] at h
        exact h
      clear hc0 hx hdr hO eA0 hLw hk
      go_upto_region 6 with (refine wpList_elem4 49 el19 _ _ _ _ _ rfl rfl rfl rfl rfl rfl rfl rfl rfl rfl rfl rfl b0 _ rfl (eP x) rfl hrg (by simp [Value.oneCell']) (by decide) (by decide) (by decide) (by simp) (by simp) (.int .i64 (i : Nat)) rfl ?_; simp only [Act.put, List.setIfInBounds_toArray, List.set_cons_succ, List.set_cons_zero])
      refine name_wp ?_
      intro Y hY
      have gx : Blk Y wr.heap.size 49 (pL x.p x.m) := by rw [hY]; exact Blk.new _ _ _
      have hbY : Below wr.heap.size wr Y := by rw [hY]; exact wa1 _ _
      clear hY hrg hix
      obtain ⟨bx, ex⟩ : ∃ b, wr.heap.size = b := ⟨_, rfl⟩
      have gf2 := hf.out.then_ hbY
      have HR2 := Lib.hid (hr.out.then_ hbY)
      have HC2 := Lib.hid (hci.out.then_ hbY)
      have HB2 := Lib.hid (below_then hB.out hbY)
      rw [ex] at gx ⊢
      clear hf hci hr hbY ex hB
      go_step3
      go_upto_region 8 with (first | (go_at_call 32; (with_reducible refine (HAD.out _ HB2.out).mono ?_); rintro e w1 ⟨rfl, hb1⟩; have gf1 := gf2.then_ hb1) | (refine wpList_row_w (by rfl) 27 _ rfl bf rfl 27 _ gf1 ⟨_, Try.underlying27⟩ (by kernel_rfl) ?_; simp only [Act.put, List.setIfInBounds_toArray, List.set_cons_succ, List.set_cons_zero]) | (refine wpList_store_all rfl 27 _ _ rfl w1.heap.size 27 [] coZ.toList [] (coA ci mi).toList rfl rfl (Blk.new _ _ _) rfl (by kernel_rfl) (by simp [Value.oneCell']) ?_; intro w2 g13 U1))
      have hY2 : Below Y.heap.size Y w2 := (below_alloc hb1 _).trans (U1.b _ hb1.size)
      have gf3 := Lib.hid (gf2.then_ hY2)
      have gx3 := Lib.hid (gx.then_ hY2)
      have HR3 := Lib.hid (HR2.out.then_ hY2)
      have HC3 := Lib.hid (HC2.out.then_ hY2)
      have HB3 := Lib.hid (below_then HB2.out hY2)
      have HOF : Hid (Off (· < w1.heap.size) ci mi) := (HC2.out.then_ hb1).off
      have l13 := g13.lt
      have lfx : bf < Y.heap.size ∧ bx < Y.heap.size ∧ br < Y.heap.size := ⟨gf2.lt, gx.lt, HR2.out.lt⟩
      have lYw := hb1.size
      obtain ⟨b13, e13⟩ : ∃ b, w1.heap.size = b := ⟨_, rfl⟩
      rw [e13] at g13 l13 HOF lYw ⊢
      have G13 := Lib.hid g13
      have d1 : bf ≠ b13 := by omega
      have d2 : bx ≠ b13 := by omega
      have d3 : br ≠ b13 := by omega
      have dw : w.heap.size ≤ b13 := by have := HB2.out.size; omega
      clear gf1 hY2 hb1 U1 gf2 gx HR2 HC2 HB2 g13 HAD hsl e13
      go_upto_region 9 with (fail)
      go_step3
      go_upto_region 9 with (fail)
      go_loopw [38] (fun y WR => ∃ (j : Nat) (cj : Con) (mj : Cm), j ≤ R.length ∧ y = .int .i64 j ∧ Hid (Blk WR b13 27 (coA cj mj)) ∧ Hid (Cont WR cj mj) ∧ Hid (Off (· ≠ b13) cj mj) ∧ Hid (Cont WR ci mi) ∧ Hid (Blk WR bf 27 (coA ci mi)) ∧ Hid (Blk WR bx 49 (pL x.p x.m)) ∧ Hid (Blk WR br 36 (pairA 0 0)) ∧ Hid (inner n k x.p cj j (pats (R.drop j)) = inner n k x.p ci 0 (pats R)) ∧ Hid (Below w.heap.size w WR) ∧ Hid (b13 < WR.heap.size)) (fun y _ => 2000000 - (intOf y).toNat)
      case atStart => exact ⟨0, ci, mi, by omega, rfl, G13, HC3, HOF.out.mono fun b hb e => by omega, HC3, gf3, gx3, HR3, rfl, HB3, l13⟩
      case round =>
        clear G13 HC3 gf3 gx3 HR3 HB3 l13
        obtain ⟨j, cj, mj, hj', rfl, hg, hcj, HOJ4, hci, hf, hx, hr, hI, hB, hS⟩ := hrel
        by_cases hlt2 : j < R.length
        · have tn2 : decide ((j : Int) < (R.length : Int)) = true := decide_eq_true (by omega)
          obtain ⟨q, hq⟩ : ∃ q, R[j]? = some q := ⟨_, List.getElem?_eq_getElem hlt2⟩
          have hdr : R.drop j = q :: R.drop (j + 1) := by
            rw [List.drop_eq_getElem_cons hlt2]
            rw [List.getElem?_eq_getElem hlt2] at hq
            injection hq with hq
            rw [hq]
          have hRw := HR.out.then_ hB.out
          obtain ⟨b2, o2, eA2, hb2, hc2⟩ := segAt hRw.s hq
          have hrg : wr.rangeAt b2 (o2 + j * 19) (eP q) := fun j v hv => hc2 j v hv
          have hix := fun W => idx_at (t := 28) (size := 19) (cap := k2) (len := R.length) eA2 hlt2 (by kernel_rfl) (fun W => by kernel_rfl) W
          have HQW := Lib.hid (HR.out.t q (List.mem_of_getElem? hq))
          have hsm := HSM.out q (List.mem_of_getElem? hq)
          have HII : Hid ((if cj.com x.p (q.p.ren n k) then (if cj.apE (q.p.ren n k) = 0 then inner n k x.p (cj.ap (q.p.ren n k)) (j + 1) (pats (R.drop (j + 1))) else none) else some j) = inner n k x.p ci 0 (pats R)) := by
            unfold Hid
            rw [← hI.out, hdr]
            rfl
          clear hc2 hq hdr hI eA2 hRw
          go_upto_region 11 with (refine wpList_elem4 49 el19 _ _ _ _ _ rfl rfl rfl rfl rfl rfl rfl rfl rfl rfl rfl rfl b2 _ rfl (eP q) rfl hrg (by simp [Value.oneCell']) (by decide) (by decide) (by decide) (by simp) (by simp) (.int .i64 (j : Nat)) rfl ?_; simp only [Act.put, List.setIfInBounds_toArray, List.set_cons_succ, List.set_cons_zero])
          refine name_wp ?_
          intro Z hZ
          have gq : Blk Z wr.heap.size 49 (pL q.p q.m) := by rw [hZ]; exact Blk.new _ _ _
          have hbZ : Below wr.heap.size wr Z := by rw [hZ]; exact wa1 _ _
          clear hZ hrg hix
          obtain ⟨bq, eq⟩ : ∃ b, wr.heap.size = b := ⟨_, rfl⟩
          have lq : b13 < bq ∧ w.heap.size ≤ bq := by rw [← eq]; exact ⟨hS.out, hB.out.size⟩
          have g13 := hg.out.then_ hbZ
          have HCJ := Lib.hid (hcj.out.then_ hbZ)
          have HCI := Lib.hid (hci.out.then_ hbZ)
          have HOJ : Hid (Off (· < bq) cj mj) := by rw [← eq]; exact hcj.out.off
          have HOI : Hid (Off (· < bq) ci mi) := by rw [← eq]; exact hci.out.off
          have GF := Lib.hid (hf.out.then_ hbZ)
          have gx := hx.out.then_ hbZ
          have GR := Lib.hid (hr.out.then_ hbZ)
          have HBZ := Lib.hid (below_then hB.out hbZ)
          have lqx : bf < bq ∧ bx < bq ∧ br < bq := by rw [← eq]; exact ⟨hf.out.lt, hx.out.lt, hr.out.lt⟩
          have HRN := Lib.hid (ren_any q.p q.m n k Z (HQW.out.then_ HBZ.out) hsm.1 hsm.2 nk hkn)
          rw [eq] at gq ⊢
          clear hg hcj hci hf hx hr hB hS hbZ eq hsm
          go_upto_region 12 with (first | (refine wpList_row_w (by rfl) 49 _ rfl bq rfl 49 _ gq ⟨_, Try.underlying49⟩ (by kernel_rfl) ?_; simp only [Act.put, List.setIfInBounds_toArray, List.set_cons_succ, List.set_cons_zero]) | (go_at_call 34; (with_reducible refine HRN.out.mono ?_); rintro e w3 ⟨⟨qm, rfl, hpq, hoq, _⟩, hb3⟩; have gq3 := gq.then_ hb3) | (refine wpList_store_all rfl 49 _ _ rfl bq 49 [] (pL q.p q.m).toList [] (pL (q.p.ren n k) qm).toList rfl rfl gq3 rfl (by kernel_rfl) (by simp [Value.oneCell']) ?_; intro w4 gq4 U4))
          have g134 := (g13.then_ hb3).upd U4 (by omega)
          have gx4 := (gx.then_ hb3).upd U4 (by omega)
          have GF4 := Lib.hid ((GF.out.then_ hb3).upd U4 (by omega))
          have GR4 := Lib.hid ((GR.out.then_ hb3).upd U4 (by omega))
          have HCJ4 : Hid (Cont w4 cj mj) := (HCJ.out.then_ hb3).upd U4 (HOJ.out.mono fun b hb e => by omega)
          have HCI4 : Hid (Cont w4 ci mi) := (HCI.out.then_ hb3).upd U4 (HOI.out.mono fun b hb e => by omega)
          have lZq := gq.lt
          have HPQ4 : Hid (PatM w4 (q.p.ren n k) qm) := hpq.upd U4 (hoq.mono fun b hb e => by omega)
          have HB4 : Hid (Below w.heap.size w w4) := (below_then HBZ.out hb3).trans (U4.b _ lq.2)
          have HPX4 : Hid (PatM w4 x.p x.m) := HPW.out.then_ HB4.out
          have HCM := Lib.hid (com_any HS cj mj x.p (q.p.ren n k) x.m qm w4 HCJ4.out HPX4.out HPQ4.out)
          clear g13 gx GF GR HCJ HCI HOJ HOI hpq hoq gq3 gq HBZ HRN hb3 U4
          cases hcom : cj.com x.p (q.p.ren n k) with
          | false =>
            rw [hcom] at HCM
            have hf : Hid (O = some (i, j)) := by
              unfold Hid
              have h1 := HII.out
              rw [hcom] at h1
              have h2 := HOO.out
              rw [← h1] at h2
              exact h2.symm
            clear hcom
            go_wp2_with (first | (refine wpList_row_w (by rfl) 27 _ rfl b13 rfl 27 _ g134 ⟨_, Try.underlying27⟩ (by kernel_rfl) ?_; simp only [Act.put, List.setIfInBounds_toArray, List.set_cons_succ, List.set_cons_zero]) | (refine wpList_row_w (by rfl) 49 _ rfl bx rfl 49 _ gx4 ⟨_, Try.underlying49⟩ (by kernel_rfl) ?_; simp only [Act.put, List.setIfInBounds_toArray, List.set_cons_succ, List.set_cons_zero]) | (refine wpList_row_w (by rfl) 49 _ rfl bq rfl 49 _ gq4 ⟨_, Try.underlying49⟩ (by kernel_rfl) ?_; simp only [Act.put, List.setIfInBounds_toArray, List.set_cons_succ, List.set_cons_zero]) | (go_at_call 18; (with_reducible refine HCM.out.mono ?_); rintro e w5 ⟨rfl, hb5⟩; have gr5 := GR4.out.then_ hb5) | (refine wpList_store_all rfl 36 _ _ rfl br 36 [] (pairA 0 0).toList [] (pairA i j).toList rfl rfl gr5 rfl (by kernel_rfl) (by simp [Value.oneCell']) ?_; intro we ge ue))
            (try rw [Exit.noGoto_ret]); refine bodyPost_ret (ret_arr2 rfl rfl ge Try.underlying36 (by kernel_rfl)) rfl ⟨by rw [hf.out]; rfl, (below_then HB4.out hb5).trans (ue.b _ lbr)⟩
          | true =>
            rw [hcom] at HCM
            have hE : cj.apE (q.p.ren n k) = 0 := (com_apE hcom).2
            have HII2 : Hid (inner n k x.p (cj.ap (q.p.ren n k)) (j + 1) (pats (R.drop (j + 1))) = inner n k x.p ci 0 (pats R)) := by
              unfold Hid
              rw [← HII.out, hcom, if_pos hE]; rfl
            obtain ⟨r1, r2⟩ := alC_one hE
            have t1 : ((cj.al [q.p.ren n k]).1 != 0) = false := by rw [r2]; rfl
            have HAP := Lib.hid (fun W g (hb : Below w4.heap.size w4 W) => applied1 cj mj (q.p.ren n k) qm W g (HCJ4.out.then_ hb) (HPQ4.out.then_ hb))
            have R1 := Lib.hid r1
            clear hcom hE r1 r2 HII
            go_upto_region 14 with (first | (refine wpList_row_w (by rfl) 27 _ rfl b13 rfl 27 _ g134 ⟨_, Try.underlying27⟩ (by kernel_rfl) ?_; simp only [Act.put, List.setIfInBounds_toArray, List.set_cons_succ, List.set_cons_zero]) | (refine wpList_row_w (by rfl) 49 _ rfl bx rfl 49 _ gx4 ⟨_, Try.underlying49⟩ (by kernel_rfl) ?_; simp only [Act.put, List.setIfInBounds_toArray, List.set_cons_succ, List.set_cons_zero]) | (refine wpList_row_w (by rfl) 49 _ rfl bq rfl 49 _ gq4 ⟨_, Try.underlying49⟩ (by kernel_rfl) ?_; simp only [Act.put, List.setIfInBounds_toArray, List.set_cons_succ, List.set_cons_zero]) | (go_at_call 18; (with_reducible refine HCM.out.mono ?_); rintro e w5 ⟨rfl, hb5⟩))
            have g135 := g134.then_ hb5
            have gx5 := Lib.hid (gx4.then_ hb5)
            have gq5 := gq4.then_ hb5
            have GF5 := Lib.hid (GF4.out.then_ hb5)
            have GR5 := Lib.hid (GR4.out.then_ hb5)
            have HCI5 := Lib.hid (HCI4.out.then_ hb5)
            have HB5 := Lib.hid (below_then HB4.out hb5)
            have Hb5 := Lib.hid hb5
            have lw5 := hb5.size
            have lw4 := g134.lt
            clear g134 gx4 gq4 GF4 GR4 HCI4 HCJ4 HPQ4 HPX4 HCM hb5
            go_upto_region 16 with (first | (refine wpList_row_w (by rfl) 27 _ rfl b13 rfl 27 _ g135 ⟨_, Try.underlying27⟩ (by kernel_rfl) ?_; simp only [Act.put, List.setIfInBounds_toArray, List.set_cons_succ, List.set_cons_zero]) | (refine wpList_row_w (by rfl) 49 _ rfl bq rfl 49 _ gq5 ⟨_, Try.underlying49⟩ (by kernel_rfl) ?_; simp only [Act.put, List.setIfInBounds_toArray, List.set_cons_succ, List.set_cons_zero]) | (go_at_call 29; (with_reducible refine (HAP.out _ _ ?hb ?hk).mono ?_); (case hb => exact below_alloc Hb5.out _); (case hk => exact Blk.new _ _ _); rintro e w6 ⟨⟨m6, rfl, hc6, ho6⟩, hb6⟩) | (refine wpList_store_all rfl 27 _ _ rfl w6.heap.size 27 [] coZ.toList [] (coA (cj.alC [q.p.ren n k]) m6).toList rfl rfl (Blk.new _ _ _) rfl (by kernel_rfl) (by simp [Value.oneCell']) ?_; intro w7 g16 U7))
            have h57 : Below w5.heap.size w5 w7 := by
              have h1 : Below w5.heap.size w5 w6 := (below_alloc (Below.refl _ _) _).trans (hb6.mono (by simp))
              exact (below_alloc h1 _).trans (U7.b _ (by have := h1.size; omega))
            have lw6 : w5.heap.size ≤ w6.heap.size := by have := hb6.size; simp at this; omega
            have g137 := g135.then_ h57
            have GX7 := Lib.hid (gx5.out.then_ h57)
            have GF7 := Lib.hid (GF5.out.then_ h57)
            have GR7 := Lib.hid (GR5.out.then_ h57)
            have HCI7 := Lib.hid (HCI5.out.then_ h57)
            have HB7 := Lib.hid (below_then HB5.out h57)
            have HC7 : Hid (Cont w7 (cj.alC [q.p.ren n k]) m6) := hc6.then_ ((wa1 _ _).trans (U7.b _ (Nat.le_refl _)))
            have HO7 : Hid (Off (· ≠ b13) (cj.alC [q.p.ren n k]) m6) := ho6 (· ≠ b13) HOJ4.out (fun b hb e => by simp at hb; omega)
            have lb7 := h57.size
            obtain ⟨b16, e16⟩ : ∃ b, w6.heap.size = b := ⟨_, rfl⟩
            rw [e16] at g16 lw6 ⊢
            rw [R1.out] at HC7 HO7 g16
            clear hc6 ho6 hb6 U7 h57 g135 gx5 gq5 GF5 GR5 HCI5 HB5 Hb5 HAP R1
            go_wp2_with (first | (refine wpList_row_w (by rfl) 27 _ rfl b16 rfl 27 _ g16 ⟨_, Try.underlying27⟩ (by kernel_rfl) ?_; simp only [Act.put, List.setIfInBounds_toArray, List.set_cons_succ, List.set_cons_zero]) | (refine wpList_store_all rfl 27 _ _ rfl b13 27 [] (coA cj mj).toList [] (coA (cj.ap (q.p.ren n k)) m6).toList rfl rfl g137 rfl (by kernel_rfl) (by simp [Value.oneCell']) ?_; intro w8 g8 U8))
            go_roundw
            case rel => exact ⟨j + 1, _, m6, by omega, by simp, g8, HC7.out.upd U8 HO7.out, HO7, HCI7.out.upd U8 (HOF.out.mono fun b hb e => by omega), GF7.out.upd U8 d1, GX7.out.upd U8 d2, GR7.out.upd U8 d3, HII2, HB7.out.trans (U8.b _ dw), by unfold Hid; rw [U8.s]; omega⟩
            case measure => simp [intOf]; omega
        · have tn2 : decide ((j : Int) < (R.length : Int)) = false := decide_eq_false (by omega)
          obtain rfl : j = R.length := by omega
          have HIN : Hid (inner n k x.p ci 0 (pats R) = none) := by
            unfold Hid
            rw [← hI.out, List.drop_length]; rfl
          have gf3 := hf.out
          have gx3 := hx.out
          have GR3 := hr
          have HCI3 := hci
          have HB3 := hB
          have HAP := Lib.hid (fun W g (hb : Below wr.heap.size wr W) => applied1 ci mi x.p x.m W g (hci.out.then_ hb) (HPW.out.then_ (below_then hB.out hb)))
          have HOO2 : Hid ((if ci.apE x.p = 0 then outer n (pats R) (ci.ap x.p) (k + addsN [x.p]) (i + 1) (pats (L.drop (i + 1))) else none) = O) := by
            unfold Hid
            rw [← HOO.out, HIN.out]
          have lS3 := hS.out
          clear hI hf hx hr hci hcj hg HOO HIN hS
          go_upto_region 19 with (first | (refine wpList_row_w (by rfl) 27 _ rfl bf rfl 27 _ gf3 ⟨_, Try.underlying27⟩ (by kernel_rfl) ?_; simp only [Act.put, List.setIfInBounds_toArray, List.set_cons_succ, List.set_cons_zero]) | (refine wpList_row_w (by rfl) 49 _ rfl bx rfl 49 _ gx3 ⟨_, Try.underlying49⟩ (by kernel_rfl) ?_; simp only [Act.put, List.setIfInBounds_toArray, List.set_cons_succ, List.set_cons_zero]) | (go_at_call 29; (with_reducible refine (HAP.out _ _ ?hb ?hk).mono ?_); (case hb => exact wa1 _ _); (case hk => exact Blk.new _ _ _); rintro e w6 ⟨⟨m6, rfl, hc6, ho6⟩, hb6⟩) | (refine wpList_store_all rfl 27 _ _ rfl w6.heap.size 27 [] coZ.toList [] (coA (ci.alC [x.p]) m6).toList rfl rfl (Blk.new _ _ _) rfl (by kernel_rfl) (by simp [Value.oneCell']) ?_; intro w7 g18 U7))
          have h57 : Below wr.heap.size wr w7 := by
            have h1 : Below wr.heap.size wr w6 := (wa1 _ _).trans (hb6.mono (by simp))
            exact (below_alloc h1 _).trans (U7.b _ (by have := h1.size; omega))
          have lw6 : wr.heap.size ≤ w6.heap.size := by have := hb6.size; simp at this; omega
          have gf7 := gf3.then_ h57
          have GR7 := Lib.hid (GR3.out.then_ h57)
          have HB7 := Lib.hid (below_then HB3.out h57)
          have HC7 : Hid (Cont w7 (ci.alC [x.p]) m6) := hc6.then_ ((wa1 _ _).trans (U7.b _ (Nat.le_refl _)))
          have lb7 := h57.size
          have lf3 := gf3.lt
          obtain ⟨b18, e18⟩ : ∃ b, w6.heap.size = b := ⟨_, rfl⟩
          by_cases hE : ci.apE x.p = 0
          · obtain ⟨r1, r2⟩ := alC_one hE
            have t1 : ((ci.al [x.p]).1 != 0) = false := by rw [r2]; rfl
            have HO8 : Hid (Off (· ≠ bf) (ci.ap x.p) m6) := by
              have h := ho6 (· ≠ bf) hof.out (fun b hb e => by simp at hb; omega)
              rw [r1] at h
              exact h
            rw [if_pos hE] at HOO2
            rw [r1] at HC7 g18
            rw [e18] at g18 lw6 ⊢
            clear hc6 ho6 hb6 U7 h57 gf3 gx3 GR3 HCI3 HB3 HAP hE r1 r2
            go_wp2_with (first | (refine wpList_row_w (by rfl) 27 _ rfl b18 rfl 27 _ g18 ⟨_, Try.underlying27⟩ (by kernel_rfl) ?_; simp only [Act.put, List.setIfInBounds_toArray, List.set_cons_succ, List.set_cons_zero]) | (refine wpList_store_all rfl 27 _ _ rfl bf 27 [] (coA ci mi).toList [] (coA (ci.ap x.p) m6).toList rfl rfl gf7 rfl (by kernel_rfl) (by simp [Value.oneCell']) ?_; intro w8 g8 U8))
            go_roundw
            case rel => exact ⟨i + 1, _, m6, by omega, by simp, g8, HC7.out.upd U8 HO8.out, HO8, GR7.out.upd U8 (by omega), by unfold Hid; rw [HK2.out]; exact HOO2.out, HB7.out.trans (U8.b _ (by omega))⟩
            case measure => simp [intOf]; omega
          · have t1 : ((ci.al [x.p]).1 != 0) = true := by simpa using al_one_no hE
            rw [if_neg hE] at HOO2
            rw [e18] at g18 lw6 ⊢
            have gr7 := GR7.out
            clear hc6 ho6 hb6 U7 h57 gf3 gx3 GR3 HCI3 HB3 HAP hE
            go_wp2_with (refine wpList_store_all rfl 36 _ _ rfl br 36 [] (pairA 0 0).toList [] (pairA 0 0).toList rfl rfl gr7 rfl (by kernel_rfl) (by simp [Value.oneCell']) ?_; intro we ge ue)
            (try rw [Exit.noGoto_ret]); refine bodyPost_ret (ret_arr2 rfl rfl ge Try.underlying36 (by kernel_rfl)) rfl ⟨by rw [← HOO2.out]; rfl, HB7.out.trans (ue.b _ lbr)⟩
    · have tn : decide ((i : Int) < (L.length : Int)) = false := decide_eq_false (by omega)
      obtain rfl : i = L.length := by omega
      have hE : Hid (O = none) := by
        unfold Hid
        rw [← hO.out, List.drop_length]; rfl
      have gr7 := hr.out
      clear hO hf hci hr
      go_wp2_with (refine wpList_store_all rfl 36 _ _ rfl br 36 [] (pairA 0 0).toList [] (pairA 0 0).toList rfl rfl gr7 rfl (by kernel_rfl) (by simp [Value.oneCell']) ?_; intro we ge ue)
      (try rw [Exit.noGoto_ret]); refine bodyPost_ret (ret_arr2 rfl rfl ge Try.underlying36 (by kernel_rfl)) rfl ⟨by rw [hE.out]; rfl, hB.out.trans (ue.b _ lbr)⟩
end Go.Proofs.Ytcplneglfbdooaa
/- The walk of merge.ApplyAll. -/
namespace Go.Proofs.Ytcplneglfbdooaa
open Go.RowKit

/-- what ApplyAll gives besides its error -/
def Con.allC (c : Con) (l : List Pat) : Con := if c.allE l = 0 then (c.al l).2 else Con.zero
set_option maxRecDepth 100000 in
set_option maxHeartbeats 6400000 in
theorem all_off (c : Con) (m : Cm) (L : List Pk) (A : Option Addr) (cap : Nat) (w : World) (h : Cont w c m) (hL : Pats w A L) :
    Calls Try.prog 11 #[.agg (coA c m), .slice A L.length cap] w fun e w' => (∃ m', e = .returned (.tuple #[.agg (coA (c.allC (pats L)) m'), .int .i64 (c.allE (pats L))]) ∧ Cont w' (c.allC (pats L)) m' ∧ ∀ P : Nat → Prop, Off P c m → (∀ b, w.heap.size ≤ b → P b) → Off P (c.allC (pats L)) m') ∧ Below w.heap.size w w' := by
  have HV := Lib.hid (fun W (hb : Below w.heap.size w W) => valid_c c m W (h.then_ hb))
  have HCC := Lib.hid (fun W (hb : Below w.heap.size w W) => copied_con c m W (h.then_ hb))
  have HA := Lib.hid (fun W (hb : Below w.heap.size w W) => applied_any c m L A cap W (h.then_ hb) (hL.then_ hb))
  have nL := hL.n
  have HOFF := Lib.hid h.off
  clear h hL
  go_enter Try.func11, Try.ntmps11
  go_upto_region 1 with (fail)
  refine name_wp ?_
  intro X hX
  have gbc : Blk X w.heap.size 27 (coA c m) := by rw [hX]; exact (blk_at (by simp)).alloc _
  have gbr : Blk X (w.heap.size + 1) 27 (coZ) := by rw [hX]; exact blk_at (by simp)
  have HB : Below w.heap.size w X := by rw [hX]; (repeat (first | with_reducible assumption | with_reducible exact Below.refl _ _ | with_reducible refine below_drewN ?_ _ | with_reducible refine Below.drew ?_ | with_reducible refine below_alloc ?_ _ | with_reducible refine Below.setCell ?_ (by first | omega | (simp; done) | (simp; omega)) _ | with_reducible refine below_then ?_ (by with_reducible assumption) | (refine below_then (a := World.drew _) ?_ (by with_reducible assumption))))
  clear hX
  obtain ⟨br, ebr⟩ : ∃ b, w.heap.size + 1 = b := ⟨_, rfl⟩
  obtain ⟨bc, ebc⟩ : ∃ b, w.heap.size = b := ⟨_, rfl⟩
  have lbc : w.heap.size ≤ bc := by omega
  have lbr : w.heap.size ≤ br := by omega
  have nbcbr : bc ≠ br := by omega
  rw [ebr] at gbr ⊢
  rw [ebc] at gbc ⊢
  clear ebc ebr
  go_upto_region 2 with (first | (refine wpList_row_w (by rfl) 27 _ rfl bc rfl 27 _ gbc ⟨_, Try.underlying27⟩ (by kernel_rfl) ?_; simp only [Act.put, List.setIfInBounds_toArray, List.set_cons_succ, List.set_cons_zero]) | (go_at_call 27; (with_reducible refine (HV.out _ HB).mono ?_); rintro e w1 ⟨⟨a1, a2, rfl, hok⟩, hbw1⟩))
  have HB1 := below_then HB hbw1
  have gc1 := gbc.then_ hbw1
  have gr1 := gbr.then_ hbw1
  have lr1 := gr1.lt
  clear gbc gbr HB hbw1 HV
  cases hcok : c.ok with
  | false =>
    have t0 : (a1 != 0) = true := by
      rw [bne_iff_ne]
      intro e
      rw [hok.1 e] at hcok
      cases hcok
    have hE : Hid (c.allE (pats L) = 1 ∧ c.allC (pats L) = Con.zero) := by
      have h1 : c.allE (pats L) = 1 := by unfold Con.allE; rw [hcok]; rfl
      exact ⟨h1, by unfold Con.allC; rw [if_neg (by omega)]⟩
    clear hok hcok
    go_wp2_with (refine wpList_store_all rfl 27 _ _ rfl br 27 [] coZ.toList [] coZ.toList rfl rfl gr1 rfl (by kernel_rfl) (by simp [Value.oneCell']) ?_; intro we ge ue)
    refine bodyPost_ret (ret_row2 rfl rfl ge ⟨_, Try.underlying27⟩ (by kernel_rfl)) rfl ?_
    exact ⟨⟨mZ, by rw [hE.out.1, hE.out.2]; rfl, by rw [hE.out.2]; exact cont_zero _, fun P h1 h2 => by rw [hE.out.2]; exact off_zero _⟩, (HB1).trans (ue.b _ (by omega))⟩
  | true =>
  have t0 : (a1 != 0) = false := by rw [hok.2 hcok]; rfl
  have HOK := Lib.hid hcok
  clear hok hcok
  by_cases h60 : 60 < L.length
  · have t1 : decide ((60 : Int) < (L.length : Int)) = true := decide_eq_true (by omega)
    have hE : Hid (c.allE (pats L) = 3 ∧ c.allC (pats L) = Con.zero) := by
      have h1 : c.allE (pats L) = 3 := by unfold Con.allE; rw [HOK.out, if_pos rfl, if_pos (by simpa using h60)]
      exact ⟨h1, by unfold Con.allC; rw [if_neg (by omega)]⟩
    clear h60
    go_wp2_with (refine wpList_store_all rfl 27 _ _ rfl br 27 [] coZ.toList [] coZ.toList rfl rfl gr1 rfl (by kernel_rfl) (by simp [Value.oneCell']) ?_; intro we ge ue)
    refine bodyPost_ret (ret_row2 rfl rfl ge ⟨_, Try.underlying27⟩ (by kernel_rfl)) rfl ?_
    exact ⟨⟨mZ, by rw [hE.out.1, hE.out.2]; rfl, by rw [hE.out.2]; exact cont_zero _, fun P h1 h2 => by rw [hE.out.2]; exact off_zero _⟩, (HB1).trans (ue.b _ (by omega))⟩
  have t1 : decide ((60 : Int) < (L.length : Int)) = false := decide_eq_false (by omega)
  have hE0 : Hid (c.allE (pats L) = (c.al (pats L)).1) := by unfold Hid Con.allE; rw [HOK.out, if_pos rfl, if_neg (by simpa using h60)]
  clear h60
  by_cases hz : L.length = 0
  · have t2 : ((L.length : Int) == 0) = true := by simp [hz]
    have hE : Hid (c.allE (pats L) = 0 ∧ c.allC (pats L) = c) := by
      have hl : L = [] := List.eq_nil_of_length_eq_zero hz
      have h1 : c.allE (pats L) = 0 := by rw [hE0.out, hl]; rfl
      exact ⟨h1, by unfold Con.allC; rw [if_pos h1, hl]; rfl⟩
    clear hz hE0
    go_wp2_with (first | (refine wpList_row_w (by rfl) 27 _ rfl bc rfl 27 _ gc1 ⟨_, Try.underlying27⟩ (by kernel_rfl) ?_; simp only [Act.put, List.setIfInBounds_toArray, List.set_cons_succ, List.set_cons_zero]) | (go_at_call 28; (with_reducible refine (HCC.out _ HB1).mono ?_); rintro e w2 ⟨⟨m2, rfl, hc2, ho2⟩, hb2⟩; have gr2 := gr1.then_ hb2) | (refine wpList_store_all rfl 27 _ _ rfl br 27 [] coZ.toList [] (coA c m2).toList rfl rfl gr2 rfl (by kernel_rfl) (by simp [Value.oneCell']) ?_; intro we ge ue))
    have HB2 := below_then HB1 hb2
    refine bodyPost_ret (ret_row2 rfl rfl ge ⟨_, Try.underlying27⟩ (by kernel_rfl)) rfl ?_
    exact ⟨⟨m2, by rw [hE.out.1, hE.out.2]; rfl, by rw [hE.out.2]; exact hc2.upd ue (ho2.mono fun b hb e => by have := HB1.size; omega), fun P h1 h2 => by rw [hE.out.2]; exact ho2.mono fun b hb => h2 b (Nat.le_trans HB1.size hb)⟩, (HB2).trans (ue.b _ (by omega))⟩
  · have t2 : ((L.length : Int) == 0) = false := by simp; exact fun h => hz (by rw [h]; rfl)
    clear hz
    have hE : Hid (c.allE (pats L) = (c.al (pats L)).1 ∧ c.allC (pats L) = c.alC (pats L)) := ⟨hE0.out, by unfold Con.allC Con.alC; rw [hE0.out]⟩
    have lw1 := HB1.size
    clear hE0
    go_wp2_with (first | (refine wpList_row_w (by rfl) 27 _ rfl bc rfl 27 _ gc1 ⟨_, Try.underlying27⟩ (by kernel_rfl) ?_; simp only [Act.put, List.setIfInBounds_toArray, List.set_cons_succ, List.set_cons_zero]) | (go_at_call 29; (with_reducible refine (HA.out _ HB1).mono ?_); rintro e w2 ⟨⟨m2, rfl, hc2, ho2⟩, hb2⟩; have gr2 := gr1.then_ hb2) | (refine wpList_store_all rfl 27 _ _ rfl br 27 [] coZ.toList [] (coA (c.alC (pats L)) m2).toList rfl rfl gr2 rfl (by kernel_rfl) (by simp [Value.oneCell']) ?_; intro we ge ue))
    have HB2 := below_then HB1 hb2
    have HOc := ho2 (· ≠ br) (HOFF.out.mono fun b hb e => by omega) (fun b hb e => by omega)
    refine bodyPost_ret (ret_row2 rfl rfl ge ⟨_, Try.underlying27⟩ (by kernel_rfl)) rfl ?_
    exact ⟨⟨m2, by rw [hE.out.1, hE.out.2]; rfl, by rw [hE.out.2]; exact hc2.upd ue HOc, fun P h1 h2 => by rw [hE.out.2]; exact ho2 P h1 (fun b hb => h2 b (Nat.le_trans HB1.size hb))⟩, (HB2).trans (ue.b _ (by omega))⟩
theorem all_any (c : Con) (m : Cm) (L : List Pk) (A : Option Addr) (cap : Nat) (w : World) (h : Cont w c m) (hL : Pats w A L) :
    Calls Try.prog 11 #[.agg (coA c m), .slice A L.length cap] w fun _e _w' => (∃ m', _e = .returned (.tuple #[.agg (coA (c.allC (pats L)) m'), .int .i64 (c.allE (pats L))]) ∧ Cont _w' (c.allC (pats L)) m') ∧ Below w.heap.size w _w' :=
  (all_off c m L A cap w h hL).mono fun _e _w' ⟨⟨m', h1, h2, _⟩, hb⟩ => ⟨⟨m', h1, h2⟩, hb⟩
end Go.Proofs.Ytcplneglfbdooaa
/- Plain: patches that waive and give days: when they commute. -/
namespace Go.Proofs.Ytcplneglfbdooaa

theorem kinds {k : Int} (h : known k = true) : k = 1 ∨ k = 2 ∨ k = 3 ∨ k = 4 ∨ k = 5 := by
  unfold known at h
  simp only [Bool.or_eq_true, beq_iff_eq] at h
  omega
theorem Fit.days {c : Con} {p : Pat} (h : Fit c p) (hk : p.kind = 5) : 1 ≤ p.days ∧ p.days ≤ 400 := by
  have := h.fi
  unfold Pat.fits at this
  simp only [Bool.and_eq_true] at this
  have h2 := this.2
  rw [if_pos (by simpa using hk)] at h2
  simpa using h2
theorem Fit.start {c : Con} {p : Pat} (h : Fit c p) (hk : 3 ≤ p.kind) : p.new.start = [] := by
  have := h.fi
  unfold Pat.fits at this
  simp only [Bool.and_eq_true, Bool.or_eq_true, beq_iff_eq] at this
  have h2 := this.1.2
  have h3 : zeroC p.new = true := by
    rcases h2 with (h2 | h2) | h2
    · omega
    · omega
    · exact h2
  unfold zeroC at h3
  simp only [Bool.and_eq_true, decide_eq_true_eq] at h3
  exact List.eq_nil_of_length_eq_zero h3.1.1.1.1.1.1.1.1.1.1.1.1.1.1
/-- a mild patch's change of one clause -/
theorem one_cases (p : Pat) (h : p.kind ≠ 2) (k : Cla) : p.one k = if p.kind = 5 then { k with aft := p.days } else { k with waived := true } := by
  unfold Pat.one
  rw [if_neg (by simpa using h)]
  by_cases h5 : p.kind = 5
  · rw [if_pos (by simpa using h5), if_pos h5]
  · rw [if_neg (by simpa using h5), if_neg h5]
theorem claOk_one {c : Con} {p : Pat} (hk : p.kind ≠ 2) (hd : p.kind = 5 → 1 ≤ p.days ∧ p.days ≤ 400) {i : Nat} {k : Cla} (h : c.claOk i k = true) : c.claOk i (p.one k) = true := by
  rw [one_cases p hk]
  by_cases h5 : p.kind = 5
  · rw [if_pos h5]
    have := hd h5
    unfold Con.claOk at h ⊢
    simp only [Bool.and_eq_true, decide_eq_true_eq] at h ⊢
    obtain ⟨⟨⟨⟨⟨⟨⟨a1, a2⟩, a3⟩, a4⟩, a5⟩, a6⟩, a7⟩, a8⟩ := h
    exact ⟨⟨⟨⟨⟨⟨⟨a1, this.1⟩, this.2⟩, a4⟩, a5⟩, a6⟩, a7⟩, a8⟩
  · rw [if_neg h5]
    exact h
theorem mild_after {c : Con} {p q : Pat} (hp : Fit c p) (hq : Fit c q) (kp : 3 ≤ p.kind) (kq : 3 ≤ q.kind) : Fit (c.ap p) q := by
  have lp := do_len (p := p) c.cl
  have lpq := do_len (p := q) (p.do_ c.cl)
  rw [if_neg (by omega)] at lp lpq
  have xp : (c.wc (p.do_ c.cl)).ok = true := hp.re
  rw [ok_wc] at xp
  have hcl : (c.ap p).cl = p.do_ c.cl := rfl
  refine ⟨hp.re, hq.kn, ?_, fun h => by omega, ?_⟩
  · rw [hcl, lp]; exact hq.fi
  · show (c.wc (q.do_ (p.do_ c.cl))).ok = true
    rw [ok_wc]
    refine ⟨⟨xp.1.1, by rw [lpq]; exact xp.1.2⟩, xp.2.1, ?_⟩
    intro i k hik
    rw [do_get (fun x hx => (hq.cls x hx).1) (by omega)] at hik
    cases ha : (p.do_ c.cl)[i]? with
    | none => rw [ha] at hik; cases hik
    | some a =>
      rw [ha] at hik
      simp only [Option.map_some, Option.some.injEq] at hik
      have h1 := claOk_mono (m := q.do_ (p.do_ c.cl)) (by rw [lpq]; omega) (xp.2.2 i a ha)
      by_cases hi : (i : Int) ∈ q.cls
      · rw [if_pos hi] at hik
        subst hik
        exact claOk_one (by omega) (fun h => hq.days h) h1
      · rw [if_neg hi] at hik
        subst hik
        exact h1
theorem mild_law {c : Con} {p q : Pat} (hp : c.apE p = 0) (hq : c.apE q = 0) (kp : 3 ≤ p.kind) (kq : 3 ≤ q.kind) (hx : ∃ x, x ∈ c.tch p ∧ x ∈ c.tch q) : c.com p q = true ↔ ¬ (p.kind = 5 ∧ q.kind = 5 ∧ p.days ≠ q.days) := by
  rw [apE_iff] at hp hq
  have f1 := mild_after hp hq kp kq
  have f2 := mild_after hq hp kq kp
  obtain ⟨a1, a2⟩ := al2 hp f1
  obtain ⟨b1, b2⟩ := al2 hq f2
  have hk : ¬ (p.kind = 1 ∧ q.kind = 1) := by omega
  have hcom : c.com p q = true ↔ q.do_ (p.do_ c.cl) = p.do_ (q.do_ c.cl) := by
    unfold Con.com
    rw [a1, b1, a2, b2, if_neg hk]
    simp only [decide_true, Bool.true_and, decide_eq_true_eq]
    exact Iff.rfl
  rw [hcom]
  constructor
  · rintro h ⟨h5, h6, hne⟩
    obtain ⟨x, hx1, hx2⟩ := hx
    unfold Con.tch at hx1 hx2
    rw [hp.start kp, if_neg (by omega)] at hx1
    rw [hq.start kq, if_neg (by omega)] at hx2
    simp only [List.append_nil, List.map_nil] at hx1 hx2
    obtain ⟨y0, y1⟩ := hp.cls x hx1
    have e := congrArg (fun l => l[x.toNat]?) h
    have lx : x.toNat < c.cl.length := by omega
    have ex : ((x.toNat : Nat) : Int) = x := by omega
    rw [do_get (fun x hx => (hq.cls x hx).1) (by omega), do_get (fun x hx => (hp.cls x hx).1) (by omega), do_get (fun x hx => (hp.cls x hx).1) (by omega), do_get (fun x hx => (hq.cls x hx).1) (by omega), List.getElem?_eq_getElem lx] at e
    simp only [Option.map_some, ex, if_pos hx1, if_pos hx2, Option.some.injEq] at e
    simp only [one_cases p (show p.kind ≠ 2 by omega), one_cases q (show q.kind ≠ 2 by omega), if_pos h5, if_pos h6, Cla.mk.injEq, true_and, and_true] at e
    exact hne e.symm
  · intro h
    refine after_same hp hq hk (fun x _ _ k => ?_)
    rw [one_cases p (by omega), one_cases q (by omega), one_cases q (by omega), one_cases p (by omega)]
    by_cases h5 : p.kind = 5 <;> by_cases h6 : q.kind = 5
    · have hd : p.days = q.days := by
        by_cases hd : p.days = q.days
        · exact hd
        · exact absurd ⟨h5, h6, hd⟩ h
      simp only [if_pos h5, if_pos h6, hd]
    · simp only [if_pos h5, if_neg h6]
    · simp only [if_neg h5, if_pos h6]
    · simp only [if_neg h5, if_neg h6]
end Go.Proofs.Ytcplneglfbdooaa
