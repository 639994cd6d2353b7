/- The walk of TopBeliefTrue. -/
import Derived.Test.YtffceokjeonpcaaGreatDoorZTz2
import Derived.Test.YtffceokjeonpcaaGreatDoorMb18
import Derived.Test.YtffceokjeonpcaaGreatDoorZTr3
import Derived.Test.YtffceokjeonpcaaGreatDoorMb19
import Derived.Test.YtffceokjeonpcaaGreatDoorMb1
set_option maxHeartbeats 25600000
set_option maxRecDepth 100000
namespace Go.Proofs.YtffceokjeonpcaaGreatDoor
open Go.RowKit
theorem pjoint_bad (c : Con) (m : Cm) (l : List Int) (A : Option Addr) (cap : Nat) (v : Value) (w : World) (hC : Cont w c m) (hc : c.ok = false) :
  Calls Tryz.prog 10 #[.agg (coA c m), .slice A l.length cap, v] w fun e w' => e = .returned (.tuple #[.slice none 0 0, .int .i64 1]) ∧ Below w.heap.size w w' := by
 have HST : Hid (∀ W, Below w.heap.size w W → Calls Tryz.prog 21 #[.agg (coA c m)] W fun e w' => RetS W Sta.zero 1 e w') := fun W hb => by
  have h := xCm c m W (hC.then_ hb)
  rw [show c.startE = 1 by unfold Con.startE; rw [hc]; rfl, show c.startS = Sta.zero by unfold Con.startS; rw [hc]; rfl] at h
  exact h
 clear hC hc
 go_enter Tryz.func10, Tryz.ntmps10
 go_upto_region 1 with (fail)
 refine xAi ?_
 intro X hX
 have ga : Blk X w.heap.size 27 (coA c m) := by rw [hX]; exact (Blk.new _ _ _).alloc _
 have HB : Hid (Below w.heap.size w X) := by unfold Hid; rw [hX]; (repeat first | exact Below.refl _ _ | refine xAc ?_ _)
 obtain ⟨ba, eba⟩ : ∃ b, w.heap.size = b := ⟨_, rfl⟩
 rw [eba] at ga ⊢
 clear hX eba
 go_wp2_with (first | (refine rowC (by rfl) _ rfl ba rfl ga ?_; simp only [Act.put, qzG, qzH, qzI]) | (go_at_call 21; (with_reducible refine (HST.out X HB.out).mono ?_); rintro e w1 ⟨⟨q0, rfl, hs0, ho0, ht0⟩, hb1⟩) | (refine xAh rfl 47 _ _ rfl w1.heap.size 47 [] zS.toList [] (stA Sta.zero q0).toList rfl rfl (Blk.new _ _ _) rfl (by kernel_rfl) (by simp [Value.oneCell']) ?_; intro w2 g2 u2))
 have h12 : Below X.heap.size X w2 := (xAc hb1 _).trans (u2.b _ hb1.size)
 go_ret2
 exact ⟨rfl, xAa HB.out h12⟩
theorem pview_bad (c : Con) (m : Cm) (l : List Int) (A : Option Addr) (cap : Nat) (p : Int) (w : World) (hC : Cont w c m) (hc : c.ok = false) :
  Calls Tryz.prog 9 #[.agg (coA c m), .slice A l.length cap, .int .i64 p] w fun e w' => e = .returned (.tuple #[.slice none 0 0, .int .i64 1]) ∧ Below w.heap.size w w' := by
 have HJ : Hid (∀ v W, Below w.heap.size w W → Calls Tryz.prog 10 #[.agg (coA c m), .slice A l.length cap, v] W fun e w' => e = .returned (.tuple #[.slice none 0 0, .int .i64 1]) ∧ Below W.heap.size W w') := fun v W hb => pjoint_bad c m l A cap v W (hC.then_ hb) hc
 clear hC hc
 go_enter Tryz.func9, Tryz.ntmps9
 go_upto_region 1 with (fail)
 refine xAi ?_
 intro X hX
 have ga : Blk X w.heap.size 27 (coA c m) := by rw [hX]; exact Blk.new _ _ _
 have HB : Hid (Below w.heap.size w X) := by unfold Hid; rw [hX]; (repeat first | exact Below.refl _ _ | refine xAc ?_ _)
 obtain ⟨ba, eba⟩ : ∃ b, w.heap.size = b := ⟨_, rfl⟩
 rw [eba] at ga ⊢
 clear hX eba
 go_wp2_with (first | (refine rowC (by rfl) _ rfl ba rfl ga ?_; simp only [Act.put, qzG, qzH, qzI]) | (go_at_call 10; (with_reducible refine (HJ.out _ _ (HB.out.alloc HB.out.size _)).mono ?_); rintro e w1 ⟨rfl, hb1⟩))
 go_ret2
 exact ⟨rfl, xAa (HB.out.alloc HB.out.size _) hb1⟩
theorem watch_good {c : Con} {p : See} (hc : c.ok = true) : ∀ (l : List Int), xJc c (watchF c p l).2 := by
 have key : ∀ (l : List Int) (b : Int × List Sta), xJc c b.2 → xJc c (watchL c p l b).2 := by
  intro l
  induction l with
  | nil => exact fun b h => h
  | cons x l ih =>
   intro b h
   rw [watchL]
   split
   ·exact ih _ (xF6 h)
   ·exact h
 exact fun l => key l _ (xGv fun s hs => by rw [List.mem_singleton.1 hs]; exact xDe hc)
theorem seg_last {w : World} {B : Nat} {v : Value} {rows : List SQ} (h : Own w B 47 4 eQ v rows) {n : Nat} (hn : rows.length = n + 1) : ∃ A c, v = .slice A (n + 1) c ∧ Seg w w.heap.size 4 eQ A rows ∧ n + 1 ≤ c := by
 obtain ⟨A, c, e, hc, hs⟩ := h.seg xCh
 rw [hn] at e hc
 exact ⟨A, c, e, hs, hc⟩
theorem xI9 (c : Con) (m : Cm) (u : Int) (l : List Int) (A : Option Addr) (cap : Nat) (w : World) (hT : Lx w) (hc : ContW w c m) (hl : LstM w eI 1 (fun y => I64 y) A l cap) (hu : 0 ≤ u ∧ u ≤ 255) :
  Calls Tryz.prog 4 #[.agg (coA c m), .int .u8 u, .slice A l.length cap] w fun e w' => e = .returned (.bool true) ∧ Below w.heap.size w w' := by
 have HT := qzL hT
 have HMO := qzL (fun W (hb : Below w.heap.size w W) => xHs W (xBx hT hb))
 have HTM := qzL (fun W (hb : Below w.heap.size w W) => tame_any c m W ((hc.k.2.2.2.below hb).more hb.size) hc.e)
 obtain ⟨tm, htm⟩ : ∃ b, c.tame = b := ⟨_, rfl⟩
 rw [htm] at HTM
 have HTE := qzL htm
 have HCW := qzL hc
 have HLW := qzL hl
 clear hT hc hl htm
 go_enter Tryz.func4, Tryz.ntmps4
 go_upto_region 1 with (fail)
 refine xAi ?_
 intro X hX
 have ga : Blk X w.heap.size 27 (coA c m) := by rw [hX]; exact Blk.new _ _ _
 have HB : Hid (Below w.heap.size w X) := by unfold Hid; rw [hX]; (repeat first | exact Below.refl _ _ | refine xAc ?_ _)
 obtain ⟨ba, eba⟩ : ∃ b, w.heap.size = b := ⟨_, rfl⟩
 rw [eba] at ga ⊢
 clear hX eba
 go_upto_region 2 with (go_at_call 5; (with_reducible refine (HMO.out X HB.out).mono ?_); rintro e w1 ⟨rfl, hb1⟩)
 have HB1 := qzL (xAa HB.out hb1)
 have ga1 := ga.then_ hb1
 have a0 : w1.cell? ⟨ba, 0, none⟩ = some (.int .i64 c.par) := ga1.cell 0
 have HTM1 := qzL (HTM.out w1 HB1.out)
 have GA1 := qzL ga1
 clear ga hb1 HMO HB HTM
 obtain ⟨bd, hbd⟩ : ∃ b, (!tm || (decide ((20 : Int) < (l.length : Int)) || decide (c.par < 1))) = b := ⟨_, rfl⟩
 go_cut [33] from 21 to 33 (fun v W => v = .bool bd ∧ Hid (Below w1.heap.size w1 W))
 case first =>
  cases tm with
  | false =>
   have e : bd = true := by rw [← hbd]; rfl
   clear hbd
   go_wp2_with (first | (refine rowC (by rfl) _ rfl ba rfl ga1 ?_; simp only [Act.put, qzG, qzH, qzI]) | (go_at_call 6; (with_reducible refine HTM1.out.mono ?_); rintro e w2 ⟨rfl, hb2⟩))
   go_meet
   case rel => exact ⟨by rw [e], hb2⟩
  | true =>
   cases t1 : decide ((20 : Int) < (l.length : Int)) with
   | true =>
    have t1n : decide (20 < l.length) = true := qzO (by have := of_decide_eq_true t1; omega)
    have e : bd = true := by rw [← hbd, t1]; rfl
    clear hbd
    go_wp2_with (first | (refine rowC (by rfl) _ rfl ba rfl ga1 ?_; simp only [Act.put, qzG, qzH, qzI]) | (go_at_call 6; (with_reducible refine HTM1.out.mono ?_); rintro e w2 ⟨rfl, hb2⟩))
    go_meet
    case rel => exact ⟨by rw [e], hb2⟩
   | false =>
    have t1n : decide (20 < l.length) = false := qzN (by have := of_decide_eq_false t1; omega)
    have e : bd = decide (c.par < 1) := by rw [← hbd, t1]; rfl
    clear hbd
    go_wp2_with (first | (refine rowC (by rfl) _ rfl ba rfl ga1 ?_; simp only [Act.put, qzG, qzH, qzI]) | (go_at_call 6; (with_reducible refine HTM1.out.mono ?_); rintro e w2 ⟨rfl, hb2⟩; have a2 : w2.cell? ⟨ba, 0, none⟩ = some (.int .i64 c.par) := (ga1.then_ hb2).cell 0))
    go_meet
    case rel => exact ⟨by rw [e], hb2⟩
 obtain ⟨rfl, hbW⟩ := hcut
 cases bd with
 | true =>
  go_wp2
  go_ret
  exact ⟨rfl, xAa HB1.out hbW.out⟩
 | false =>
 have hge : tm = true ∧ l.length ≤ 20 ∧ 1 ≤ c.par := by
  simp only [Bool.or_eq_false_iff, Bool.not_eq_false', decide_eq_false_iff_not] at hbd
  exact ⟨hbd.1, by omega, by omega⟩
 obtain ⟨rfl, hl20, hpar⟩ := hge
 have HB2 := qzL (xAa HB1.out hbW.out)
 have ga2 := GA1.out.then_ hbW.out
 have a2 : wc.cell? ⟨ba, 0, none⟩ = some (.int .i64 c.par) := ga2.cell 0
 clear hbd a0 HTM1 GA1 hbW ga1 HB1
 go_upto_region 5 with (fail)
 obtain ⟨p, hp0⟩ : ∃ p, u % c.par = p := ⟨_, rfl⟩
 rw [hp0]
 have hp : 0 ≤ p ∧ p < c.par := by rw [← hp0]; exact ⟨Int.emod_nonneg _ (by omega), Int.emod_lt_of_pos _ (by omega)⟩
 have HC := qzL (tame_cont HCW.out HTE.out)
 have HSL := qzL (steps_any c m l A cap wc (HC.out.then_ HB2.out) ((HLW.out.2.2.2.below HB2.out).more HB2.out.size) (by omega))
 obtain ⟨L, hL⟩ : ∃ L, accL c c.first l = L := ⟨_, rfl⟩
 have hnL : L.length ≤ 20 := by rw [← hL]; have := xGx c l c.first; omega
 have hacc : c.ok = true → c.runE L = 0 := fun h => by rw [← hL]; exact acc_run h l hl20
 rw [hL] at HSL
 have HACC := qzL hacc
 clear hp0 hL hacc a2
 go_upto_region 6 with (first | (refine rowC (by rfl) _ rfl ba rfl ga2 ?_; simp only [Act.put, qzG, qzH, qzI]) | (go_at_call 7; (with_reducible refine HSL.out.mono ?_); rintro e w3 ⟨⟨v3, rfl, hO3⟩, hb3⟩; obtain ⟨A3, c3, rfl, _, _⟩ := hO3.seg xAz))
 have HB3 := qzL (xAa HB2.out hb3)
 have ga3 := ga2.then_ hb3
 have hA3 := qzL (hO3.segA xAz)
 clear hO3 hb3 ga2 HSL HB2
 have HRN := qzL (run_any c m L A3 c3 w3 (HC.out.then_ HB3.out) hA3.out (by omega))
 cases hok : c.ok with
 | false =>
  have HRN1 := HRN.out
  rw [runE_bad hok] at HRN1
  have HRN2 := qzL HRN1
  have HVB := qzL (fun W (hb : Below w.heap.size w W) => pview_bad c m L A3 c3 p W (HC.out.then_ hb) hok)
  clear hok HRN HRN1 HACC
  go_upto_region 7 with (first | (refine rowC (by rfl) _ rfl ba rfl ga3 ?_; simp only [Act.put, qzG, qzH, qzI]) | (go_at_call 8; (with_reducible refine HRN2.out.mono ?_); rintro e w4 ⟨⟨v4, rows, rfl, hr4, hO4, hn4⟩, hb4⟩))
  have HB4 := qzL (xAa HB3.out hb4)
  have ga4 := ga3.then_ hb4
  clear hr4 hO4 hn4 hb4 ga3 HRN2
  go_wp2_with (first | (refine rowC (by rfl) _ rfl ba rfl ga4 ?_; simp only [Act.put, qzG, qzH, qzI]) | (go_at_call 9; (with_reducible refine (HVB.out _ HB4.out).mono ?_); rintro e w5 ⟨rfl, hb5⟩))
  go_ret
  exact ⟨rfl, xAa HB4.out hb5⟩
 | true =>
 have hE : c.runE L = 0 := HACC.out hok
 obtain ⟨n, hn⟩ : ∃ n, L.length = n := ⟨_, rfl⟩
 have HRN1 : Hid (Calls Tryz.prog 8 #[.agg (coA c m), .slice A3 L.length c3] w3 fun e w' => (∃ A c', e = .returned (.tuple #[.slice A (n + 1) c', .int .i64 0]) ∧ ∃ rows : List SQ, rows.map (·.1) = c.runS L ∧ rows.length = n + 1 ∧ Seg w' w'.heap.size 4 eQ A rows ∧ (∀ x ∈ rows, Stm w' x.1 x.2) ∧ n + 1 ≤ c') ∧ Below w3.heap.size w3 w') := by
  refine Calls.mono HRN.out ?_
  rintro e w' ⟨⟨v, rows, rfl, hr, hR, _⟩, hb⟩
  have hl : rows.length = n + 1 := by rw [← hn, ← runS_len hE, ← hr, List.length_map]
  obtain ⟨A', c', rfl, hs, hc'⟩ := seg_last hR.o hl
  rw [hE]
  exact ⟨⟨A', c', rfl, rows, hr, hl, hs, fun x hx => (hR.r x hx).m, hc'⟩, hb⟩
 have HE := qzL hE
 have HOK := qzL hok
 have HNL := qzL hn
 clear HRN HACC hE hok hn
 go_upto_region 7 with (first | (refine rowC (by rfl) _ rfl ba rfl ga3 ?_; simp only [Act.put, qzG, qzH, qzI]) | (go_at_call 8; (with_reducible refine HRN1.out.mono ?_); rintro e w4 ⟨⟨Ar, cr, rfl, rows, hr4, hl4, hs4, hm4, hc4⟩, hb4⟩; have HR4 := qzL hr4; have HL4 := qzL hl4; have HS4 := qzL hs4; have HM4 := qzL hm4; clear hr4 hl4 hs4 hm4))
 have HB4 := qzL (xAa HB3.out hb4)
 have ga4 := ga3.then_ hb4
 have hA4 := qzL ((hA3.out.below hb4).more hb4.size)
 clear hb4 ga3 HRN1 hA3 HB3
 have HV := qzL (xHf c m L A3 c3 p w4 (HC.out.then_ HB4.out) hA4.out HE.out hp)
 obtain ⟨V, hV⟩ : ∃ V, xBk c (fun hol a => xBo hol p a) c.first L = V := ⟨_, rfl⟩
 have HVN : Hid (V.length ≤ 20) := by unfold Hid; rw [← hV]; have := xD8 (c := c) (see := fun hol a => xBo hol p a) L c.first; omega
 have HVO : Hid (∀ x ∈ V, x = -1 ∨ (0 ≤ x ∧ x < (c.ac.length : Int))) := by unfold Hid; rw [← hV]; exact xIg (xGd HE.out).2.2
 rw [hV] at HV
 have HVV := qzL hV
 clear hV
 go_upto_region 8 with (first | (refine rowC (by rfl) _ rfl ba rfl ga4 ?_; simp only [Act.put, qzG, qzH, qzI]) | (go_at_call 9; (with_reducible refine HV.out.mono ?_); rintro e w5 ⟨⟨v5, rfl, hO5⟩, hb5⟩; obtain ⟨A5, c5, rfl, _, _⟩ := hO5.seg xAz))
 have HB5 := qzL (xAa HB4.out hb5)
 have ga5 := ga4.then_ hb5
 have hA5 := qzL ((hA4.out.below hb5).more hb5.size)
 have hV5 := qzL (hO5.segA xAz)
 have HS5 := qzL ((HS4.out.below hb5).more hb5.size)
 have HM5 : Hid (∀ x ∈ rows, Stm w5 x.1 x.2) := fun x hx => (HM4.out x hx).then_ hb5
 clear hO5 hb5 ga4 HV hA4 HS4 HM4 HB4
 have t10 : ((((n + 1 : Nat)) : Int) != (L.length : Int) + 1) = false := by rw [HNL.out]; simp
 have t10b : (((n : Nat) : Int) + 1 != (L.length : Int) + 1) = false := by rw [HNL.out]; simp
 have hn20 : n ≤ 20 := by have := HNL.out; omega
 obtain ⟨B, hB⟩ : ∃ B, watchF c (seeP p) V = B := ⟨_, rfl⟩
 have HW0 := xF0 c m p V A5 c5 w5 (xBx HT.out HB5.out) (HC.out.then_ HB5.out) HOK.out hp hV5.out HVO.out (by have := HVN.out; omega)
 have hgd := watch_good (p := seeP p) HOK.out V
 have hwl := (xG0 (xHg p) HE.out).1
 have hbl : ∀ R, B = (0, R) → ∀ s, (c.runS L)[L.length]? = some s → s ∈ R ∧ ∀ i o, ((c.follow L).oc.map (·.1))[i]? = some o → xD3 R i = 0 ∨ xD3 R i = xC2 o.st := fun R hR s hs => belief_law (xHg p) HE.out (by rw [HVV.out, ← hR, ← hB]) hs
 rw [HVV.out] at hwl
 have hwl2 : B.1 = 0 ∨ B.1 = 3 := by rw [← hB]; exact hwl
 rw [hB] at HW0 hgd
 have HW := qzL HW0
 have HGD := qzL hgd
 have HBL := qzL hbl
 have HWL := qzL hwl2
 clear HW0 hgd hwl hbl hwl2 hB
 go_upto_region 13 with (first | (refine rowC (by rfl) _ rfl ba rfl ga5 ?_; simp only [Act.put, qzG, qzH, qzI]) | (go_at_call 11; (with_reducible refine HW.out.mono ?_); rintro e w6 ⟨⟨vb, rb, rfl, hOb, hrb, hfb⟩, hb6⟩; obtain ⟨Ab, cb, rfl, hcb, _⟩ := hOb.seg xCh) | (refine xAh rfl 39 _ _ rfl w6.heap.size 39 [] zB.toList [] [.int .i64 (if B.1 = 0 then p else 0), .slice Ab rb.length cb] rfl rfl (Blk.new _ _ _) rfl (by kernel_rfl) (by simp [Value.oneCell']) ?_; intro w66 g66 u66))
 have hb67 : Below w6.heap.size w6 w66 := (wa1 _ _).trans (u66.b _ (Nat.le_refl _))
 have h56 := xAa hb6 hb67
 have HB6 := qzL (xAa HB5.out h56)
 have ga6 := ga5.then_ h56
 have hA6 := qzL ((hA5.out.below h56).more h56.size)
 have HS6 := qzL ((HS5.out.below h56).more h56.size)
 have HM6 : Hid (∀ x ∈ rows, Stm w66 x.1 x.2) := fun x hx => (HM5.out x hx).then_ h56
 have HSb := qzL (((hOb.segA xCh).below hb67).more hb67.size)
 have HMb : Hid (∀ x ∈ rb, Stm w66 x.1 x.2) := fun x hx => (hfb x hx).now.then_ hb67
 have HRB := qzL hrb
 have G6 : Hid (Blk w66 w6.heap.size 39 #[.int .i64 (if B.1 = 0 then p else 0), .slice Ab rb.length cb]) := g66
 obtain ⟨b14, eb14⟩ : ∃ b, w6.heap.size = b := ⟨_, rfl⟩
 rw [eb14] at G6 ⊢
 clear hOb hrb hfb hb6 hb67 h56 ga5 g66 u66 hA5 HS5 HM5 HB5 hV5 HW eb14
 have HO := xHj c m L A3 c3 w66 (HC.out.then_ HB6.out) hA6.out (by omega)
 rw [← run_chk, HE.out] at HO
 obtain ⟨O, hO⟩ : ∃ O, (c.follow L).oc.map (·.1) = O := ⟨_, rfl⟩
 rw [hO] at HO HBL
 have HO := qzL HO
 have HOL := qzL hO
 clear hO
 go_upto_region 14 with (first | (refine rowC (by rfl) _ rfl ba rfl ga6 ?_; simp only [Act.put, qzG, qzH, qzI]) | (go_at_call 17; (with_reducible refine HO.out.mono ?_); rintro e w7 ⟨⟨Ao, no, co, rfl, ho⟩, hb7⟩; obtain ⟨rfl, hOs, hOc⟩ := ho rfl))
 have HB7 := qzL (xAa HB6.out hb7)
 have ga7 := ga6.then_ hb7
 have HS7 := qzL ((HS6.out.below hb7).more hb7.size)
 have HM7 : Hid (∀ x ∈ rows, Stm w7 x.1 x.2) := fun x hx => (HM6.out x hx).then_ hb7
 have HSb7 := qzL ((HSb.out.below hb7).more hb7.size)
 have HMb7 : Hid (∀ x ∈ rb, Stm w7 x.1 x.2) := fun x hx => (HMb.out x hx).then_ hb7
 have HOS := qzL hOs
 have G14 := qzL (G6.out.then_ hb7)
 clear hb7 ga6 HS6 HM6 HSb HMb G6 HO hA6 HB6 hOs
 rcases HWL.out with h0 | h3
 case inr =>
  rw [h3]
  clear h3
  go_wp2
  go_ret
  exact ⟨rfl, HB7.out⟩
 case inl =>
 rw [if_pos h0] at G14
 rw [h0]
 obtain ⟨s, hs, hsok⟩ := last_ok HE.out
 obtain ⟨hsR, hver⟩ := HBL.out B.2 (by rw [← h0]) s hs
 have HVER := qzL hver
 obtain ⟨xl, hxl⟩ : ∃ x, rows[n]? = some x := ⟨_, qzJ (by rw [HL4.out]; omega)⟩
 have hxs : xl.1 = s := by
  have h1 : (rows.map (·.1))[n]? = some xl.1 := by rw [List.getElem?_map, hxl]; rfl
  rw [HR4.out, ← HNL.out, hs] at h1
  exact (Option.some.inj h1).symm
 obtain ⟨b0, o0, eA0, hb0, hrgr⟩ := xAv HS7.out hxl
 have hixr := fun W => xAp (t := 31) (size := 4) (cap := cr) (len := n + 1) (k := n) eA0 (by omega) (by kernel_rfl) (fun W => by kernel_rfl) W
 have hbp : 0 < rb.length := by
  have h1 : 0 < (rb.map (·.1)).length := by rw [HRB.out]; exact List.length_pos_of_mem hsR
  rwa [List.length_map] at h1
 have hb300 : rb.length ≤ 300 := by have h1 := HGD.out.2; rw [← HRB.out, List.length_map] at h1; exact h1
 have HH : Hid (∀ W, Below w7.heap.size w7 W → Calls Tryz.prog 14 #[.slice Ab rb.length cb, .agg (eQ xl).toArray] W fun e w' => e = .returned (.bool true) ∧ Below W.heap.size W w') := fun W hb => by
  have h := holds_any rb Ab cb xl.1 xl.2 W ((HSb7.out.below hb).more hb.size) (fun x hx => (HMb7.out x hx).then_ hb) ((HM7.out xl (qzK hxl)).then_ hb) (by omega)
  rw [show (rb.any fun x => decide (x.1 = xl.1)) = true from List.any_eq_true.2 (by
   rw [← HRB.out] at hsR
   obtain ⟨y, hy, e⟩ := List.mem_map.1 hsR
   exact ⟨y, hy, qzO (e.trans hxs.symm)⟩)] at h
  exact h
 have hsgood : ∀ x ∈ rb, SOk c x.1 := fun x hx => HGD.out.1 _ (by rw [← HRB.out]; exact List.mem_map_of_mem hx)
 have HSG := qzL hsgood
 have HOI : Hid (∀ i o, O[i]? = some o → i < c.cl.length) := fun i o ho => (out_law HE.out hs (by rw [HOL.out]; exact ho)).1
 have GA7 := qzL ga7
 clear hver hxl hxs eA0 hsgood ga7 hsR h0 HBL HWL hsok hs
 go_upto_region 16 with (fail)
 refine xBf (fun w' => Hid (Below w7.heap.size w7 w')) [0, 1, 2, 3, 4, 5, 6, 7, 8, 9, 10] [11, 12, 13] (by kernel_rfl) (by kernel_rfl) pO (qzL (Below.drew (Below.refl _ _))) (fun hdir hsel hpan hHeld => ?_)
 refine xAd (i := 0) (oi := ⟨some 94, _, _, _, _, _⟩) (v := .int .i64 0) hdir hsel hpan rfl (by kernel_rfl) (by kernel_rfl) (by kernel_rfl) (Or.inl ⟨by rfl, fun w hw => by rfl⟩) (by assumption) ?_
 try simp only [Act.put, qzG, qzI, qzH]
 refine xAd (i := 1) (oi := ⟨some 95, _, _, _, _, _⟩) (v := .bool false) hdir hsel hpan rfl (by kernel_rfl) (by kernel_rfl) (by kernel_rfl) (Or.inl ⟨by rfl, fun w hw => by first | rfl | go_simp⟩) (by assumption) ?_
 try simp only [Act.put, qzG, qzI, qzH]
 refine xAd (i := 2) (oi := ⟨some 96, _, _, _, _, _⟩) (v := .bool false) hdir hsel hpan rfl (by kernel_rfl) (by kernel_rfl) (by kernel_rfl) (Or.inl ⟨by rfl, fun w hw => by rfl⟩) (by assumption) ?_
 try simp only [Act.put, qzG, qzI, qzH]
 refine xAd (i := 3) (oi := ⟨some 97, _, _, _, _, _⟩) (v := .pointer (some ⟨b14, 1, none⟩)) hdir hsel hpan rfl (by kernel_rfl) (by kernel_rfl) (by kernel_rfl) (Or.inl ⟨by rfl, fun w hw => by go_simp⟩) (by assumption) ?_
 try simp only [Act.put, qzG, qzI, qzH]
 refine xAd (i := 4) (oi := ⟨some 98, _, _, _, _, _⟩) (v := .slice Ab rb.length cb) hdir hsel hpan rfl (by kernel_rfl) (by kernel_rfl) (by kernel_rfl) (Or.inl ⟨by rfl, fun w hw => by have hc := (G14.out.then_ hw.out).cell 1; go_simp⟩) (by assumption) ?_
 try simp only [Act.put, qzG, qzI, qzH]
 refine xAd (i := 5) (oi := ⟨some 99, _, _, _, _, _⟩) (v := .slice Ar (n + 1) cr) hdir hsel hpan rfl (by kernel_rfl) (by kernel_rfl) (by kernel_rfl) (Or.inl ⟨by rfl, fun w hw => by rfl⟩) (by assumption) ?_
 try simp only [Act.put, qzG, qzI, qzH]
 refine xAd (i := 6) (oi := ⟨some 100, _, _, _, _, _⟩) (v := .slice Ar (n + 1) cr) hdir hsel hpan rfl (by kernel_rfl) (by kernel_rfl) (by kernel_rfl) (Or.inl ⟨by rfl, fun w hw => by rfl⟩) (by assumption) ?_
 try simp only [Act.put, qzG, qzI, qzH]
 refine xAd (i := 7) (oi := ⟨some 101, _, _, _, _, _⟩) (v := .int .i64 ((n + 1 : Nat) : Int)) hdir hsel hpan rfl (by kernel_rfl) (by kernel_rfl) (by kernel_rfl) (Or.inl ⟨by rfl, fun w hw => by first | rfl | go_simp⟩) (by assumption) ?_
 try simp only [Act.put, qzG, qzI, qzH]
 refine xAd (i := 8) (oi := ⟨some 102, _, _, _, _, _⟩) (v := .int .i64 ((n : Nat) : Int)) hdir hsel hpan rfl (by kernel_rfl) (by kernel_rfl) (by kernel_rfl) (Or.inl ⟨by rfl, fun w hw => by go_simp; exact IntWalk.i64_in _ (by omega)⟩) (by assumption) ?_
 try simp only [Act.put, qzG, qzI, qzH]
 refine xAd (i := 9) (oi := ⟨some 103, _, _, _, _, _⟩) (v := .pointer (some ⟨b0, o0 + n * 4, none⟩)) hdir hsel hpan rfl (by kernel_rfl) (by kernel_rfl) (by kernel_rfl) (Or.inl ⟨by rfl, fun w hw => by have h := hixr w; go_simp⟩) (by assumption) ?_
 try simp only [Act.put, qzG, qzI, qzH]
 refine xAd (i := 10) (oi := ⟨some 104, _, _, _, _, _⟩) hdir hsel hpan rfl (by kernel_rfl) (by kernel_rfl) (by kernel_rfl) (yieldsIf_load_mid (by rfl) 47 _ rfl b0 _ rfl (eQ xl) _ (fun w hw => (fun j v hv => (hw.out.cell (p := ⟨b0, o0 + n * 4 + j, none⟩) hb0).trans (hrgr j v hv))) Tryz.underlying47 rfl (by kernel_rfl)) (by assumption) ?_
 try simp only [Act.put, qzG, qzI, qzH]
 refine xA6 (by kernel_rfl) (by kernel_rfl) ?_
 clear hdir hsel hpan
 simp only [xAn, qzA, qzB, qzC, qzD, qzE, qzF]
 have HHW := qzL (HH.out _ hHeld.out)
 refine xBq ?_
 intro V1 hV1
 rw [← hV1] at HHW
 have HBV : Hid (Below w7.heap.size w7 V1) := by unfold Hid; rw [hV1]; exact hHeld.out
 clear hV1 hHeld HH hixr hrgr
 go_upto_region 19 with (go_at_call 14; (with_reducible refine HHW.out.mono ?_); rintro e w8 ⟨rfl, hb8⟩)
 have HB8 := qzL (xAa HBV.out hb8)
 clear hb8 HHW HBV
 go_loopw [18] (fun y WR => ∃ (i : Nat), y = .int .i64 i ∧ i ≤ O.length ∧ Hid (Below w7.heap.size w7 WR)) (fun y _ => 2000000 - (intOf y).toNat)
 case atStart => exact ⟨0, rfl, by omega, HB8⟩
 case round =>
  clear HB8
  obtain ⟨i, rfl, hi', hBW⟩ := hrel
  have HWW := qzL (xAa HB7.out hBW.out)
  by_cases hlt : i < O.length
  case neg =>
   have tn : decide ((i : Int) < (O.length : Int)) = false := qzN (by omega)
   go_wp2
   go_ret
   exact ⟨rfl, HWW.out⟩
  have tn : decide ((i : Int) < (O.length : Int)) = true := qzO (by omega)
  obtain ⟨o, ho⟩ : ∃ k, O[i]? = some k := ⟨_, qzJ hlt⟩
  obtain ⟨b5, o5, eA5, hb5, hc5⟩ := xAv HOS.out ho
  have x5 : w7.cell? ⟨b5, o5 + i * 5, none⟩ = some (.int .i64 o.st) := hc5 0 _ rfl
  have hixo := fun W => xAp (t := 52) (size := 5) (cap := co) (len := O.length) eA5 hlt (by kernel_rfl) (fun W => by kernel_rfl) W
  have hicl := HOI.out i o ho
  obtain ⟨vv, hvv⟩ : ∃ v, xD3 (rb.map (·.1)) i = v := ⟨_, rfl⟩
  have hvr : vv = 0 ∨ vv = xC2 o.st := by rw [← hvv, HRB.out]; exact HVER.out i o ho
  have HVD := xD2 c m p rb i Ab cb wr (HC.out.then_ HWW.out) hp ((HSb7.out.below hBW.out).more hBW.out.size) (fun x hx => (HMb7.out x hx).then_ hBW.out) HSG.out ⟨hbp, hb300⟩ hicl hcb
  rw [hvv] at HVD
  have HVD := qzL HVD
  have gaW := GA7.out.then_ hBW.out
  have gbW := G14.out.then_ hBW.out
  have hii : i + 1 ≤ O.length := hlt
  have hOl : O.length ≤ 1000000 := by
   have h1 := HOI.out (O.length - 1) _ (qzJ (by omega))
   have h2 := HC.out.nk
   omega
  clear ho eA5 hc5 hvv
  rcases hvr with rfl | rfl
  ·go_wp2_with (first | (refine rowC (by rfl) _ rfl ba rfl gaW ?_; simp only [Act.put, qzG, qzH, qzI]) | (refine xAf (by rfl) 39 _ rfl b14 rfl 39 _ gbW ⟨_, Tryz.underlying39⟩ (by kernel_rfl) ?_; simp only [Act.put, qzG, qzH, qzI]) | (go_at_call 15; (with_reducible refine HVD.out.mono ?_); rintro e w9 ⟨rfl, hb9⟩))
   go_roundw
   case rel => exact ⟨i + 1, by simp, hii, xAa hBW.out hb9⟩
   case measure => simp [intOf]; omega
  ·obtain ⟨mv, hmv⟩ : ∃ v, xC2 o.st = v := ⟨_, rfl⟩
   have HME := fun W => means_any o.st W
   rw [hmv] at HVD HME
   have HME := qzL HME
   have tq : (mv != mv) = false := by simp
   clear hmv
   cases t5 : (mv != 0) with
   | false =>
    go_wp2_with (first | (refine rowC (by rfl) _ rfl ba rfl gaW ?_; simp only [Act.put, qzG, qzH, qzI]) | (refine xAf (by rfl) 39 _ rfl b14 rfl 39 _ gbW ⟨_, Tryz.underlying39⟩ (by kernel_rfl) ?_; simp only [Act.put, qzG, qzH, qzI]) | (go_at_call 15; (with_reducible refine HVD.out.mono ?_); rintro e w9 ⟨rfl, hb9⟩))
    go_roundw
    case rel => exact ⟨i + 1, by simp, hii, xAa hBW.out hb9⟩
    case measure => simp [intOf]; omega
   | true =>
    go_wp2_with (first | (refine rowC (by rfl) _ rfl ba rfl gaW ?_; simp only [Act.put, qzG, qzH, qzI]) | (refine xAf (by rfl) 39 _ rfl b14 rfl 39 _ gbW ⟨_, Tryz.underlying39⟩ (by kernel_rfl) ?_; simp only [Act.put, qzG, qzH, qzI]) | (go_at_call 15; (with_reducible refine HVD.out.mono ?_); rintro e w9 ⟨rfl, hb9⟩; have x9 : w9.cell? ⟨b5, o5 + i * 5, none⟩ = some (.int .i64 o.st) := ((xAa hBW.out hb9).cell (p := ⟨b5, o5 + i * 5, none⟩) hb5).trans x5) | (go_at_call 18; (with_reducible refine (HME.out _).mono ?_); rintro e w10 ⟨rfl, rfl⟩))
    go_roundw
    case rel => exact ⟨i + 1, by simp, hii, xAa hBW.out hb9⟩
    case measure => simp [intOf]; omega
end Go.Proofs.YtffceokjeonpcaaGreatDoor
