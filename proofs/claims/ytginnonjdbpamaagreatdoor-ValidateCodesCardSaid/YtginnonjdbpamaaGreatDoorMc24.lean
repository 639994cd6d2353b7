/- Contracts of functions and plain laws, joined: Uf, Ug. -/
import Derived.Test.YtginnonjdbpamaaGreatDoorMc23
import Derived.Test.YtginnonjdbpamaaGreatDoorMc13
/- The walk of the closure that tells free days. -/
import Derived.Test.YtginnonjdbpamaaGreatDoorMc1
set_option maxHeartbeats 3200000
set_option maxRecDepth 100000
namespace Go.Proofs.YtginnonjdbpamaaGreatDoor
open Go.RowKit Go.Sort Go.Maps
theorem off_test (c : Con) (m : Cm) (bc bd i : Nat) (x day : Int) (w : World) (hC : Blk w bc 27 (coA c m)) (hd : Blk w bd 3 #[.int .i64 day]) (ho : Seg w w.heap.size 1 eI m.o c.off) (hx : c.off[i]? = some x) (_no : c.off.length ≤ 1000000) :
  Calls Tryz.prog 86 #[.int .i64 (i : Nat), .pointer (some ⟨bc, 0, none⟩), .pointer (some ⟨bd, 0, none⟩)] w fun e w' => e = .returned (.bool (decide (day ≤ x))) ∧ Below w.heap.size w w' := by
 have hlt : i < c.off.length := (qzM hx).1
 obtain ⟨b0, o0, e0, hb0, hc0⟩ := xAx ho hx
 have hix := fun W => xAq (t := 22) (size := 1) (cap := m.oc) (len := c.off.length) e0 hlt (by kernel_rfl) (fun W => by kernel_rfl) W
 have x0 : w.cell? ⟨b0, o0 + i, none⟩ = some (.int .i64 x) := by have := hc0 0 _ rfl; simpa using this
 have k6 : w.cell? ⟨bc, 6, none⟩ = some (.slice m.o c.off.length m.oc) := hC.cell 6
 have d0 : w.cell? ⟨bd, 0, none⟩ = some (.int .i64 day) := hd.cell 0
 clear hC hd ho hx hc0 e0
 go_enter Tryz.func86, Tryz.ntmps86
 go_upto_region 1 with (fail)
 have rg0 := cR x0
 have rg1 := cR k6
 have rg2 := cR d0
 refine xAe [0, 1, 2, 3, 4, 5, 6] [7] (by kernel_rfl) (by kernel_rfl) pO ?_
 simp only [xAm, qzA, qzB, qzC, qzD, qzE, qzF]
 repeat (go_big_quiet_step (skip))
 refine wpQuiet_nil ?_
 intro X hw2
 have hbX := xAh hw2
 clear hw2 rg0 rg1 rg2
 clear x0 k6 d0
 go_wp2
 go_ret
 exact ⟨rfl, hbX⟩
theorem off_search (c : Con) (m : Cm) (bc bd : Nat) (day : Int) (w : World) (hC : Blk w bc 27 (coA c m)) (hd : Blk w bd 3 #[.int .i64 day]) (ho : Seg w w.heap.size 1 eI m.o c.off) (hp : c.off.Pairwise (· < ·)) (no : c.off.length ≤ 1000000) :
  Calls Tryz.prog 85 #[.int .i64 (c.off.length : Nat), .func (.func 86) #[] #[.pointer (some ⟨bc, 0, none⟩), .pointer (some ⟨bd, 0, none⟩)]] w fun e w' => (∃ i : Nat, e = .returned (.int .i64 (i : Nat)) ∧ i ≤ c.off.length ∧ (∀ k y, k < i → c.off[k]? = some y → y < day) ∧ (∀ k y, i ≤ k → c.off[k]? = some y → day ≤ y)) ∧ Below w.heap.size w w' := by
 have HT := qzL (fun i x W (hb : Below w.heap.size w W) (hx : c.off[i]? = some x) => off_test c m bc bd i x day W (hC.then_ hb) (hd.then_ hb) ((ho.below hb).more hb.size) hx no)
 have HP := qzL hp
 clear hC hd ho hp
 go_enter Tryz.func85, Tryz.ntmps85
 go_wp2
 go_loopw [5, 6] (fun x y wr => ∃ i j : Nat, i ≤ j ∧ j ≤ c.off.length ∧ x = .int .i64 i ∧ y = .int .i64 j ∧ Hid ((∀ k y, k < i → c.off[k]? = some y → y < day) ∧ (∀ k y, j ≤ k → c.off[k]? = some y → day ≤ y)) ∧ Below w.heap.size w wr) (fun x y _ => (intOf y).toNat - (intOf x).toNat)
 case atStart => exact ⟨0, c.off.length, by omega, by omega, rfl, rfl, ⟨fun q _ hq => by omega, fun q y hq h => by have := (qzM h).1; omega⟩, Below.refl _ _⟩
 case round =>
  obtain ⟨i, j, hij, hj, rfl, rfl, hN, hbr⟩ := hrel
  by_cases hlt : i < j
  ·obtain ⟨d, hd⟩ : ∃ d : Nat, d = (i + j) / 2 := ⟨_, rfl⟩
   have q1 : i ≤ d := by omega
   have q2 : d < j := by omega
   have HE := qzL (show ((i : Int) + (j : Int)) / 2 = (d : Int) by omega)
   clear hd
   go_upto_region 4 with (fail)
   rw [HE.out]
   obtain ⟨x, hx⟩ : ∃ x, c.off[d]? = some x := ⟨_, qzJ (by omega)⟩
   have HK := qzL (HT.out d x _ hbr hx)
   have HX := qzL hx
   clear hx
   rcases hbb (decide (day ≤ x)) with ht | ht
   ·rw [ht] at HK
    go_wp2_with (go_at_call 86; with_reducible refine HK.out.mono ?_; rintro e w1 ⟨rfl, hb1⟩)
    go_roundw
    case rel =>
     refine ⟨i, d, by omega, by omega, rfl, rfl, ⟨hN.out.1, fun k y hk hy => ?_⟩, xAa hbr hb1⟩
     have h1 := of_decide_eq_true ht
     rcases Nat.lt_or_ge d k with q | q
     ·have := xCd HP.out HX.out hy q
      omega
     ·obtain rfl : k = d := by omega
      have := HX.out.symm.trans hy
      cases this
      exact h1
    case measure => simp [intOf]; omega
   ·rw [ht] at HK
    go_wp2_with (go_at_call 86; with_reducible refine HK.out.mono ?_; rintro e w1 ⟨rfl, hb1⟩)
    go_roundw
    case rel =>
     refine ⟨d + 1, j, by omega, hj, by go_num, rfl, ⟨fun k y hk hy => ?_, hN.out.2⟩, xAa hbr hb1⟩
     have h1 := of_decide_eq_false ht
     rcases Nat.lt_or_ge k d with q | q
     ·have := xCd HP.out hy HX.out q
      omega
     ·obtain rfl : k = d := by omega
      have := HX.out.symm.trans hy
      cases this
      omega
    case measure => simp [intOf]; omega
  ·obtain rfl : i = j := by omega
   go_wp2
   go_ret
   exact ⟨⟨i, rfl, hj, hN.out.1, hN.out.2⟩, hbr⟩
theorem freeR_any (c : Con) (m : Cm) (bc : Nat) (day : Int) (w : World) (hC : Blk w bc 27 (coA c m)) (ho : Seg w w.heap.size 1 eI m.o c.off) (hp : c.off.Pairwise (· < ·)) (no : c.off.length ≤ 1000000) :
  Calls Tryz.prog 84 #[.int .i64 day, .pointer (some ⟨bc, 0, none⟩)] w fun e w' => e = .returned (.bool (decide (day ∈ c.off))) ∧ Below w.heap.size w w' := by
 obtain ⟨R, hR⟩ : ∃ R, decide (day ∈ c.off) = R := ⟨_, rfl⟩
 rw [hR]
 have HR := qzL hR
 have HS := qzL (fun bd W (hb : Below w.heap.size w W) (hd : Blk W bd 3 #[.int .i64 day]) => off_search c m bc bd day W (hC.then_ hb) hd ((ho.below hb).more hb.size) hp no)
 have HC := qzL hC
 have HO := qzL ho
 have HP := qzL hp
 clear hC ho hp hR
 go_enter Tryz.func84, Tryz.ntmps84
 go_upto_region 1 with (fail)
 refine xAf ?_
 intro X hX
 have gd : Blk X w.heap.size 3 #[.int .i64 day] := by rw [hX]; exact Blk.new _ _ _
 have HB : Hid (Below w.heap.size w X) := by rw [hX]; exact wa1 _ _
 obtain ⟨bd, ed⟩ : ∃ b, w.heap.size = b := ⟨_, rfl⟩
 rw [ed] at gd ⊢
 have k6 : X.cell? ⟨bc, 6, none⟩ = some (.slice m.o c.off.length m.oc) := (HC.out.then_ HB.out).cell 6
 have HSX := qzL (HS.out bd X HB.out gd)
 have GD := qzL gd
 clear hX ed gd HS
 go_upto_region 2 with (go_at_call 85; (with_reducible refine HSX.out.mono ?_); rintro e w1 ⟨⟨n, rfl, hn, hlo, hhi⟩, hb1⟩)
 have k6' : w1.cell? ⟨bc, 6, none⟩ = some (.slice m.o c.off.length m.oc) := ((HC.out.then_ HB.out).then_ hb1).cell 6
 have d0 : w1.cell? ⟨bd, 0, none⟩ = some (.int .i64 day) := (GD.out.then_ hb1).cell 0
 have HB1 := qzL (xAa HB.out hb1)
 have HLO := qzL hlo
 have HHI := qzL hhi
 clear k6 hb1 HSX hlo hhi
 by_cases hlt : n < c.off.length
 ·obtain ⟨x, hx⟩ : ∃ x, c.off[n]? = some x := ⟨_, qzJ hlt⟩
  obtain ⟨b0, o0, e0, hb0, hc0⟩ := xAx (HO.out.below HB1.out) hx
  have hix := fun W => xAq (t := 22) (size := 1) (cap := m.oc) (len := c.off.length) e0 hlt (by kernel_rfl) (fun W => by kernel_rfl) W
  have x0 : w1.cell? ⟨b0, o0 + n, none⟩ = some (.int .i64 x) := by have := hc0 0 _ rfl; simpa using this
  have HX := qzL hx
  have tl : decide ((n : Int) < (c.off.length : Int)) = true := qzO (by omega)
  clear hx hc0 e0
  have hr : Hid (R = (x == day)) := by
   unfold Hid
   rw [← HR.out]
   rcases hbb (x == day) with h | h
   ·rw [h]; rw [eq_of_beq h] at HX; exact qzO (qzK HX.out)
   ·rw [h]
    refine qzN fun hm => ?_
    obtain ⟨k, hk⟩ := List.getElem?_of_mem hm
    rcases Nat.lt_trichotomy k n with q | q | q
    ·have := HLO.out k day q hk; omega
    ·subst q
     have := HX.out.symm.trans hk
     cases this
     simp at h
    ·have h1 := xCd HP.out HX.out hk q
     have h2 := HHI.out n x (Nat.le_refl _) HX.out
     omega
  have rg0 := cR x0
  have rg1 := cR k6'
  have rg2 := cR d0
  refine xAe [0, 1, 2, 3, 4, 5, 6, 7, 8, 9, 10, 11, 12, 13] [14] (by kernel_rfl) (by kernel_rfl) pO ?_
  simp only [xAm, qzA, qzB, qzC, qzD, qzE, qzF]
  repeat (go_big_quiet_step (skip))
  refine wpQuiet_nil ?_
  intro Z hw2
  have hbZ := xAh hw2
  clear hw2 rg0 rg1 rg2
  clear x0 k6' d0
  go_wp2
  go_ret
  exact ⟨xAb hr.out.symm, xAa HB1.out hbZ⟩
 ·have tl : decide ((n : Int) < (c.off.length : Int)) = false := qzN (by omega)
  have hr : Hid (R = false) := by
   unfold Hid
   rw [← HR.out]
   refine qzN fun hm => ?_
   obtain ⟨k, hk⟩ := List.getElem?_of_mem hm
   have := HLO.out k day (by have := (qzM hk).1; omega) hk
   omega
  have rg0 := cR k6'
  have rg1 := cR d0
  refine xAe [0, 1, 2, 3, 4, 5, 6, 7, 8, 9, 10, 11, 12, 13] [14] (by kernel_rfl) (by kernel_rfl) pO ?_
  simp only [xAm, qzA, qzB, qzC, qzD, qzE, qzF]
  repeat (go_big_quiet_step (skip))
  refine wpQuiet_nil ?_
  intro Z hw2
  have hbZ := xAh hw2
  clear hw2 rg0 rg1
  clear k6' d0
  go_wp2
  go_ret
  exact ⟨xAb hr.out.symm, xAa HB1.out hbZ⟩
end Go.Proofs.YtginnonjdbpamaaGreatDoor
/- A reading changed in memory: its day, steps, holders, acts; outcomes clause by clause. -/
namespace Go.Proofs.YtginnonjdbpamaaGreatDoor
open Go.RowKit Go.Sort Go.Maps
section
variable {w0 w w' : World} {b : Nat} {c : Con} {m : Cm} {r : Rd} {wl : Int → List Int} {q : Rq}
theorem Rdm.updB (h : Rdm w0 w b c m r wl q) (u : Upd w w' b) {r' : Rd} (hg : Blk w' b 84 (rdA c m r' q)) (e1 : r'.hol = r.hol) (e2 : r'.hap = r.hap) (e3 : r'.oc = r.oc) : Rdm w0 w' b c m r' wl q :=
 ⟨hg, h.gc.upd u h.bb.symm, by rw [e1]; exact h.oh.upd u (by intro k hk; cases hk; exact h.bh.symm), by rw [e2]; exact h.oa.upd u (by intro k hk; cases hk; exact h.ba.symm), by rw [e3]; exact h.ok.upd u (by intro k hk; cases hk; exact h.bk.symm), by rw [e3]; exact h.oo.upd u (by intro k hk; cases hk; exact h.bo.symm),
  h.mp.keep (u.f _ h.bm.symm), fun k => (h.ol k).upd u fun x hx => h.rowB ⟨k, hx⟩, h.ap, h.ah, h.hb.trans (u.b _ h.lb.1), h.lb, h.bb, h.cn, by rw [e3]; exact h.lo, by rw [e1]; exact h.lh, by rw [e2]; exact h.la⟩
theorem Rdm.setDay (h : Rdm w0 w b c m r wl q) (v : Int) : Rdm w0 (w.setCell ⟨b, 8, none⟩ (.int .i64 v)) b c m { r with day := v } wl q := h.updB ((Upd.refl w b).setCell 8 _) (h.g.set_ 8 _) rfl rfl rfl
theorem Rdm.setSteps (h : Rdm w0 w b c m r wl q) (v : Int) : Rdm w0 (w.setCell ⟨b, 7, none⟩ (.int .i64 v)) b c m { r with steps := v } wl q := h.updB ((Upd.refl w b).setCell 7 _) (h.g.set_ 7 _) rfl rfl rfl
theorem Rdm.setH (h : Rdm w0 w b c m r wl q) {n : Nat} (v : Int) (hn : n < r.hol.length) : Rdm w0 (w.setCell ⟨q.h, n, none⟩ (.int .i64 v)) b c m { r with hol := r.hol.set n v } wl q := by
 have e : (r.hol.set n v).length = r.hol.length := List.length_set
 obtain ⟨x, hx⟩ : ∃ x, r.hol[n]? = some x := ⟨_, qzJ hn⟩
 have u := (Upd.refl w q.h).setCell n (.int .i64 v)
 refine ⟨?_, h.gc.upd u h.ch, ?_, h.oa.upd u (by intro k hk; cases hk; exact h.ha.symm), h.ok.upd u (by intro k hk; cases hk; exact h.hk.symm), h.oo.upd u (by intro k hk; cases hk; exact h.ho.symm), h.mp.keep (u.f _ h.mh), fun k => (h.ol k).upd u fun x hx => h.rowH ⟨k, hx⟩, h.ap, h.ah, h.hb.trans (u.b _ h.oh.lt_.1), h.lb, h.bb, h.cn, h.lo, e.trans h.lh, h.la⟩
 ·have h2 := h.g.upd u h.bh
  unfold rdA at h2 ⊢
  rw [show ({ r with hol := r.hol.set n v } : Rd).hol.length = r.hol.length from e]
  exact h2
 ·have h2 := h.oh.setAt xAz rfl (k := n) (j := 0) (y := v) (u := .int .i64 v) hx (by omega) rfl
  rw [show ({ r with hol := r.hol.set n v } : Rd).hol.length = r.hol.length from e]
  simpa using h2
theorem Rdm.setA (h : Rdm w0 w b c m r wl q) {n : Nat} (v : Bool) (hn : n < r.hap.length) : Rdm w0 (w.setCell ⟨q.a, n, none⟩ (.bool v)) b c m { r with hap := r.hap.set n v } wl q := by
 have e : (r.hap.set n v).length = r.hap.length := List.length_set
 obtain ⟨x, hx⟩ : ∃ x, r.hap[n]? = some x := ⟨_, qzJ hn⟩
 have u := (Upd.refl w q.a).setCell n (.bool v)
 refine ⟨?_, h.gc.upd u h.ca, h.oh.upd u (by intro k hk; cases hk; exact h.ha), ?_, h.ok.upd u (by intro k hk; cases hk; exact h.ak.symm), h.oo.upd u (by intro k hk; cases hk; exact h.ao.symm), h.mp.keep (u.f _ h.ma), fun k => (h.ol k).upd u fun x hx => h.rowA ⟨k, hx⟩, h.ap, h.ah, h.hb.trans (u.b _ h.oa.lt_.1), h.lb, h.bb, h.cn, h.lo, h.lh, e.trans h.la⟩
 ·have h2 := h.g.upd u h.ba
  unfold rdA at h2 ⊢
  rw [show ({ r with hap := r.hap.set n v } : Rd).hap.length = r.hap.length from e]
  exact h2
 ·have h2 := h.oa.setAt xBd rfl (k := n) (j := 0) (y := v) (u := .bool v) hx (by omega) rfl
  rw [show ({ r with hap := r.hap.set n v } : Rd).hap.length = r.hap.length from e]
  simpa using h2
theorem Rdm.holAt (h : Rdm w0 w b c m r wl q) {n : Nat} {v : Int} (hn : r.hol[n]? = some v) : w.cell? ⟨q.h, n, none⟩ = some (.int .i64 v) ∧ w.frozen? ⟨q.h, n, none⟩ = false := by
 have := h.oh.getAt xAz rfl hn (j := 0) (by omega)
 simpa [eI] using this
theorem Rdm.hapAt (h : Rdm w0 w b c m r wl q) {n : Nat} {v : Bool} (hn : r.hap[n]? = some v) : w.cell? ⟨q.a, n, none⟩ = some (.bool v) ∧ w.frozen? ⟨q.a, n, none⟩ = false := by
 have := h.oa.getAt xBd rfl hn (j := 0) (by omega)
 simpa [eB] using this
theorem Rdm.nh (h : Rdm w0 w b c m r wl q) : r.hol.length ≤ 1000000 := by rw [h.lh]; exact h.cn.nh
theorem Rdm.na (h : Rdm w0 w b c m r wl q) : r.hap.length ≤ 1000000 := by rw [h.la]; exact h.cn.na
end
def mixP (f : Cla → Out × Cnt → Out × Cnt) (cl : List Cla) (l : List (Out × Cnt)) (i : Nat) : List (Out × Cnt) := (List.zipWith f cl l).take i ++ l.drop i
section
variable {f : Cla → Out × Cnt → Out × Cnt} {cl : List Cla} {l : List (Out × Cnt)} {i : Nat}
theorem xD8 : mixP f cl l 0 = l := rfl
theorem mixP_len (h : l.length = cl.length) (hi : i ≤ cl.length) : (mixP f cl l i).length = l.length := by
 unfold mixP
 rw [List.length_append, List.length_take, List.length_zipWith, List.length_drop]
 omega
theorem xFj (h : l.length = cl.length) (hi : i < cl.length) : (mixP f cl l i)[i]? = l[i]? := by
 unfold mixP
 have e : ((List.zipWith f cl l).take i).length = i := by rw [List.length_take, List.length_zipWith]; omega
 rw [List.getElem?_append_right (by omega), e, Nat.sub_self, List.getElem?_drop, Nat.add_zero]
theorem xCy {k : Cla} {x : Out × Cnt} (h : l.length = cl.length) (hk : cl[i]? = some k) (hx : l[i]? = some x) : mixP f cl l (i + 1) = (mixP f cl l i).set i (f k x) := by
 have hi : i < cl.length := (qzM hk).1
 have e : ((List.zipWith f cl l).take i).length = i := by rw [List.length_take, List.length_zipWith]; omega
 unfold mixP
 rw [List.set_append_right _ _ (by omega), e, Nat.sub_self, List.take_add_one, List.getElem?_zipWith, hk, hx]
 have hd : l.drop i = x :: l.drop (i + 1) := by
  rw [List.drop_eq_getElem_cons (by omega)]
  rw [qzJ (by omega)] at hx
  injection hx with hx
  rw [hx]
 rw [hd]
 simp
theorem xHy {k : Cla} {x : Out × Cnt} (h : l.length = cl.length) (hk : cl[i]? = some k) (hx : l[i]? = some x) (hf : f k x = x) : mixP f cl l (i + 1) = mixP f cl l i := by
 rw [xCy h hk hx, hf]
 exact xC2 ((xFj h (qzM hk).1).trans hx)
theorem xEx (h : l.length = cl.length) : mixP f cl l cl.length = List.zipWith f cl l := by
 unfold mixP
 rw [List.take_of_length_le (by rw [List.length_zipWith]; omega), List.drop_eq_nil_of_le (by omega), List.append_nil]
end
structure EndS (f : Cla → Out × Cnt → Out × Cnt) (cl : List Cla) (l : List (Out × Cnt)) (i : Nat) (L : List Int) : Prop where
 m : ∀ (j : Nat) k p, j < i → cl[j]? = some k → l[j]? = some p → p.1.runs = true → (f k p).1.runs = false → (j : Int) ∈ L
 b : ∀ x ∈ L, ∃ n : Nat, x = (n : Int) ∧ n < i
 n : L.length ≤ i
theorem EndS.zero {f : Cla → Out × Cnt → Out × Cnt} {cl : List Cla} {l : List (Out × Cnt)} : EndS f cl l 0 [] := ⟨fun _ _ _ h => absurd h (by omega), fun x h => (by cases h), Nat.le_refl _⟩
theorem EndS.skip {f : Cla → Out × Cnt → Out × Cnt} {cl : List Cla} {l : List (Out × Cnt)} {i : Nat} {L : List Int} {k : Cla} {p : Out × Cnt} (h : EndS f cl l i L) (hk : cl[i]? = some k) (hp : l[i]? = some p) (hf : p.1.runs = true → (f k p).1.runs = true) : EndS f cl l (i + 1) L := by
 refine ⟨fun j k' p' hj h1 h2 h3 h4 => ?_, fun x hx => ?_, by have := h.n; omega⟩
 ·by_cases e : j = i
  ·subst e
   rw [hk] at h1
   rw [hp] at h2
   cases h1
   cases h2
   rw [hf h3] at h4
   cases h4
  ·exact h.m j k' p' (by omega) h1 h2 h3 h4
 ·obtain ⟨n, e, hn⟩ := h.b x hx
  exact ⟨n, e, by omega⟩
theorem EndS.next {f : Cla → Out × Cnt → Out × Cnt} {cl : List Cla} {l : List (Out × Cnt)} {i : Nat} {L : List Int} (h : EndS f cl l i L) : EndS f cl l (i + 1) (L ++ [(i : Int)]) := by
 refine ⟨fun j k' p' hj h1 h2 h3 h4 => ?_, fun x hx => ?_, by rw [List.length_append]; have := h.n; simp; omega⟩
 ·by_cases e : j = i
  ·subst e; simp
  ·exact List.mem_append_left _ (h.m j k' p' (by omega) h1 h2 h3 h4)
 ·rcases List.mem_append.1 hx with hx | hx
  ·obtain ⟨n, e, hn⟩ := h.b x hx
   exact ⟨n, e, by omega⟩
  ·exact ⟨i, List.mem_singleton.1 hx, by omega⟩
theorem EndS.all {f : Cla → Out × Cnt → Out × Cnt} {c : Con} {r r' : Rd} {L : List Int} (h : EndS f c.cl r.oc c.cl.length L) (ho : r'.oc = List.zipWith f c.cl r.oc) : EndL c r r' L := by
 refine ⟨fun j p p' h1 h2 h3 h4 => ?_, h.b, h.n⟩
 rw [ho, List.getElem?_zipWith, h1] at h2
 cases hk : c.cl[j]? with
 | none => rw [hk] at h2; simp at h2
 | some k =>
  rw [hk] at h2
  cases h2
  exact h.m j k p (qzM hk).1 hk h1 h3 h4
structure RLp (f : Cla → Out × Cnt → Out × Cnt) (w0 w W : World) (b : Nat) (c : Con) (m : Cm) (r : Rd) (wl : Int → List Int) (q : Rq) (p : Nat → Prop) (N : Nat) (i : Nat) (v : Value) (L : List Int) : Prop where
 rd : Rdm w0 W b c m (r.wo (mixP f c.cl r.oc i)) wl q
 k : Kept w W p
 o : Own W N 3 1 eI v L
 e : EndS f c.cl r.oc i L
section
variable {f : Cla → Out × Cnt → Out × Cnt} {w0 w W W' : World} {b : Nat} {c : Con} {m : Cm} {r : Rd} {wl : Int → List Int} {q : Rq} {p : Nat → Prop} {N i : Nat} {v v' : Value} {L : List Int}
theorem RLp.skip (h : RLp f w0 w W b c m r wl q p N i v L) (hlo : r.oc.length = c.cl.length) {k : Cla} {x : Out × Cnt} (hk : c.cl[i]? = some k) (hx : r.oc[i]? = some x) (hf : f k x = x) (hb : Below W.heap.size W W') : RLp f w0 w W' b c m r wl q p N (i + 1) v L :=
 ⟨by rw [xHy hlo hk hx hf]; exact h.rd.then_ hb, h.k.trans (Kept.of_below hb), h.o.below hb, h.e.skip hk hx (fun e => by rw [hf]; exact e)⟩
theorem RLp.chg (h : RLp f w0 w W b c m r wl q p N i v L) (hlo : r.oc.length = c.cl.length) {k : Cla} {x : Out × Cnt} (hk : c.cl[i]? = some k) (hx : r.oc[i]? = some x) {y : Out × Cnt} (hR : Rdm w0 W' b c m (r.wo ((mixP f c.cl r.oc i).set i y)) wl q) (hy : y = f k x) (hK : Kept W W' p) (hO : Own W' N 3 1 eI v L) (hr : (f k x).1.runs = true) : RLp f w0 w W' b c m r wl q p N (i + 1) v L :=
 ⟨by rw [xCy hlo hk hx, ← hy]; exact hR, h.k.trans hK, hO, h.e.skip hk hx (fun _ => hr)⟩
end
def RetD (w0 w : World) (b : Nat) (c : Con) (m : Cm) (r r' : Rd) (wl : Int → List Int) (q : Rq) (p : Nat → Prop) (e : Ending) (w' : World) : Prop :=
 ∃ v L, e = .returned v ∧ Rdm w0 w' b c m r' wl q ∧ Kept w w' p ∧ Own w' w.heap.size 3 1 eI v L ∧ EndL c r r' L
theorem Kept.grown {w w' : World} {v : Value} (h : w.grownBy w' v.ownBlock) : Kept w w' (fun x => v.ownBlock = some x) :=
 ⟨fun B hB hs => ⟨h.os, h.tape, h.output, h.size, fun i hi => h.block i (by omega) (fun e => by have := hB i e.symm; omega)⟩, fun x hx hp => h.block x hx (fun e => hp e.symm)⟩
theorem Kept.newer {w W W' : World} {p q : Nat → Prop} (h : Kept w W p) (k : Kept W W' q) (hq : ∀ x, q x → w.heap.size ≤ x) : Kept w W' p :=
 ⟨fun B hB hs => (h.b B hB hs).trans (k.b B (fun x hx => by have := hq x hx; omega) (by have := h.size; omega)), fun x hx hp => (k.k x (by have := h.size; omega) (fun hq' => by have := hq x hq'; omega)).trans (h.k x hx hp)⟩
theorem Own.keepP {α : Type} {w w' : World} {N : Nat} {T : TypeId} {size : Nat} {enc : α → List Value} {v : Value} {xs : List α} {p : Nat → Prop} (h : Own w N T size enc v xs) (hk : Kept w w' p) (hp : ∀ x, p x → x < N) : Own w' N T size enc v xs := by
 refine ⟨h.1, ?_⟩
 rcases h.2 with h2 | ⟨g', cap', cur, hv, hg', hh, r⟩
 ·exact .inl h2
 ·exact .inr ⟨g', cap', cur, hv, hg', by rw [hk.k g' (Array.getElem?_eq_some_iff.1 hh).1 (fun e => by have := hp _ e; omega)]; exact hh, r⟩
theorem RLp.app {f : Cla → Out × Cnt → Out × Cnt} {w0 w W w1 w2 : World} {b : Nat} {c : Con} {m : Cm} {r : Rd} {wl : Int → List Int} {q : Rq} {p : Nat → Prop} {i : Nat} {v v' : Value} {L : List Int} {o : Obj}
  (h : RLp f w0 w W b c m r wl q p w.heap.size i v L) (hq : QB q b w.heap.size) (h0 : w0.heap.size ≤ w.heap.size) (hlo : r.oc.length = c.cl.length) {k : Cla} {x : Out × Cnt} (hk : c.cl[i]? = some k) (hx : r.oc[i]? = some x) {y : Out × Cnt}
  (hR : Rdm w0 w1 b c m (r.wo ((mixP f c.cl r.oc i).set i y)) wl q) (hy : y = f k x) (hK : Kept W w1 p) (hO : Own w1 w.heap.size 3 1 eI v L) (hO2 : Own w2 w.heap.size 3 1 eI v' (L ++ [(i : Int)])) (hb2 : Below w.heap.size (w1.alloc o) w2) (hg2 : (w1.alloc o).grownBy w2 v.ownBlock) : RLp f w0 w w2 b c m r wl q p w.heap.size (i + 1) v' (L ++ [(i : Int)]) := by
 have lw : w.heap.size ≤ w1.heap.size := by have := h.k.size; have := hK.size; omega
 have hb : Below w.heap.size w1 w2 := Below.trans ((Below.refl _ _).alloc lw _) hb2
 refine ⟨by rw [xCy hlo hk hx, ← hy]; exact hR.below hq hb h0, ?_, hO2, h.e.next⟩
 refine ((h.k.trans hK).trans (Kept.of_below (wa1 w1 o))).newer (Kept.grown hg2) fun x hx => ?_
 exact (World.ownsRow.lt hO x hx).1
end Go.Proofs.YtginnonjdbpamaaGreatDoor
