/- Contracts of functions and plain laws, joined: Sm, Cpy, Stp, Qp, Sw, Sx, Pk2, Sy, Rg. -/
import Derived.Test.YtffceokjeonpcaaGreatDoorMb1
import Derived.Test.YtffceokjeonpcaaGreatDoorMb4
import Derived.Laws.AppendOwnNone
import Derived.Test.YtffceokjeonpcaaGreatDoorMb2
import Derived.RangeFuncNested
import Derived.RangeFuncBound
import Derived.RangeFuncCalls
import Derived.RangeFuncLeaves
import Derived.Shelf.Abstract
import Derived.Shelf.RegionOpen
import Derived.WalkKit
import Derived.OwnWalkIn
import Derived.TacticsInMore
import Derived.LoopNIn
import Derived.LoopIn
set_option maxHeartbeats 6400000
set_option maxRecDepth 100000
namespace Go.Proofs.YtffceokjeonpcaaGreatDoor
open Go.RowKit
def eB (b : Bool) : List Value := [.bool b]
def eM (m : Mk) : List Value := [.int .i64 m.st, .int .i64 m.left, .int .i64 m.got, .int .i64 m.brr, .bool m.pau]
abbrev mL (m : Mk) : List Value := [.int .i64 m.st, .int .i64 m.left, .int .i64 m.got, .int .i64 m.brr, .bool m.pau]
abbrev mA (m : Mk) : Array Value := #[.int .i64 m.st, .int .i64 m.left, .int .i64 m.got, .int .i64 m.brr, .bool m.pau]
theorem xBj (b : Bool) : (eB b).length = 1 := rfl
theorem xBg (m : Mk) : (eM m).length = 5 := rfl
theorem one_bool (b : Bool) : ∀ u ∈ eB b, u.oneCell' = true := by
 intro u hu
 simp only [eB, List.mem_cons, List.not_mem_nil, or_false] at hu
 subst hu; rfl
theorem one_mark (y : Mk) : ∀ u ∈ eM y, u.oneCell' = true := by
 intro u hu
 simp only [eM, List.mem_cons, List.not_mem_nil, or_false] at hu
 rcases hu with rfl | rfl | rfl | rfl | rfl <;> rfl
theorem elM : ElT Tryz.prog 61 5 := ⟨⟨_, Tryz.underlying61⟩, by kernel_rfl, ⟨.agg #[.int .i64 0, .int .i64 0, .int .i64 0, .int .i64 0, .bool false], rfl, fun w => by kernel_rfl⟩⟩
structure Qm where
 h : Option Addr
 hc : Nat
 u : Option Addr
 uc : Nat
 m : Option Addr
 mc : Nat
abbrev stA (s : Sta) (q : Qm) : Array Value := #[.int .i64 s.day, .slice q.h s.hol.length q.hc, .slice q.u s.used.length q.uc, .slice q.m s.marks.length q.mc]
theorem stC {W : World} {b : Nat} {T : TypeId} {vs : Array Value} {c : Sta} {m : Qm} (h : Blk W b T vs) (e : vs.toList.take 4 = [.int .i64 c.day, .slice m.h c.hol.length m.hc, .slice m.u c.used.length m.uc, .slice m.m c.marks.length m.mc]) : W.cell? ⟨b, 0, none⟩ = some (.int .i64 c.day) ∧ W.cell? ⟨b, 1, none⟩ = some (.slice m.h c.hol.length m.hc) ∧ W.cell? ⟨b, 2, none⟩ = some (.slice m.u c.used.length m.uc) ∧ W.cell? ⟨b, 3, none⟩ = some (.slice m.m c.marks.length m.mc) := by
 have k : ∀ i, i < 4 → W.cell? ⟨b, i, none⟩ = [.int .i64 c.day, .slice m.h c.hol.length m.hc, .slice m.u c.used.length m.uc, .slice m.m c.marks.length m.mc][i]? := fun i hi => by rw [← e, List.getElem?_take_of_lt hi, Array.getElem?_toList]; exact h.cell i
 exact ⟨k 0 (by decide), k 1 (by decide), k 2 (by decide), k 3 (by decide)⟩
structure Stm (w : World) (s : Sta) (q : Qm) : Prop where
 h : Seg w w.heap.size 1 eI q.h s.hol
 u : Seg w w.heap.size 1 eB q.u s.used
 m : Seg w w.heap.size 5 eM q.m s.marks
 nh : s.hol.length ≤ 1000000
 nu : s.used.length ≤ 1000000
 nm : s.marks.length ≤ 1000000
 ch : s.hol.length ≤ q.hc
 cu : s.used.length ≤ q.uc
 cm : s.marks.length ≤ q.mc
theorem Stm.then_ {w w' : World} {s : Sta} {q : Qm} (h : Stm w s q) (hb : Below w.heap.size w w') : Stm w' s q :=
 ⟨(h.h.below hb).more hb.size, (h.u.below hb).more hb.size, (h.m.below hb).more hb.size, h.nh, h.nu, h.nm, h.ch, h.cu, h.cm⟩
theorem xIp (x : Mk) (w : World) : Calls Tryz.prog 100 #[.agg (mA x)] w fun e w' => e = .returned (.bool x.runs) ∧ Below w.heap.size w w' := by
 obtain ⟨r, hr⟩ : ∃ r, x.runs = r := ⟨_, rfl⟩
 rw [hr]
 have HR := qzL hr
 clear hr
 cases t1 : (x.st == 1) with
 | true =>
  go_enter Tryz.func100, Tryz.ntmps100
  go_wp2
  go_ret
  exact ⟨xAb (by rw [← HR.out]; unfold Mk.runs; rw [t1]; rfl), wa1 _ _⟩
 | false =>
  go_enter Tryz.func100, Tryz.ntmps100
  go_wp2
  go_ret
  exact ⟨xAb (by rw [← HR.out]; unfold Mk.runs; rw [t1]; rfl), wa1 _ _⟩
theorem xHe (c : Con) (m : Cm) (s : Sta) (q : Qm) (i : Nat) (x : Mk) (kx : Km) (w : World) (hC : Cont w c m) (hS : Stm w s q) (hx : s.marks[i]? = some x) (hk : m.ks[i]? = some kx)
  (hcond : ∀ y ∈ kx.k.start, 0 ≤ y.1 ∧ y.1 < (s.marks.length : Int) ∧ 1 ≤ y.2 ∧ y.2 ≤ 4) (R : Bool) (hR : R = (x.st == 0 && !kx.k.waived && kx.k.start.all fun y => xA2 y.2 (stOf s.marks y.1))) :
  Calls Tryz.prog 63 #[.agg (coA c m), .agg (stA s q), .int .i64 (i : Nat)] w fun e w' => e = .returned (.bool R) ∧ Below w.heap.size w w' := by
 have HR := qzL hR
 have HC := qzL hcond
 have hik : i < c.cl.length := by rw [← hC.e]; simpa using (qzM hk).1
 have him : i < s.marks.length := (qzM hx).1
 have nk := hC.nk
 have nm := hS.nm
 have hko := hC.t kx (qzK hk)
 have ns := hko.n
 have HT := qzL hko.s
 have HM := qzL hS.m
 obtain ⟨b0, o0, eA0, hb0, hc0⟩ := xAv hC.k hk
 obtain ⟨b1, o1, eA1, hb1, hc1⟩ := xAv hS.m hx
 have hix0 := fun W => xAp (t := 25) (size := 16) (cap := m.kc) eA0 hik (by kernel_rfl) (fun W => by kernel_rfl) W
 have hix1 := fun W => xAp (t := 45) (size := 5) (cap := q.mc) eA1 him (by kernel_rfl) (fun W => by kernel_rfl) W
 have d0 : w.cell? ⟨b1, o1 + i * 5, none⟩ = some (.int .i64 x.st) := hc1 0 _ rfl
 have d1 : w.cell? ⟨b0, o0 + i * 16 + 15, none⟩ = some (.bool kx.k.waived) := hc0 15 _ rfl
 have d2 : w.cell? ⟨b0, o0 + i * 16 + 4, none⟩ = some (.slice kx.A kx.k.start.length kx.cap) := hc0 4 _ rfl
 clear hR hcond hC hS hko hc0 hc1 hx hk
 go_enter Tryz.func63, Tryz.ntmps63
 go_upto_region 1 with (fail)
 refine xAi ?_
 intro X hX
 have ga : Blk X w.heap.size 27 (coA c m) := by rw [hX]; exact (xA0 (by simp)).alloc _
 have gs : Blk X (w.heap.size + 1) 47 (stA s q) := by rw [hX]; exact xA0 (by simp)
 have HB : Below w.heap.size w X := by rw [hX]; (repeat (first | exact Below.refl _ _ | refine xAc ?_ _))
 have x0 := (HB.cell (p := ⟨b1, o1 + i * 5, none⟩) hb1).trans d0
 have x1 := (HB.cell (p := ⟨b0, o0 + i * 16 + 15, none⟩) hb0).trans d1
 have x2 := (HB.cell (p := ⟨b0, o0 + i * 16 + 4, none⟩) hb0).trans d2
 obtain ⟨bs, es⟩ : ∃ b, w.heap.size + 1 = b := ⟨_, rfl⟩
 obtain ⟨ba, eb⟩ : ∃ b, w.heap.size = b := ⟨_, rfl⟩
 rw [es] at gs ⊢
 rw [eb] at ga ⊢
 clear hX es eb d0 d1 d2
 have k4 : X.cell? ⟨ba, 4, none⟩ = some (.slice m.k c.cl.length m.kc) := ga.cell 4
 have s3 : X.cell? ⟨bs, 3, none⟩ = some (.slice q.m s.marks.length q.mc) := gs.cell 3
 cases t0 : (x.st == 0) with
 | false =>
  have t0' : (x.st != 0) = true := by simp [bne, t0]
  have hf : Hid (R = false) := by unfold Hid; rw [HR.out, t0]; rfl
  go_wp2
  go_ret
  exact ⟨xAb hf.out.symm, HB⟩
 | true =>
 have t0' : (x.st != 0) = false := by simp [bne, t0]
 cases hw : kx.k.waived with
 | true =>
  have hf : Hid (R = false) := by unfold Hid; rw [HR.out, hw]; simp
  rw [hw] at x1
  go_wp2
  go_ret
  exact ⟨xAb hf.out.symm, HB⟩
 | false =>
 have hR2 : Hid (R = kx.k.start.all fun y => xA2 y.2 (stOf s.marks y.1)) := by unfold Hid; rw [HR.out, t0, hw]; rfl
 rw [hw] at x1
 go_upto_region 4 with (fail)
 clear t0 t0' hix0 x0 x1 x2 k4 hw hb1 hb0 eA0 eA1 hix1
 go_loopw [33] (fun y WR => ∃ j : Nat, j ≤ kx.k.start.length ∧ y = .int .i64 j ∧ Hid (∀ n v, n < j → kx.k.start[n]? = some v → xA2 v.2 (stOf s.marks v.1) = true) ∧ Below X.heap.size X WR) (fun y _ => 2000000 - (intOf y).toNat)
 case atStart => exact ⟨0, by omega, rfl, fun n u h => absurd h (by omega), Below.refl _ _⟩
 case round =>
  obtain ⟨j, hj, rfl, hN, hbr⟩ := hrel
  have gr := gs.then_ hbr
  have HBR := qzL (xAa HB hbr)
  have HBX := qzL hbr
  have l1 := gr.lt
  by_cases hlt : j < kx.k.start.length
  ·have tj : decide ((j : Int) < (kx.k.start.length : Int)) = true := qzO (by omega)
   obtain ⟨v, hv⟩ : ∃ v, kx.k.start[j]? = some v := ⟨_, qzJ hlt⟩
   have hcv := HC.out v (qzK hv)
   obtain ⟨n, hn⟩ : ∃ n : Nat, v.1 = (n : Int) := ⟨v.1.toNat, by omega⟩
   have hnl : n < s.marks.length := by omega
   obtain ⟨y, hy⟩ : ∃ y, s.marks[n]? = some y := ⟨_, qzJ hnl⟩
   have HN2 : Hid (stOf s.marks v.1 = y.st) := by unfold Hid; rw [hn]; exact stOf_at hy
   obtain ⟨b2, o2, eA2, hb2, hc2⟩ := xAv (HT.out.below HBR.out) hv
   obtain ⟨b3, o3, eA3, hb3, hc3⟩ := xAv (HM.out.below HBR.out) hy
   have hrg : wr.rangeAt b2 (o2 + j * 2) (sL v) := fun j v hv => hc2 j v hv
   have hix2 := fun W => xAp (t := 93) (size := 2) (cap := kx.cap) eA2 hlt (by kernel_rfl) (fun W => by kernel_rfl) W
   have hix3 := fun W => xAp (t := 45) (size := 5) (cap := q.mc) eA3 hnl (by kernel_rfl) (fun W => by kernel_rfl) W
   have y0 : wr.cell? ⟨b3, o3 + n * 5, none⟩ = some (.int .i64 y.st) := hc3 0 _ rfl
   have lw := HBR.out.size
   have HV := qzL hv
   clear hv hy hc2 hc3 eA2 eA3 hbr
   go_upto_region 6 with ((refine xAm 143 elS _ _ _ rfl rfl rfl rfl rfl rfl rfl rfl rfl b2 _ rfl (sL v) rfl hrg (by simp [Value.oneCell']) (by decide) (by simp) (by simp) ?_; simp only [Act.put, qzG, qzH, qzI]))
   refine xAi ?_
   intro V hV
   have gx : Blk V wr.heap.size 143 (sL v).toArray := by rw [hV]; exact Blk.new _ _ _
   have gv : Blk V bs 47 (stA s q) := by rw [hV]; exact gr.alloc _
   have HVB : Hid (Below wr.heap.size wr V) := by rw [hV]; exact wa1 _ _
   have y1 := (HVB.out.cell (p := ⟨b3, o3 + n * 5, none⟩) (by show b3 < _; omega)).trans y0
   obtain ⟨bx, ex⟩ : ∃ b, wr.heap.size = b := ⟨_, rfl⟩
   rw [ex] at gx ⊢
   clear hV ex hrg hix2 y0
   have x0 : V.cell? ⟨bx, 0, none⟩ = some (.int .i64 (n : Int)) := by rw [← hn]; exact gx.cell 0
   have x1 : V.cell? ⟨bx, 1, none⟩ = some (.int .i64 v.2) := gx.cell 1
   have s3 : V.cell? ⟨bs, 3, none⟩ = some (.slice q.m s.marks.length q.mc) := gv.cell 3
   have hz : ∀ b, xA2 v.2 y.st = b → b = false → R = false := fun b h1 h2 => by
    rw [hR2.out, List.all_eq_false]
    exact ⟨v, qzK HV.out, by rw [HN2.out, h1, h2]; simp⟩
   have hg : xA2 v.2 y.st = true → ∀ n' v', n' < j + 1 → kx.k.start[n']? = some v' → xA2 v'.2 (stOf s.marks v'.1) = true := fun h n' v' h1 h2 => by
    by_cases e : n' = j
    ·subst e
     rw [HV.out] at h2
     cases h2
     rw [HN2.out]; exact h
    ·exact hN.out n' v' (by omega) h2
   have HZ := qzL hz
   have HG := qzL hg
   obtain ⟨is, his⟩ : ∃ z, v.2 = z := ⟨_, rfl⟩
   rw [his] at x1 HZ HG hcv
   obtain ⟨st, hst⟩ : ∃ z, y.st = z := ⟨_, rfl⟩
   rw [hst] at y1 HZ HG
   clear his hst hz hg gx gv gr ga gs HT HM HN2 HC hn
   have h4 : is = 1 ∨ is = 2 ∨ is = 3 ∨ is = 4 := by omega
   have hn2 : n < s.marks.length := hnl
   clear hcv
   rcases h4 with rfl | rfl | rfl | rfl
   ·cases hb : (st != 0) with
    | true =>
     have hb' : (st == 0) = false := by simpa [bne] using hb
     have hh := qzL (HG.out (by show (st != 0) = true; exact hb))
     clear HZ HG
     go_wp2
     go_roundw
     case rel => exact ⟨j + 1, by omega, by simp, hh.out, xAa HBX.out HVB.out⟩
     case measure => simp [intOf]; omega
    | false =>
     have hb' : (st == 0) = true := by simpa [bne] using hb
     have hh := qzL (HZ.out _ (by show (st != 0) = false; exact hb) rfl)
     clear HZ HG
     go_wp2
     go_ret
     exact ⟨xAb hh.out.symm, xAa HBR.out HVB.out⟩
   ·cases hb : (st == 3) with
    | true =>
     have hh := qzL (HG.out (by show (st == 3) = true; exact hb))
     clear HZ HG
     go_wp2
     go_roundw
     case rel => exact ⟨j + 1, by omega, by simp, hh.out, xAa HBX.out HVB.out⟩
     case measure => simp [intOf]; omega
    | false =>
     have hh := qzL (HZ.out _ (by show (st == 3) = false; exact hb) rfl)
     clear HZ HG
     go_wp2
     go_ret
     exact ⟨xAb hh.out.symm, xAa HBR.out HVB.out⟩
   ·cases hb : (st == 4) with
    | true =>
     have hh := qzL (HG.out (by show (st == 4) = true; exact hb))
     clear HZ HG
     go_wp2
     go_roundw
     case rel => exact ⟨j + 1, by omega, by simp, hh.out, xAa HBX.out HVB.out⟩
     case measure => simp [intOf]; omega
    | false =>
     have hh := qzL (HZ.out _ (by show (st == 4) = false; exact hb) rfl)
     clear HZ HG
     go_wp2
     go_ret
     exact ⟨xAb hh.out.symm, xAa HBR.out HVB.out⟩
   ·cases hb : (st == 5) with
    | true =>
     have hh := qzL (HG.out (by show (st == 5) = true; exact hb))
     clear HZ HG
     go_wp2
     go_roundw
     case rel => exact ⟨j + 1, by omega, by simp, hh.out, xAa HBX.out HVB.out⟩
     case measure => simp [intOf]; omega
    | false =>
     have hh := qzL (HZ.out _ (by show (st == 5) = false; exact hb) rfl)
     clear HZ HG
     go_wp2
     go_ret
     exact ⟨xAb hh.out.symm, xAa HBR.out HVB.out⟩
  ·have tj : decide ((j : Int) < (kx.k.start.length : Int)) = false := qzN (by omega)
   have hf : Hid (R = true) := by
    unfold Hid; rw [hR2.out, List.all_eq_true]
    intro v hv
    obtain ⟨n, hn⟩ := List.getElem?_of_mem hv
    exact hN.out n v (by have := (qzM hn).1; omega) hn
   go_wp2
   go_ret
   exact ⟨xAb hf.out.symm, HBR.out⟩
theorem xDr {α : Type} {enc : α → List Value} {size : Nat} (he : ∀ x, (enc x).length = size) (l : List α) : (l.flatMap enc).length = l.length * size := by
 induction l with
 | nil => simp
 | cons a l ih => rw [List.flatMap_cons, List.length_append, ih, he, List.length_cons, Nat.succ_mul]; omega
theorem xG8 {α : Type} {enc : α → List Value} {size : Nat} (he : ∀ x, (enc x).length = size) (h0 : 0 < size) {w : World} {B : Nat} {A : Addr} {l : List α} (h : Seg w B size enc (some A) l) : ∀ j u, (l.flatMap enc)[j]? = some u → w.cell? (A.add j) = some u := by
 intro j u hu
 have hj := (qzM hu).1
 rw [xDr he] at hj
 have hk : j / size < l.length := Nat.div_lt_of_lt_mul (by rw [Nat.mul_comm]; exact hj)
 obtain ⟨x, hx⟩ : ∃ x, l[j / size]? = some x := ⟨_, qzJ hk⟩
 obtain ⟨b, off, e, hl, hc⟩ := h _ x hx
 cases e
 have hr : j % size < size := Nat.mod_lt _ h0
 have e1 : j / size * size + j % size = j := by rw [Nat.mul_comm]; exact Nat.div_add_mod j size
 have e2 := getElem?_flatMap (enc := enc) he l (j / size) (j % size) x hx hr
 rw [e1, hu] at e2
 have h4 := hc (j % size) u e2.symm
 rw [Nat.add_assoc, e1] at h4
 unfold Addr.add
 split
 ·rename_i hz; subst hz; simpa using h4
 ·exact h4
theorem xIc {P : Program} {α : Type} {w : World} {ops : Array Oper} {rest : List Oper} {o : Oper} {a : Act} {Q : Exit → Act → World → Prop} (hgd : o.guard = none) (s x : Operand) (t : TypeId)
  (ho : o.op = .call { callee := .builtin .append, args := #[s, x], argTypes := #[t, t] })
  (B : Nat) (e : TypeId) (i : TypeInfo) (z : Value) (size bytes : Nat) (ht : P.underlying t = some (.slice e)) (hi : P.info? e = some i) (hz : i.zero = some z)
  (hsize : i.size = size) (hby : i.bytes = bytes) (hzs : z.cells.size = size) (hsz : 0 < size) (hb1 : bytes ≤ 100000)
  (enc : α → List Value) (he : ∀ y, (enc y).length = size) (h1 : ∀ y, ∀ u ∈ enc y, u.oneCell' = true)
  (g : Nat) (hs : a.eval s = .slice (some ⟨g, 0, none⟩) 0 0) (hg : Blk w g e #[]) (hB : B ≤ g)
  (A : Option Addr) (l : List α) (c n : Nat) (hx : a.eval x = .slice A n c) (hn : n = l.length) (hl : l.length ≤ 1000000) (C : Nat) (hsrc : Seg w C size enc A l) (hnil : A = none → l = [] ∧ c = 0)
  (h : ∀ g' c' w', Own w' B e size enc (.slice (some ⟨g', 0, none⟩) l.length c') l → Below B w w' → B ≤ g' ∧ g' < w'.heap.size → wpList P ops Q rest (a.put o.dst (.slice (some ⟨g', 0, none⟩) l.length c')) w') : wpList P ops Q (o :: rest) a w := by
 subst hn
 have hO : w.ownsRow B e size (.slice (some ⟨g, 0, none⟩) 0 0) 0 [] := ⟨by simp, .inr ⟨g, 0, #[], rfl, hB, hg, Nat.le_refl _, by simp, by simp, by simp⟩⟩
 have hBw : B ≤ w.heap.size := Nat.le_trans hB (Nat.le_of_lt hg.lt)
 cases A with
 | none =>
  obtain ⟨rfl, rfl⟩ := hnil rfl
  refine wpList_append_own_none hgd s x t ho B e i size ht hi _ 0 [] hs hO hx ?_
  exact h g 0 w (by simpa [Own] using hO) (Below.refl _ _) ⟨hB, hg.lt⟩
 | some A =>
  refine wpList_append_own w hgd s x t ho B e i z size bytes ht hi hz hsize hby hzs hsz _ 0 [] hs hO A l.length c (l.flatMap enc) hx (xDr he l) (xG8 he hsz hsrc) ?_ (by unfold maxLen; omega) ?_ hBw ?_
  ·intro u hu
   obtain ⟨y, _, hy⟩ := List.mem_flatMap.1 hu
   exact h1 y u hy
  ·have : (0 + l.length) * bytes ≤ 1000000 * 100000 := Nat.mul_le_mul (by omega) hb1
   omega
  ·intro v' w' h2 h3 h4
   have hO' : Own w' B e size enc v' l := by simpa [Own] using h2
   rcases hO'.2 with ⟨e1, _⟩ | ⟨g', c', cur, e1, hg', hh, _⟩
   ·have := (h4.1 e1).1
    cases this
   ·subst e1
    exact h g' c' w' hO' ((Below.refl B w).grown h3 hBw fun k hk => by cases hk; exact hB) ⟨hg', (Array.getElem?_eq_some_iff.1 hh).1⟩
theorem set_flat {α : Type} {enc : α → List Value} {size : Nat} (he : ∀ x, (enc x).length = size) {y : α} {j : Nat} {u : Value} : ∀ (xs : List α) (k : Nat) (x : α), xs[k]? = some x → enc y = (enc x).set j u → j < size → (xs.flatMap enc).set (k * size + j) u = (xs.set k y).flatMap enc
 | [], k, x, h, _, _ => by simp at h
 | z :: xs, 0, x, h, hy, hj => by
  simp at h; subst h
  have hz := he z
  simp only [List.flatMap_cons, qzI, Nat.zero_mul, Nat.zero_add, hy]
  rw [List.set_append_left _ _ (by omega)]
 | z :: xs, k + 1, x, h, hy, hj => by
  have ih := set_flat he xs k x (by simpa using h) hy hj
  simp only [List.flatMap_cons, qzH]
  rw [List.set_append_right _ _ (by rw [he, Nat.add_mul]; omega), he, show (k + 1) * size + j - size = k * size + j by rw [Nat.add_mul]; omega, ih]
section
variable {α : Type} {w : World} {B : Nat} {T : TypeId} {size : Nat} {enc : α → List Value} {xs : List α} {g n cap : Nat}
theorem Own.setAt (h : Own w B T size enc (.slice (some ⟨g, 0, none⟩) n cap) xs) (he : ∀ x, (enc x).length = size) (hn : xs.length = n) {k j : Nat} {x y : α} {u : Value} (hx : xs[k]? = some x) (hj : j < size) (hy : enc y = (enc x).set j u) :
  Own (w.setCell ⟨g, k * size + j, none⟩ u) B T size enc (.slice (some ⟨g, 0, none⟩) n cap) (xs.set k y) := by
 unfold Own at h ⊢
 rw [hn] at h
 have h1 := (World.ownsRow.stored h (k * size + j) u).1
 rw [List.length_set, hn, ← set_flat he xs k x hx hy hj]
 exact h1
theorem Own.getAt (h : Own w B T size enc (.slice (some ⟨g, 0, none⟩) n cap) xs) (he : ∀ x, (enc x).length = size) (hn : xs.length = n) {k j : Nat} {x : α} (hx : xs[k]? = some x) (hj : j < size) :
  w.cell? ⟨g, k * size + j, none⟩ = (enc x)[j]? ∧ w.frozen? ⟨g, k * size + j, none⟩ = false := by
 have hk : k < xs.length := (qzM hx).1
 unfold Own at h
 rw [hn] at h
 have h1 : k * size + j < n * size := by
  have : (k + 1) * size ≤ n * size := Nat.mul_le_mul_right _ (by omega)
  rw [Nat.add_mul] at this; omega
 have e1 := World.ownsRow.cellAt h (k * size + j) h1
 exact ⟨e1.trans (getElem?_flatMap he xs k j x hx hj), World.ownsRow.frozenAt h _⟩
theorem Own.blk {v : Value} (h : Own w B T size enc v xs) (hv : v ≠ .slice none 0 0) : ∃ g cap, v = .slice (some ⟨g, 0, none⟩) xs.length cap ∧ B ≤ g ∧ g < w.heap.size := by
 rcases h.2 with ⟨h1, hl⟩ | ⟨g, cap, cur, hv', hg, hh, _⟩
 ·exact absurd h1 hv
 ·exact ⟨g, cap, hv', hg, (Array.getElem?_eq_some_iff.1 hh).1⟩
end
def setL : List Value → Nat → List Value → List Value
 | l, _, [] => l
 | l, i, v :: vs => setL (l.set i v) (i + 1) vs
theorem xHb (r : List Value) : ∀ (vs l : List Value) (i : Nat), i + vs.length ≤ l.length → setL (l ++ r) i vs = setL l i vs ++ r
 | [], l, i, _ => rfl
 | v :: vs, l, i, h => by
  simp only [List.length_cons] at h
  simp only [setL]
  rw [List.set_append_left _ _ (by omega), xHb r vs _ _ (by rw [List.length_set]; omega)]
theorem xFy (l : List Value) : ∀ (vs r : List Value) (i : Nat), setL (l ++ r) (l.length + i) vs = l ++ setL r i vs
 | [], r, i => rfl
 | v :: vs, r, i => by
  simp only [setL]
  rw [List.set_append_right _ _ (by omega), show l.length + i - l.length = i by omega, Nat.add_assoc, xFy l vs _ (i + 1)]
theorem xHc {α : Type} {enc : α → List Value} {size : Nat} (he : ∀ x, (enc x).length = size) {y : α} {j : Nat} {vs : List Value} : ∀ (xs : List α) (k : Nat) (x : α), xs[k]? = some x → enc y = setL (enc x) j vs → j + vs.length ≤ size → setL (xs.flatMap enc) (k * size + j) vs = (xs.set k y).flatMap enc
 | [], k, x, h, _, _ => by simp at h
 | z :: xs, 0, x, h, hy, hj => by
  simp at h; subst h
  simp only [List.flatMap_cons, qzI, Nat.zero_mul, Nat.zero_add, hy]
  rw [xHb _ _ _ _ (by rw [he]; exact hj)]
 | z :: xs, k + 1, x, h, hy, hj => by
  have ih := xHc he xs k x (by simpa using h) hy hj
  simp only [List.flatMap_cons, qzH]
  rw [show (k + 1) * size + j = (enc z).length + (k * size + j) by rw [he, Nat.add_mul]; omega, xFy, ih]
section
variable {α : Type} {w : World} {B : Nat} {T : TypeId} {size : Nat} {enc : α → List Value} {xs : List α} {g n cap : Nat}
theorem xDg : ∀ (vs : List Value) (i : Nat) (w : World) (cur : List Value), w.ownsRow B T size (.slice (some ⟨g, 0, none⟩) n cap) n cur → (w.setCells g i vs).ownsRow B T size (.slice (some ⟨g, 0, none⟩) n cap) n (setL cur i vs)
 | [], _, _, _, h => h
 | v :: vs, i, w, cur, h => by
  simp only [World.setCells, setL]
  exact xDg vs (i + 1) _ _ (World.ownsRow.stored h i v).1
theorem Own.setPart (h : Own w B T size enc (.slice (some ⟨g, 0, none⟩) n cap) xs) (he : ∀ x, (enc x).length = size) (hn : xs.length = n) {k j : Nat} {x y : α} {vs : List Value} (hx : xs[k]? = some x) (hj : j + vs.length ≤ size) (hy : enc y = setL (enc x) j vs) :
  Own (w.setCells g (k * size + j) vs) B T size enc (.slice (some ⟨g, 0, none⟩) n cap) (xs.set k y) := by
 unfold Own at h ⊢
 rw [hn] at h
 have h1 := xDg vs (k * size + j) _ _ h
 rw [List.length_set, hn, ← xHc he xs k x hx hy hj]
 exact h1
theorem Own.there (h : Own w B T size enc (.slice (some ⟨g, 0, none⟩) n cap) xs) (he : ∀ x, (enc x).length = size) (hn : xs.length = n) {k j c : Nat} {x : α} (hx : xs[k]? = some x) (hj : j + c ≤ size) : w.there g (k * size + j) c := by
 intro i hi
 obtain ⟨h1, h2⟩ := h.getAt he hn hx (j := j + i) (by omega)
 rw [Nat.add_assoc]
 refine ⟨?_, h2⟩
 rw [h1, qzJ (by rw [he]; omega)]
 rfl
theorem Own.lt_ (h : Own w B T size enc (.slice (some ⟨g, 0, none⟩) n cap) xs) : B ≤ g ∧ g < w.heap.size := by
 rcases h.2 with ⟨h1, hl⟩ | ⟨g', cap', cur, hv', hg, hh, _⟩
 ·cases h1
 ·cases hv'
  exact ⟨hg, (Array.getElem?_eq_some_iff.1 hh).1⟩
theorem Own.segA {A : Option Addr} (h : Own w B T size enc (.slice A n cap) xs) (he : ∀ x, (enc x).length = size) : Seg w w.heap.size size enc A xs := by
 obtain ⟨A', c', e, _, h1⟩ := h.seg he
 cases e
 exact h1
theorem Own.ne_ {v : Value} (h : Own w B T size enc v xs) {p : Nat} (hp : p < B) : ∀ k, v.ownBlock = some k → k ≠ p := by
 intro k hk
 rcases h.2 with ⟨h1, _⟩ | ⟨g', cap', cur, hv', hg, _⟩
 ·rw [h1] at hk; cases hk
 ·rw [hv'] at hk; cases hk; show g' ≠ p; omega
end
theorem xBz {P : Program} {ops : Array Oper} {Q : Exit → Act → World → Prop} {a : Act} {w : World} {rest : List Oper} {o : Oper} (hgd : o.guard = none) (ty : TypeId) (x y : Operand) (ho : o.op = .store ty x y) (hd : o.dst = none) (b i : Nat) (cs : List Value)
  (hx : a.eval x = .pointer (some ⟨b, i, none⟩)) (hy : a.eval y = .agg cs.toArray) (ht : w.there b i cs.length) (hi : (P.info? ty).map (·.size) = some cs.length) (h1 : ∀ v ∈ cs, v.oneCell' = true)
  (h : wpList P ops Q rest a (w.setCells b i cs)) : wpList P ops Q (o :: rest) a w := by
 refine wpList_store_mid hgd ty x y ho b i cs.toArray hx hy (by simpa using ht) (by simpa using hi) (all_oneCell_toArray h1) ?_
 rw [hd, List.toList_toArray]
 exact h
theorem made_flat {α : Type} {enc : α → List Value} {size : Nat} (he : ∀ x, (enc x).length = size) (h0 : 0 < size) (y : α) (n : Nat) : (madeCells (enc y).toArray (n * size)).toList = (List.replicate n y).flatMap enc := by
 refine List.ext_getElem? fun j => ?_
 by_cases hj : j < n * size
 ·have hk : j / size < n := Nat.div_lt_of_lt_mul (by rwa [Nat.mul_comm])
  have e1 : j / size * size + j % size = j := by rw [Nat.mul_comm]; exact Nat.div_add_mod j size
  have hr : j % size < size := Nat.mod_lt _ h0
  have e2 := getElem?_flatMap (enc := enc) he (List.replicate n y) (j / size) (j % size) y (by simp [hk]) hr
  rw [e1] at e2
  rw [e2]
  have hr' : j % size < (enc y).length := by rw [he]; exact hr
  simp [madeCells, he, hj, qzJ hr']
 ·rw [List.getElem?_eq_none (by simp [size_madeCells]; omega), List.getElem?_eq_none (by rw [xDr he]; simp; omega)]
open Go.Sort
section
variable {P : Program} {ops : Array Oper} {md : Region.Mode} {C : World → Prop} {n : Nat}
def dirP (md : Region.Mode) (ops : Array Oper) (ps hs : List Nat) : Bool :=
 (List.range ops.size).all fun t => ps.contains t || hs.contains t || hs.all fun i => anc md ops ops.size t i
theorem dirP_not {ps hs : List Nat} {t i : Nat} {listed : Array Bool} (h : dirP md ops ps hs = true) (hp : ∀ p ∈ ps, listed.getD p false = true) (hcl : Cl md ops listed) (ht : hs.contains t = false) (hi : i ∈ hs) (hu : listed.getD i true = false) : t ∉ Region.ready md ops listed := by
 intro hr
 obtain ⟨hun, ot, hot, hall⟩ := mem_ready.1 hr
 have h1 := List.all_eq_true.1 h t (List.mem_range.2 (Array.getElem?_eq_some_iff.1 hot).1)
 have hnp : ps.contains t = false := by
  cases hc : ps.contains t with
  | false => rfl
  | true =>
   have h3 := hp t (by simpa using hc)
   rw [getD_both hun] at h3
   cases h3
 rw [hnp, ht, Bool.false_or, Bool.false_or] at h1
 have h2 := List.all_eq_true.1 h1 i hi
 have h3 := xC6 hcl ops.size t i ot hot hall h2
 rw [getD_both hu] at h3
 cases h3
theorem hdP_first {ps hs ts : List Nat} {L : Act → Prop} {i : Nat} {oi : Oper} {v : Value} (hi : ops[i]? = some oi) (hsel : ∀ (j : Nat) (o : Oper) cs b, ops[j]? = some o → o.op ≠ .select cs b) (hd : dirP md ops ps hs = true) (hin : i ∈ hs) :
  ∀ (f : Nat) (listed : Array Bool) (a : Act), (∀ p ∈ ps, listed.getD p false = true) → Cl md ops listed →
   (∀ j oj, ops[j]? = some oj → j ≠ i → listed.getD j true = false → (∀ e ∈ oj.after, Region.binds md e = true → e.on ≠ i) → oi.apart ops oj = true) →
   i ∈ Region.ready md ops listed → YieldsIn P ops C oi v a → hdQ P md ops C hs ts L f (listed.setIfInBounds i true) (a.put oi.dst v) → hdQ P md ops C hs ts L (f + 1) listed a := by
 intro f
 induction f with
 | zero =>
  intro listed a hp hcl _ hr hy H
  have hun := (mem_ready.1 hr).1
  refine ⟨fun h => (by rw [h] at hr; cases hr), fun j hj => ?_⟩
  have hjn : hs.contains j = true := by
   cases hc : hs.contains j with
   | true => rfl
   | false => exact absurd hj (dirP_not hd hp hcl hc hin hun)
  refine ⟨hjn, ?_⟩
  by_cases hji : j = i
  ·subst hji; exact hy.qOp hi H
  ·have h5 := List.all_eq_true.1 H.1.1 j (ready_mono hj hji)
   rw [hjn] at h5
   cases h5
 | succ f ih =>
  intro listed a hp hcl hfree hr hy H
  have hun := (mem_ready.1 hr).1
  refine ⟨fun h => (by rw [h] at hr; cases hr), fun j hj => ?_⟩
  have hjn : hs.contains j = true := by
   cases hc : hs.contains j with
   | true => rfl
   | false => exact absurd hj (dirP_not hd hp hcl hc hin hun)
  refine ⟨hjn, ?_⟩
  by_cases hji : j = i
  ·subst hji; exact hy.qOp hi H
  ·have h1 := (H.2 j (ready_mono hj hji)).2
   obtain ⟨hjun, oj, hoj, hall⟩ := mem_ready.1 hj
   have hnot : ∀ e ∈ oj.after, Region.binds md e = true → e.on ≠ i := fun e he hb heq => by
    have h3 := hall e he hb
    rw [heq, getD_both hun] at h3
    cases h3
   have h2 := qOp_put hoj (hfree j oj hoj hji hjun hnot) (fun cs b => hsel i oi cs b hi) (fun cs b => hsel j oj cs b hoj) hy h1
   refine qOp_mono (fun a' h3 => ih (listed.setIfInBounds j true) a' (fun p hpp => getD_set_true (hp p hpp)) (hcl.set hj) (fun k ok hk hki hku hno => hfree k ok hk hki ?_ hno) (ready_mono hr (Ne.symm hji)) h3.1 ?_) h2
   ·by_cases hjk : j = k
    ·subst hjk; exact hjun
    ·rwa [getD_set_ne true hjk] at hku
   ·rw [Array.setIfInBounds_comm _ _ hji]
    exact h3.2
theorem xI3 {ps hs ts : List Nat} {L : Act → Prop} (hsel : Region.noSelect ops = true) (hd : dirP md ops ps hs = true) : ∀ (ks : List Nat) (listed : Array Bool) (a : Act), (∀ p ∈ ps, listed.getD p false = true) → Cl md ops listed →
  xGp md ops hs ts ks listed = true → wpQuiet P ops C L (xAn ops ks) a → hdQ P md ops C hs ts L ks.length listed a
 | [], listed, a, _, _, hB, h => ⟨by simpa [xGp] using hB, h⟩
 | k :: ks, listed, a, hp, hcl, hB, h => by
  simp only [xGp, Bool.and_eq_true] at hB
  obtain ⟨⟨⟨⟨hsm, hk⟩, hr⟩, hf⟩, hB'⟩ := hB
  obtain ⟨o, h0⟩ := Option.isSome_iff_exists.1 hsm
  rw [xCd h0] at h
  have hr' : k ∈ Region.ready md ops listed := by simpa using hr
  have hst : qOp P ops C k (wpQuiet P ops C L (xAn ops ks)) a := by unfold qOp; simp only [h0]; exact h
  obtain ⟨v, hy, hK⟩ := yieldsIn_of_qOp h0 hst
  exact hdP_first h0 (Region.noSelect_spec hsel) hd (by simpa using hk) ks.length listed a hp hcl (Region.free_spec h0 hf) hr' hy (xI3 hsel hd ks _ _ (fun p hpp => getD_set_true (hp p hpp)) (hcl.set hr') hB' hK)
def plB (md : Region.Mode) (ops : Array Oper) : List Nat → Array Bool → Array Bool → Bool
 | [], listed, goal => decide (listed = goal)
 | k :: ks, listed, goal => (ops[k]?).isSome && pureG ops k && (Region.ready md ops listed).contains k && Region.free md ops listed k && plB md ops ks (listed.setIfInBounds k true) goal
theorem xGa {Q : Exit → Act → World → Prop} (hsel : Region.noSelect ops = true) (hQ : xCs Q) {w : World} (hw0 : C w) {rest : List Oper} {L : Act → Prop} {f : Nat} {goal : Array Bool}
  (hgo : ∀ a, Cl md ops goal → wpQuiet P ops C L rest a → wpAny P md ops Q f goal a w) :
  ∀ (ks : List Nat) (listed : Array Bool) (a : Act), Cl md ops listed → plB md ops ks listed goal = true → wpQuiet P ops C L (xAn ops ks ++ rest) a → wpAny P md ops Q (f + ks.length) listed a w
 | [], listed, a, hcl, hB, h => by
  obtain rfl : listed = goal := by simpa [plB] using hB
  exact hgo a hcl h
 | k :: ks, listed, a, hcl, hB, h => by
  simp only [plB, Bool.and_eq_true] at hB
  obtain ⟨⟨⟨⟨hsm, hp⟩, hr⟩, hf⟩, hB'⟩ := hB
  obtain ⟨o, h0⟩ := Option.isSome_iff_exists.1 hsm
  rw [xCd h0, qzE] at h
  have hr' : k ∈ Region.ready md ops listed := by simpa using hr
  unfold pureG at hp
  simp only [h0] at hp
  have hst : qOp P ops C k (wpQuiet P ops C L (xAn ops ks ++ rest)) a := by unfold qOp; simp only [h0]; exact h
  obtain ⟨v, hy, hK⟩ := yieldsIn_of_qOp h0 hst
  have hy' : Yields P ops o v a := by
   rcases hy with ⟨hw, hy⟩ | ⟨hw, hv⟩
   ·have hy1 := hy w hw0
    unfold Oper.quietAt at hy1
    rcases xFn (ρ := a.eval) hp with ⟨v', hv'⟩ | ⟨x, hx⟩
    ·rw [hv'] at hy1
     have hy2 : w = w ∧ v' = v := hy1
     exact .inl ⟨hw, fun w' => by rw [hv', hy2.2]; rfl⟩
    ·rw [hx] at hy1
     exact hy1.elim
   ·exact .inr ⟨hw, hv⟩
  rw [List.length_cons, ← Nat.add_assoc]
  exact wpAny_first h0 (Region.noSelect_spec hsel) (fun c a' w' hq => hQ c _ _ w' (by cases o.dst <;> rfl) hq) (f + ks.length) listed a w (Region.free_spec h0 hf) hr' hy' (xGa hsel hQ hw0 hgo ks _ _ (hcl.set hr') hB' hK)
def mixB (ops : Array Oper) (ps hs ts : List Nat) : Bool :=
 Region.noSelect ops && decide (ps.length + hs.length + ts.length = ops.size) && dirP .any ops ps hs && plB .any ops ps (Array.replicate ops.size false) (ps.foldl (fun l k => l.setIfInBounds k true) (Array.replicate ops.size false)) &&
  xGp .any ops hs ts hs (ps.foldl (fun l k => l.setIfInBounds k true) (Array.replicate ops.size false)) && ps.all fun p => (ps.foldl (fun l k => l.setIfInBounds k true) (Array.replicate ops.size false)).getD p false
theorem xBm {id : Nat} {Q : Exit → Act → World → Prop} {a : Act} {w : World} {l : List Oper} (ps hs ts : List Nat) (hm : P.follows .mixedOrders = true) (hB : mixB l.toArray ps hs ts = true) (hQ : xCs Q)
  (h : wpQuiet P l.toArray (fun w' => ∃ p : Regrown, w' = grow (redrawn w p.d) p.os) (fun a' => ∀ w', (∃ p : Regrown, w' = grow (redrawn w p.d) p.os) → wpList P l.toArray Q (xAn l.toArray ts) a' w') (xAn l.toArray ps ++ xAn l.toArray hs) a) :
  (Code.region id l.toArray true).wp P Q a w := by
 simp only [mixB, Bool.and_eq_true, decide_eq_true_eq] at hB
 obtain ⟨⟨⟨⟨⟨hsel, hn⟩, hd⟩, hps⟩, hlex⟩, hall⟩ := hB
 have hC : ∃ p : Regrown, { w with drawn := w.drawn + 1 } = grow (redrawn w p.d) p.os := ⟨⟨w.drawn + 1, #[]⟩, by rw [grow_empty]; rfl⟩
 refine wp_region_any hm ?_
 have := xGa (md := .any) (Q := Q) (f := hs.length + ts.length) (C := fun w' => ∃ p : Regrown, w' = grow (redrawn w p.d) p.os) hsel hQ hC (fun a' hcl h' =>
  xCu (Q' := Q) (g := ts.length) (fun listed a' w' hC hs hL => xBu (md := .any) (Q := Q) hsel hQ ts listed a' w' hs (hL w' hC)) _ _ _ _ hC
   (xI3 (md := .any) hsel hd hs _ a' (fun p hp => by simpa using List.all_eq_true.1 hall p hp) hcl hlex h')) ps (Array.replicate l.toArray.size false) a (fun j oj _ hl => by rw [getD_replicate_false] at hl; cases hl) hps h
 rwa [show hs.length + ts.length + ps.length = l.toArray.size by omega] at this
end
end Go.Proofs.YtffceokjeonpcaaGreatDoor
namespace Go.Proofs.YtffceokjeonpcaaGreatDoor
open Go.RowKit
theorem xAw {P : Program} {ops : Array Oper} {Q : Exit → Act → World → Prop} {a : Act} {w : World} (h : Q .normal a w) : wpList P ops Q [] a w := h
structure Kept (w w' : World) (p : Nat → Prop) : Prop where
 b : ∀ B, (∀ x, p x → B ≤ x) → B ≤ w.heap.size → Below B w w'
 k : ∀ x, x < w.heap.size → ¬ p x → w'.heap[x]? = w.heap[x]?
section
variable {w a w' : World} {p q : Nat → Prop}
theorem Kept.size (h : Kept w w' p) : w.heap.size ≤ w'.heap.size := (h.b 0 (fun _ _ => Nat.zero_le _) (Nat.zero_le _)).size
theorem Kept.trans (h : Kept w a p) (k : Kept a w' p) : Kept w w' p :=
 ⟨fun B hB hs => (h.b B hB hs).trans (k.b B hB (Nat.le_trans hs h.size)), fun x hx hp => (k.k x (Nat.lt_of_lt_of_le hx h.size) hp).trans (h.k x hx hp)⟩
theorem Kept.of_below (h : Below w.heap.size w w') : Kept w w' p := ⟨fun _ _ hs => h.mono hs, fun x hx _ => h.block x hx⟩
theorem Kept.of_upd {g : Nat} (h : Upd w w' g) (hp : p g) : Kept w w' p := ⟨fun _ hB _ => h.b _ (hB g hp), fun x _ hx => h.f x fun e => hx (e ▸ hp)⟩
theorem Kept.weak (h : Kept w w' p) (hpq : ∀ x, p x → q x) : Kept w w' q := ⟨fun B hB hs => h.b B (fun x hx => hB x (hpq x hx)) hs, fun x hx hq => h.k x hx fun e => hq (hpq x e)⟩
theorem Kept.refl (w : World) (p : Nat → Prop) : Kept w w p := Kept.of_below (Below.refl _ _)
theorem Kept.setCell {g o : Nat} {v : Value} (h : Kept w a p) (hp : p g) : Kept w (a.setCell ⟨g, o, none⟩ v) p := h.trans (Kept.of_upd ((Upd.refl a g).setCell o v) hp)
theorem Blk.kept {g : Nat} {t : TypeId} {cs : Array Value} (h : Blk w g t cs) (hk : Kept w w' p) (hg : ¬ p g) : Blk w' g t cs := (hk.k g h.lt hg).trans h
theorem Own.kept_ {α : Type} {B : Nat} {T : TypeId} {size : Nat} {enc : α → List Value} {g n cap : Nat} {xs : List α} (h : Own w B T size enc (.slice (some ⟨g, 0, none⟩) n cap) xs) (hk : Kept w w' p) (hg : ¬ p g) : Own w' B T size enc (.slice (some ⟨g, 0, none⟩) n cap) xs := by
 refine ⟨h.1, ?_⟩
 rcases h.2 with ⟨h2, _⟩ | ⟨g', cap', cur, hv, hg', hh, r⟩
 ·cases h2
 ·have e : g' = g := by injection hv with h1; injection h1 with h1; injection h1 with h1; exact h1.symm
  exact .inr ⟨g', cap', cur, hv, hg', by rw [hk.k g' (Array.getElem?_eq_some_iff.1 hh).1 (by rw [e]; exact hg)]; exact hh, r⟩
end
theorem Own.blkT {α : Type} {w : World} {B : Nat} {T : TypeId} {size : Nat} {enc : α → List Value} {g n cap : Nat} {xs : List α} (h : Own w B T size enc (.slice (some ⟨g, 0, none⟩) n cap) xs) : ∃ cs, Blk w g T cs := by
 rcases h.2 with ⟨h1, hl⟩ | ⟨g', cap', cur, hv', hg, hh, _⟩
 ·cases h1
 ·cases hv'
  exact ⟨_, hh⟩
structure Qn where
 h : Nat
 hc : Nat
 u : Nat
 uc : Nat
 m : Nat
 mc : Nat
abbrev Qn.q (q : Qn) : Qm := ⟨some ⟨q.h, 0, none⟩, q.hc, some ⟨q.u, 0, none⟩, q.uc, some ⟨q.m, 0, none⟩, q.mc⟩
abbrev wkA (c : Con) (m : Cm) (s : Sta) (q : Qn) : Array Value := #[.int .i64 c.par, .slice m.h c.hold.length m.hc, .slice m.u c.un.length m.uc, .slice m.a c.ac.length m.ac, .slice m.k c.cl.length m.kc, .int .i64 c.days, .slice m.o c.off.length m.oc,
 .int .i64 s.day, .slice (some ⟨q.h, 0, none⟩) s.hol.length q.hc, .slice (some ⟨q.u, 0, none⟩) s.used.length q.uc, .slice (some ⟨q.m, 0, none⟩) s.marks.length q.mc]
structure Wk (w0 w : World) (b : Nat) (c : Con) (m : Cm) (s : Sta) (q : Qn) : Prop where
 g : Blk w b 101 (wkA c m s q)
 oh : Own w w0.heap.size 3 1 eI (.slice (some ⟨q.h, 0, none⟩) s.hol.length q.hc) s.hol
 ou : Own w w0.heap.size 4 1 eB (.slice (some ⟨q.u, 0, none⟩) s.used.length q.uc) s.used
 om : Own w w0.heap.size 61 5 eM (.slice (some ⟨q.m, 0, none⟩) s.marks.length q.mc) s.marks
 hb : Below w0.heap.size w0 w
 lb : w0.heap.size ≤ b
 cn : Cont w0 c m
 lm : s.marks.length = c.cl.length
 nh : s.hol.length ≤ 1000000
 nu : s.used.length ≤ 1000000
section
variable {w0 w w' : World} {b : Nat} {c : Con} {m : Cm} {s : Sta} {q : Qn}
theorem xBc {w : World} {a b : Nat} {t t' : TypeId} {cs cs' : Array Value} (h : Blk w a t cs) (h' : Blk w b t' cs') (ht : t ≠ t') : a ≠ b := by
 rintro rfl
 have h2 := h.symm.trans h'
 injection h2 with h2
 injection h2 with _ h3 _
 exact ht h3
theorem Wk.bm (h : Wk w0 w b c m s q) : b ≠ q.m := by obtain ⟨_, hb⟩ := h.om.blkT; exact xBc h.g hb (by decide)
theorem Wk.bh (h : Wk w0 w b c m s q) : b ≠ q.h := by obtain ⟨_, hb⟩ := h.oh.blkT; exact xBc h.g hb (by decide)
theorem Wk.bu (h : Wk w0 w b c m s q) : b ≠ q.u := by obtain ⟨_, hb⟩ := h.ou.blkT; exact xBc h.g hb (by decide)
theorem Wk.hm (h : Wk w0 w b c m s q) : q.h ≠ q.m := by obtain ⟨_, ha⟩ := h.oh.blkT; obtain ⟨_, hb⟩ := h.om.blkT; exact xBc ha hb (by decide)
theorem Wk.um (h : Wk w0 w b c m s q) : q.u ≠ q.m := by obtain ⟨_, ha⟩ := h.ou.blkT; obtain ⟨_, hb⟩ := h.om.blkT; exact xBc ha hb (by decide)
theorem Wk.hu (h : Wk w0 w b c m s q) : q.h ≠ q.u := by obtain ⟨_, ha⟩ := h.oh.blkT; obtain ⟨_, hb⟩ := h.ou.blkT; exact xBc ha hb (by decide)
theorem Wk.then_ (h : Wk w0 w b c m s q) (hb : Below w.heap.size w w') : Wk w0 w' b c m s q :=
 ⟨h.g.then_ hb, h.oh.below hb, h.ou.below hb, h.om.below hb, xAa h.hb hb, h.lb, h.cn, h.lm, h.nh, h.nu⟩
theorem Wk.setM (h : Wk w0 w b c m s q) {i j : Nat} {x y : Mk} {v : Value} (hx : s.marks[i]? = some x) (hj : j < 5) (hy : eM y = (eM x).set j v) : Wk w0 (w.setCell ⟨q.m, i * 5 + j, none⟩ v) b c m { s with marks := s.marks.set i y } q := by
 have hbm := h.bm
 have hhm := h.hm
 have hum := h.um
 have e : (s.marks.set i y).length = s.marks.length := List.length_set
 refine ⟨?_, h.oh.setNe (by intro k hk; cases hk; exact hhm) _, h.ou.setNe (by intro k hk; cases hk; exact hum) _, ?_, h.hb.setCell (p := ⟨q.m, _, none⟩) h.om.lt_.1 _, h.lb, h.cn, e.trans h.lm, h.nh, h.nu⟩
 ·have h2 := h.g.far (p := ⟨q.m, i * 5 + j, none⟩) hbm v
  unfold wkA at h2 ⊢
  rw [show ({ s with marks := s.marks.set i y } : Sta).marks.length = s.marks.length from e]
  exact h2
 ·have h2 := h.om.setAt xBg rfl hx hj hy
  rw [show ({ s with marks := s.marks.set i y } : Sta).marks.length = s.marks.length from e]
  exact h2
theorem Wk.mark (h : Wk w0 w b c m s q) {i : Nat} {x : Mk} (hx : s.marks[i]? = some x) :
  (w.cell? ⟨q.m, i * 5, none⟩ = some (.int .i64 x.st) ∧ w.frozen? ⟨q.m, i * 5, none⟩ = false) ∧ (w.cell? ⟨q.m, i * 5 + 1, none⟩ = some (.int .i64 x.left) ∧ w.frozen? ⟨q.m, i * 5 + 1, none⟩ = false) ∧ (w.cell? ⟨q.m, i * 5 + 2, none⟩ = some (.int .i64 x.got) ∧ w.frozen? ⟨q.m, i * 5 + 2, none⟩ = false) ∧
   (w.cell? ⟨q.m, i * 5 + 3, none⟩ = some (.int .i64 x.brr) ∧ w.frozen? ⟨q.m, i * 5 + 3, none⟩ = false) ∧ (w.cell? ⟨q.m, i * 5 + 4, none⟩ = some (.bool x.pau) ∧ w.frozen? ⟨q.m, i * 5 + 4, none⟩ = false) :=
 ⟨h.om.getAt xBg rfl hx (j := 0) (by omega), h.om.getAt xBg rfl hx (j := 1) (by omega), h.om.getAt xBg rfl hx (j := 2) (by omega), h.om.getAt xBg rfl hx (j := 3) (by omega), h.om.getAt xBg rfl hx (j := 4) (by omega)⟩
theorem Wk.nm (h : Wk w0 w b c m s q) : s.marks.length ≤ 1000000 := by rw [h.lm]; exact h.cn.nk
end
abbrev Sta.wm (s : Sta) (ms : List Mk) : Sta := { s with marks := ms }
def Eff (w0 w : World) (b : Nat) (c : Con) (m : Cm) (s : Sta) (q : Qn) (i : Nat) (y : Mk) (e : Ending) (w' : World) : Prop := e = .returned (.tuple #[]) ∧ Wk w0 w' b c m { s with marks := s.marks.set i y } q ∧ Kept w w' (· = q.m)
theorem xA4 {t : TypeId} {size g n cap : Nat} {i : Nat} (hi : i < n) (ht : Tryz.prog.underlying t = some (.slice (Tryz.prog.elem t))) (hs : ∀ W : World, (sizeOf (Tryz.prog.elem t)).run Tryz.prog W = .ok size W) :
  ∀ W : World, (Instr.indexAt t (.slice (some ⟨g, 0, none⟩) n cap) (.int .i64 (i : Nat))).run Tryz.prog W = .ok (.pointer (some ⟨g, i * size, none⟩)) W := by
 intro W
 have h := xAp (t := t) (size := size) (cap := cap) (len := n) (A := some ⟨g, 0, none⟩) rfl hi ht hs W
 rwa [Nat.zero_add] at h
theorem xFo (w0 : World) (b : Nat) (c : Con) (m : Cm) (s : Sta) (q : Qn) (i : Nat) (x : Mk) (st : Int) (w : World) (hW : Wk w0 w b c m s q) (hx : s.marks[i]? = some x) :
  Calls Tryz.prog 96 #[.pointer (some ⟨b, 0, none⟩), .int .i64 (i : Nat), .int .i64 st] w fun e w' => Eff w0 w b c m s q i (x.endS st) e w' := by
 have him : i < s.marks.length := (qzM hx).1
 have hix := fun W => xA4 (t := 45) (size := 5) (g := q.m) (cap := q.mc) him (by kernel_rfl) (fun W => by kernel_rfl) W
 have HW := qzL hW
 have HX := qzL hx
 have nm := hW.nm
 have k10 : w.cell? ⟨b, 10, none⟩ = some (.slice (some ⟨q.m, 0, none⟩) s.marks.length q.mc) := hW.g.cell 10
 clear hW hx
 go_enter Tryz.func96, Tryz.ntmps96
 have rg0 := cR k10
 refine xBm [11, 17] [0, 1, 2, 3, 4, 5, 6, 7, 8, 9, 10, 12, 13, 14, 15, 16, 18] [19, 20, 21, 22, 23, 24, 25, 26, 27] (by kernel_rfl) (by kernel_rfl) pO ?_
 simp only [xAn, qzA, qzB, qzC, qzD, qzE, qzF]
 repeat (go_big_quiet_step (skip))
 refine wpQuiet_nil ?_
 intro X hw2
 have hbX := xAj hw2
 clear hw2 rg0
 have hWX := HW.out.then_ hbX
 obtain ⟨⟨m0, f0⟩, ⟨m1, f1⟩, ⟨m2, f2⟩, ⟨m3, f3⟩, ⟨m4, f4⟩⟩ := hWX.mark HX.out
 have HX2 := qzL hWX
 clear hWX
 go_wp2
 go_end0
 refine ⟨rfl, ?_, ?_⟩
 ·have h1 := HX2.out.setM (j := 0) (y := { x with st := st }) (v := .int .i64 st) HX.out (by omega) rfl
  have h2 := h1.setM (i := i) (j := 1) (x := { x with st := st }) (y := { x with st := st, left := 0 }) (v := .int .i64 0) (by simp [him]) (by omega) rfl
  have h3 := h2.setM (i := i) (j := 4) (x := { x with st := st, left := 0 }) (y := x.endS st) (v := .bool false) (by simp [him]) (by omega) rfl
  simpa using h3
 ·exact (((Kept.of_below (p := (· = q.m)) hbX).setCell rfl).setCell rfl).setCell rfl
section
variable {w0 w w' : World} {b : Nat} {c : Con} {m : Cm} {s : Sta} {q : Qn}
theorem set_set {i : Nat} {x y : Mk} (l : List Mk) : (l.set i x).set i y = l.set i y := by simp
theorem Wk.cont (h : Wk w0 w b c m s q) : Cont w c m := h.cn.then_ h.hb
theorem Wk.km (h : Wk w0 w b c m s q) {i : Nat} {x : Mk} (hx : s.marks[i]? = some x) : ∃ k, m.ks[i]? = some k ∧ c.cl[i]? = some k.k := by
 have hi : i < c.cl.length := by rw [← h.lm]; exact (qzM hx).1
 obtain ⟨k, hk⟩ : ∃ k, c.cl[i]? = some k := ⟨_, qzJ hi⟩
 obtain ⟨kx, h1, h2⟩ := xC3 h.cn.e hk
 exact ⟨kx, h1, by rw [h2]; exact hk⟩
theorem Eff.of_end {i : Nat} {x y : Mk} {e : Ending} (hk : Kept w w' (· = q.m)) {ew : World} (h : Eff w0 w' b c m { s with marks := s.marks.set i x } q i y e ew) : Eff w0 w b c m s q i y e ew := by
 obtain ⟨h1, h2, h3⟩ := h
 refine ⟨h1, ?_, hk.trans h3⟩
 simpa using h2
end
theorem xDc {α : Type} {l : List α} {i : Nat} {x : α} (h : l[i]? = some x) : l.set i x = l := by
 refine List.ext_getElem? fun j => ?_
 by_cases e : i = j
 ·subst e; rw [List.getElem?_set_self (qzM h).1, h]
 ·rw [List.getElem?_set_ne e]
theorem xE5 (w0 : World) (b : Nat) (c : Con) (m : Cm) (s : Sta) (q : Qn) (i : Nat) (x : Mk) (w : World) (hW : Wk w0 w b c m s q) (hx : s.marks[i]? = some x) :
  Calls Tryz.prog 66 #[.pointer (some ⟨b, 0, none⟩), .int .i64 (i : Nat)] w fun e w' => Eff w0 w b c m s q i (x.endS 3) e w' := by
 have HE := qzL (xFo w0 b c m s q i x 3 w hW hx)
 clear hW hx
 go_enter Tryz.func66, Tryz.ntmps66
 go_wp2_with (go_at_call 96; (with_reducible refine HE.out.mono ?_); rintro e w1 ⟨rfl, h1, h2⟩)
 go_end0
 exact ⟨rfl, h1, h2⟩
theorem xEn (w0 : World) (b : Nat) (c : Con) (m : Cm) (s : Sta) (q : Qn) (i : Nat) (x : Mk) (w : World) (hW : Wk w0 w b c m s q) (hx : s.marks[i]? = some x) :
  Calls Tryz.prog 67 #[.pointer (some ⟨b, 0, none⟩), .int .i64 (i : Nat)] w fun e w' => Eff w0 w b c m s q i (x.endS 5) e w' := by
 have HE := qzL (xFo w0 b c m s q i x 5 w hW hx)
 clear hW hx
 go_enter Tryz.func67, Tryz.ntmps67
 go_wp2_with (go_at_call 96; (with_reducible refine HE.out.mono ?_); rintro e w1 ⟨rfl, h1, h2⟩)
 go_end0
 exact ⟨rfl, h1, h2⟩
theorem xIf (w0 : World) (b : Nat) (c : Con) (m : Cm) (s : Sta) (q : Qn) (i : Nat) (x : Mk) (w : World) (hW : Wk w0 w b c m s q) (hx : s.marks[i]? = some x) :
  Calls Tryz.prog 71 #[.pointer (some ⟨b, 0, none⟩), .int .i64 (i : Nat)] w fun e w' => Eff w0 w b c m s q i (if x.pau then x else x.endS 4) e w' := by
 have him : i < s.marks.length := (qzM hx).1
 have hix := fun W => xA4 (t := 45) (size := 5) (g := q.m) (cap := q.mc) him (by kernel_rfl) (fun W => by kernel_rfl) W
 have nm := hW.nm
 have k10 : w.cell? ⟨b, 10, none⟩ = some (.slice (some ⟨q.m, 0, none⟩) s.marks.length q.mc) := hW.g.cell 10
 obtain ⟨⟨m0, f0⟩, ⟨m1, f1⟩, ⟨m2, f2⟩, ⟨m3, f3⟩, ⟨m4, f4⟩⟩ := hW.mark hx
 have HE := qzL (xFo w0 b c m s q i x 4 w hW hx)
 have HS : Hid (Wk w0 w b c m { s with marks := s.marks.set i x } q) := by
  unfold Hid
  rw [show s.marks.set i x = s.marks from xDc hx]
  exact hW
 clear hW hx
 cases hp : x.pau with
 | true =>
  rw [hp] at m4
  go_enter Tryz.func71, Tryz.ntmps71
  go_wp2
  go_end0
  exact ⟨rfl, HS.out, Kept.refl _ _⟩
 | false =>
  rw [hp] at m4
  go_enter Tryz.func71, Tryz.ntmps71
  go_wp2_with (go_at_call 96; (with_reducible refine HE.out.mono ?_); rintro e w1 ⟨rfl, h1, h2⟩)
  go_end0
  exact ⟨rfl, h1, h2⟩
theorem xIu (w0 : World) (b : Nat) (c : Con) (m : Cm) (s : Sta) (q : Qn) (i : Nat) (x : Mk) (k : Cla) (w : World) (hW : Wk w0 w b c m s q) (hx : s.marks[i]? = some x) (hk : c.cl[i]? = some k) (hg : 0 ≤ x.got ∧ x.got ≤ 9) :
  Calls Tryz.prog 70 #[.pointer (some ⟨b, 0, none⟩), .int .i64 (i : Nat)] w fun e w' => Eff w0 w b c m s q i (if x.got + 1 = k.need then { x with got := x.got + 1 }.endS 3 else { x with got := x.got + 1 }) e w' := by
 have him : i < s.marks.length := (qzM hx).1
 have hik : i < c.cl.length := (qzM hk).1
 have hix := fun W => xA4 (t := 45) (size := 5) (g := q.m) (cap := q.mc) him (by kernel_rfl) (fun W => by kernel_rfl) W
 have nm := hW.nm
 have nk := hW.cn.nk
 obtain ⟨kx, hkx, hkk⟩ := xC3 hW.cn.e hk
 have k10 : w.cell? ⟨b, 10, none⟩ = some (.slice (some ⟨q.m, 0, none⟩) s.marks.length q.mc) := hW.g.cell 10
 obtain ⟨⟨m0, f0⟩, ⟨m1, f1⟩, ⟨m2, f2⟩, ⟨m3, f3⟩, ⟨m4, f4⟩⟩ := hW.mark hx
 have HW := qzL hW
 have HX := qzL hx
 have HKX := qzL hkx
 have HKK := qzL hkk
 clear hW hx hk hkx hkk
 obtain ⟨y, hy⟩ : ∃ y, (if x.got + 1 = k.need then ({ x with got := x.got + 1 } : Mk).endS 3 else { x with got := x.got + 1 }) = y := ⟨_, rfl⟩
 rw [hy]
 have HY := qzL hy
 clear hy
 go_enter Tryz.func70, Tryz.ntmps70
 go_upto_region 1 with (fail)
 refine xAi ?_
 intro Z hZ
 have hZ2 : Hid (Wk w0 Z b c m { s with marks := s.marks.set i { x with got := x.got + 1 } } q) := by
  unfold Hid; rw [hZ]; exact HW.out.setM (j := 2) (y := { x with got := x.got + 1 }) HX.out (by omega) rfl
 have hZ3 : Hid (Kept w Z (· = q.m)) := by
  unfold Hid; rw [hZ]; exact (Kept.refl w _).setCell rfl
 clear hZ k10 m0 f0 m1 f1 m2 f2 m3 f3 m4 f4
 have hx2 : (s.marks.set i { x with got := x.got + 1 })[i]? = some { x with got := x.got + 1 } := List.getElem?_set_self him
 have hml : (s.marks.set i { x with got := x.got + 1 }).length = s.marks.length := List.length_set
 have k10 : Z.cell? ⟨b, 10, none⟩ = some (.slice (some ⟨q.m, 0, none⟩) s.marks.length q.mc) := by rw [← hml]; exact hZ2.out.g.cell 10
 have k4 : Z.cell? ⟨b, 4, none⟩ = some (.slice m.k c.cl.length m.kc) := hZ2.out.g.cell 4
 have m2 : Z.cell? ⟨q.m, i * 5 + 2, none⟩ = some (.int .i64 (x.got + 1)) := (hZ2.out.mark hx2).2.2.1.1
 obtain ⟨b0, o0, eA0, hb0, hc0⟩ := xAv hZ2.out.cont.k HKX.out
 have hix0 := fun W => xAp (t := 25) (size := 16) (cap := m.kc) eA0 hik (by kernel_rfl) (fun W => by kernel_rfl) W
 have c3 : Z.cell? ⟨b0, o0 + i * 16 + 3, none⟩ = some (.int .i64 k.need) := by rw [← HKK.out]; exact hc0 3 _ rfl
 have HX2 := qzL hx2
 clear hc0 eA0 hx2 hml
 have rg0 := cR k10
 have rg1 := cR k4
 have rg2 := cR m2
 have rg3 := cR c3
 refine xAg [0, 1, 2, 3, 4, 5, 6, 7, 8, 9, 10, 11, 12, 13, 14, 15, 16, 17, 18] [] (by kernel_rfl) (by kernel_rfl) pO ?_
 simp only [xAn, qzA, qzB, qzC, qzD, qzE, qzF]
 repeat (go_big_quiet_step (skip))
 refine wpQuiet_nil ?_
 intro Y hw2
 have hbY := xAj hw2
 clear hw2 rg0 rg1 rg2 rg3
 refine wpList_nil ?_
 have HE := qzL (xFo w0 b c m { s with marks := s.marks.set i { x with got := x.got + 1 } } q i _ 3 Y (hZ2.out.then_ hbY) HX2.out)
 cases he : (x.got + 1 == k.need) with
 | true =>
  have he2 : x.got + 1 = k.need := by simpa using he
  have HI : Hid (y = ({ x with got := x.got + 1 } : Mk).endS 3) := by unfold Hid; rw [← HY.out, if_pos he2]
  clear he2
  go_wp2_with (go_at_call 96; (with_reducible refine HE.out.mono ?_); rintro e w1 h1; obtain ⟨rfl, h2⟩ := Eff.of_end (hZ3.out.trans (Kept.of_below hbY)) h1)
  go_end0
  rw [HI.out]
  exact ⟨rfl, h2⟩
 | false =>
  have he2 : ¬ (x.got + 1 = k.need) := by simpa using he
  have HI : Hid (y = { x with got := x.got + 1 }) := by unfold Hid; rw [← HY.out, if_neg he2]
  clear he2
  go_wp2
  go_end0
  rw [HI.out]
  exact ⟨rfl, hZ2.out.then_ hbY, hZ3.out.trans (Kept.of_below hbY)⟩
theorem xF2 (w0 : World) (b : Nat) (c : Con) (m : Cm) (s : Sta) (q : Qn) (i : Nat) (x : Mk) (k : Cla) (w : World) (hW : Wk w0 w b c m s q) (hx : s.marks[i]? = some x) (hk : c.cl[i]? = some k) :
  Calls Tryz.prog 65 #[.pointer (some ⟨b, 0, none⟩), .int .i64 (i : Nat)] w fun e w' => Eff w0 w b c m s q i (if x.st = 1 ∧ 0 < k.grace then { x with st := 2, left := k.grace } else x.endS 4) e w' := by
 have him : i < s.marks.length := (qzM hx).1
 have hik : i < c.cl.length := (qzM hk).1
 have hix := fun W => xA4 (t := 45) (size := 5) (g := q.m) (cap := q.mc) him (by kernel_rfl) (fun W => by kernel_rfl) W
 have nm := hW.nm
 have nk := hW.cn.nk
 obtain ⟨kx, hkx, hkk⟩ := xC3 hW.cn.e hk
 have k10 : w.cell? ⟨b, 10, none⟩ = some (.slice (some ⟨q.m, 0, none⟩) s.marks.length q.mc) := hW.g.cell 10
 have k4 : w.cell? ⟨b, 4, none⟩ = some (.slice m.k c.cl.length m.kc) := hW.g.cell 4
 obtain ⟨⟨m0, f0⟩, ⟨m1, f1⟩, ⟨m2, f2⟩, ⟨m3, f3⟩, ⟨m4, f4⟩⟩ := hW.mark hx
 obtain ⟨b0, o0, eA0, hb0, hc0⟩ := xAv hW.cont.k hkx
 have hix0 := fun W => xAp (t := 25) (size := 16) (cap := m.kc) eA0 hik (by kernel_rfl) (fun W => by kernel_rfl) W
 have c6 : w.cell? ⟨b0, o0 + i * 16 + 6, none⟩ = some (.int .i64 k.grace) := by rw [← hkk]; exact hc0 6 _ rfl
 have HW := qzL hW
 have HX := qzL hx
 have HE := qzL (xFo w0 b c m s q i x 4 w hW hx)
 clear hW hx hk hkx hkk hc0 eA0
 cases t1 : (x.st == 1) with
 | false =>
  have h1 : ¬ (x.st = 1 ∧ 0 < k.grace) := fun h => by simp [h.1] at t1
  rw [if_neg h1]
  clear h1
  go_enter Tryz.func65, Tryz.ntmps65
  go_wp2_with (go_at_call 96; (with_reducible refine HE.out.mono ?_); rintro e w1 ⟨rfl, h1, h2⟩)
  go_end0
  exact ⟨rfl, h1, h2⟩
 | true =>
 by_cases hg : 0 < k.grace
 ·have t2 := qzO hg
  have h1 : x.st = 1 ∧ 0 < k.grace := ⟨by simpa using t1, hg⟩
  rw [if_pos h1]
  clear h1 hg
  go_enter Tryz.func65, Tryz.ntmps65
  go_upto_region 1 with (fail)
  have rg0 := cR k10
  have rg1 := cR k4
  have rg2 := cR m0
  have rg3 := cR c6
  refine xBm [11] [0, 1, 2, 3, 4, 5, 6, 7, 8, 9, 10, 12, 13, 14, 15, 16, 17, 18, 19, 20] [21, 22, 23, 24, 25, 26] (by kernel_rfl) (by kernel_rfl) pO ?_
  simp only [xAn, qzA, qzB, qzC, qzD, qzE, qzF]
  repeat (go_big_quiet_step (skip))
  refine wpQuiet_nil ?_
  intro X hw2
  have hbX := xAj hw2
  clear hw2 rg0 rg1 rg2 rg3
  obtain ⟨⟨n0, g0⟩, ⟨n1, g1⟩, _⟩ := (HW.out.then_ hbX).mark HX.out
  have HX2 := qzL (HW.out.then_ hbX)
  go_wp2
  go_end0
  refine ⟨rfl, ?_, ?_⟩
  ·have h1 := HX2.out.setM (j := 0) (y := { x with st := 2 }) (v := .int .i64 2) HX.out (by omega) rfl
   have h2 := h1.setM (i := i) (j := 1) (x := { x with st := 2 }) (y := { x with st := 2, left := k.grace }) (v := .int .i64 k.grace) (by simp [him]) (by omega) rfl
   simpa using h2
  ·exact ((Kept.of_below (p := (· = q.m)) hbX).setCell rfl).setCell rfl
 ·have t2 := qzN hg
  have h1 : ¬ (x.st = 1 ∧ 0 < k.grace) := fun h => hg h.2
  rw [if_neg h1]
  clear h1 hg
  go_enter Tryz.func65, Tryz.ntmps65
  go_wp2_with (go_at_call 96; (with_reducible refine HE.out.mono ?_); rintro e w1 ⟨rfl, h1, h2⟩)
  go_end0
  exact ⟨rfl, h1, h2⟩
theorem xBt {P : Program} {ops : Array Oper} {rest : List Oper} {o1 o2 oa o3 : Oper} {a : Act} {w : World} {Q : Exit → Act → World → Prop} {n : Nat} (ty : TypeId) (E : ElT P ty n) (x y : Operand) (d1 d2 d3 : Tmp)
  (g1 : o1.guard = none) (g2 : o2.guard = none) (ga : oa.guard = none) (g3 : o3.guard = none)
  (ho1 : o1.op = .load ty x) (hd1 : o1.dst = some d1) (ho2 : o2.op = .alloc ty) (hd2 : o2.dst = some d2) (hoa : oa.op = .assign y) (hda : oa.dst = some d3) (ho3 : o3.op = .store ty (.tmp d2) (.tmp d1)) (hd3 : o3.dst = none)
  (b o : Nat) (hx : a.eval x = .pointer (some ⟨b, o, none⟩)) (cs : List Value) (hn : cs.length = n) (hc : w.rangeAt b o cs) (h1 : ∀ v ∈ cs, v.oneCell' = true) (hne : d1 ≠ d2) (hne1 : d3 ≠ d1) (hne2 : d3 ≠ d2) (s1 : d1 < a.tmps.size) (s2 : d2 < a.tmps.size)
  (u : Value) (hyu : ((a.put (some d1) (.agg cs.toArray)).put (some d2) (.pointer (some ⟨w.heap.size, 0, none⟩))).eval y = u)
  (h : wpList P ops Q rest (((a.put (some d1) (.agg cs.toArray)).put (some d2) (.pointer (some ⟨w.heap.size, 0, none⟩))).put (some d3) u) (w.alloc (.cells cs.toArray ty))) : wpList P ops Q (o1 :: o2 :: oa :: o3 :: rest) a w := by
 subst hn hyu
 obtain ⟨⟨fs, hu⟩, hi, v, hz, hzr⟩ := E
 refine wpList_load_mid g1 ty x ho1 b o hx cs _ hc hu rfl hi ?_
 rw [hd1]
 refine wpList_plain g2 fun K hK => ?_
 have hrun : (execOp (Act.eval (a.put (some d1) (.agg cs.toArray))) o2).run P w = .ok (.value (.pointer (some ⟨w.heap.size, 0, none⟩))) (w.alloc (.cells v.cells ty)) := by
  unfold execOp
  simp only [ho2, Instr.alloc, Sem.run_bind, hzr, Result.andThen_ok, newVar, newRow]
  rfl
 unfold Oper.wp
 rw [hrun, Oper.upon_value]
 refine hK _ _ ?_
 rw [hd2]
 refine wpList_plain ga fun K hK => ?_
 unfold Oper.wp execOp
 simp only [hoa]
 refine hK _ _ ?_
 rw [hda]
 refine wpList_store_mid g3 ty _ _ ho3 w.heap.size 0 cs.toArray ?_ ?_ ?_ (by simpa using hi) (all_oneCell_toArray h1) ?_
 ·simp [Act.eval, Act.put, Array.getElem?_setIfInBounds, hne2, s2]
 ·simp [Act.eval, Act.put, Array.getElem?_setIfInBounds, hne.symm, hne1, s1]
 ·intro j hj
  simp only [Nat.zero_add, List.size_toArray] at hj ⊢
  rw [World.cell?_alloc_at _ _ _ _ rfl, World.frozen?_alloc_at _ _ _ _ rfl]
  simp [hz, hj]
 ·rw [hd3]
  simp only
  rw [xC9 w ty _ cs hz]
  exact h
def isZ : Option Value → Bool
 | some (.int _ z) => z == 0
 | _ => false
def cntI (w : World) (g n : Nat) : Nat := (List.range n).countP fun i => isZ (w.cell? ⟨g, i * 5, none⟩)
def boolN : Value → Nat
 | .bool true => 1
 | _ => 0
theorem xF3 {α : Type} (p : α → Bool) : ∀ (l : List α) (f : Nat → Bool), (∀ i x, l[i]? = some x → f i = p x) → (List.range l.length).countP f = l.countP p
 | [], _, _ => rfl
 | a :: l, f, h => by
  have ih := xF3 p l (fun i => f (i + 1)) (fun i x hx => h (i + 1) x (by simpa using hx))
  have h0 := h 0 a rfl
  rw [List.length_cons, List.range_succ_eq_map, List.countP_cons, List.countP_map, List.countP_cons, h0]
  congr 1
theorem cntI_eq {w0 w : World} {b : Nat} {c : Con} {m : Cm} {s : Sta} {q : Qn} (h : Wk w0 w b c m s q) : cntI w q.m c.cl.length = xB9 s.marks := by
 unfold cntI xB9
 rw [← h.lm]
 exact xF3 _ s.marks _ fun i x hx => by
  rw [(h.mark hx).1.1]
  rfl
theorem rdy_at {c : Con} {ms : List Mk} {i : Nat} {k : Cla} {x : Mk} (hk : c.cl[i]? = some k) (hx : ms[i]? = some x) : rdy c ms i = (x.st == 0 && !k.waived && k.start.all fun y => xA2 y.2 (stOf ms y.1)) := by
 unfold rdy
 rw [hk, hx]
theorem ok_cond {c : Con} (h : c.ok = true) {k : Cla} (hk : k ∈ c.cl) : ∀ y ∈ k.start, 0 ≤ y.1 ∧ y.1 < (c.cl.length : Int) ∧ 1 ≤ y.2 ∧ y.2 ≤ 4 := by
 intro y hy
 unfold Con.ok at h
 simp only [Bool.and_eq_true] at h
 obtain ⟨i, hi⟩ := List.getElem?_of_mem hk
 have h2 := (c.clsOk_iff c.cl 0).1 h.2 i k hi
 unfold Con.claOk at h2
 simp only [Bool.and_eq_true, List.all_eq_true] at h2
 have h3 := h2.1.1.2 y hy
 unfold xCi at h3
 simp only [Bool.and_eq_true, decide_eq_true_eq] at h3
 have := xB3.1 h3.1.1.1
 exact ⟨this.1, this.2, h3.1.2, h3.2⟩
theorem Own.capLe {α : Type} {w : World} {B : Nat} {T : TypeId} {size : Nat} {enc : α → List Value} {g n cap : Nat} {xs : List α} (h : Own w B T size enc (.slice (some ⟨g, 0, none⟩) n cap) xs) : xs.length ≤ cap := by
 rcases h.2 with ⟨h1, _⟩ | ⟨g', cap', cur, hv, hg, hh, hc, _⟩
 ·cases h1
 ·cases hv
  exact hc
section
variable {w0 w w' : World} {b : Nat} {c : Con} {m : Cm} {s : Sta} {q : Qn}
theorem Wk.stm (h : Wk w0 w b c m s q) : Stm w s q.q :=
 ⟨h.oh.segA xAz, h.ou.segA xBj, h.om.segA xBg, h.nh, h.nu, h.nm, h.oh.capLe, h.ou.capLe, h.om.capLe⟩
theorem Wk.setWhole (h : Wk w0 w b c m s q) {i : Nat} {x : Mk} (y : Mk) (hx : s.marks[i]? = some x) : Wk w0 (w.setCells q.m (i * 5) (mL y)) b c m { s with marks := s.marks.set i y } q := by
 have e : (s.marks.set i y).length = s.marks.length := List.length_set
 have u : Upd w (w.setCells q.m (i * 5) (mL y)) q.m := Upd.setCells _ _ _ (Upd.refl _ _)
 refine ⟨?_, h.oh.upd u (by intro k hk; cases hk; exact h.hm), h.ou.upd u (by intro k hk; cases hk; exact h.um), ?_, h.hb.trans (u.b _ h.om.lt_.1), h.lb, h.cn, e.trans h.lm, h.nh, h.nu⟩
 ·have h2 := h.g.upd u h.bm
  unfold wkA at h2 ⊢
  rw [show ({ s with marks := s.marks.set i y } : Sta).marks.length = s.marks.length from e]
  exact h2
 ·have h2 := h.om.setPart xBg rfl (k := i) (j := 0) (y := y) (vs := mL y) hx (by simp) rfl
  rw [show ({ s with marks := s.marks.set i y } : Sta).marks.length = s.marks.length from e]
  exact h2
end
structure SI (w0 w WR : World) (b : Nat) (c : Con) (m : Cm) (s : Sta) (q : Qn) (SA : List Mk) (again : Bool) (ms : List Mk) : Prop where
 wk : Wk w0 WR b c m { s with marks := ms } q
 k : Kept w WR (· = q.m)
 t : again = true → ∃ n, xB9 ms < n ∧ xEb c s.hol n ms = SA
 f : again = false → ms = SA
structure SJ (w0 w WR : World) (b : Nat) (c : Con) (m : Cm) (s : Sta) (q : Qn) (ms0 : List Mk) (i : Nat) (again : Bool) (ms : List Mk) : Prop where
 wk : Wk w0 WR b c m { s with marks := ms } q
 k : Kept w WR (· = q.m)
 e : (List.range i).foldl (xCg c s.hol) (ms0, false) = (ms, again)
theorem SJ.skip {w0 w WR WR' : World} {b : Nat} {c : Con} {m : Cm} {s : Sta} {q : Qn} {ms0 : List Mk} {i : Nat} {again : Bool} {ms : List Mk} (h : SJ w0 w WR b c m s q ms0 i again ms) (hb : Below WR.heap.size WR WR') (hr : rdy c ms i = false) : SJ w0 w WR' b c m s q ms0 (i + 1) again ms :=
 ⟨h.wk.then_ hb, h.k.trans (Kept.of_below hb), by rw [List.range_succ, List.foldl_append, h.e]; simp [xCg, hr]⟩
theorem SJ.set_ {w0 w WR WR' : World} {b : Nat} {c : Con} {m : Cm} {s : Sta} {q : Qn} {ms0 : List Mk} {i : Nat} {again : Bool} {ms : List Mk} {k : Cla} {x y : Mk} (h : SJ w0 w WR b c m s q ms0 i again ms) (hb : Below WR.heap.size WR WR') (hk : c.cl[i]? = some k) (hx : ms[i]? = some x) (hr : rdy c ms i = true) (hy : y = live k s.hol) :
  SJ w0 w (WR'.setCells q.m (i * 5) (mL y)) b c m s q ms0 (i + 1) true (ms.set i y) :=
 ⟨(h.wk.then_ hb).setWhole y hx, (h.k.trans (Kept.of_below hb)).trans (Kept.of_upd (Upd.setCells _ _ _ (Upd.refl _ _)) rfl), by rw [List.range_succ, List.foldl_append, h.e]; simp [xCg, hr, hk, hy]⟩
theorem xEc (w0 : World) (b : Nat) (c : Con) (m : Cm) (s : Sta) (q : Qn) (w : World) (hW : Wk w0 w b c m s q) (hok : c.ok = true) (hl : s.hol.length = c.hold.length) :
  Calls Tryz.prog 46 #[.pointer (some ⟨b, 0, none⟩)] w fun e w' => e = .returned (.tuple #[]) ∧ Wk w0 w' b c m { s with marks := xAs c s.hol s.marks } q ∧ Kept w w' (· = q.m) := by
 obtain ⟨SA, hSA⟩ : ∃ l, xAs c s.hol s.marks = l := ⟨_, rfl⟩
 rw [hSA]
 have h0 : Hid (SI w0 w w b c m s q SA true s.marks) := ⟨hW, Kept.refl _ _, fun _ => ⟨c.cl.length + 1, by have := xDq s.marks; rw [hW.lm] at this; omega, hSA⟩, fun h => by cases h⟩
 have nk := hW.cn.nk
 have nm := hW.nm
 have nh := hW.nh
 have HOK := qzL hok
 have HL := qzL hl
 clear hSA hW hok hl
 go_enter Tryz.func46, Tryz.ntmps46
 go_upto_region 1 with (fail)
 go_loopw [2] (fun y WR => ∃ (again : Bool) (ms : List Mk), y = .bool again ∧ Hid (SI w0 w WR b c m s q SA again ms)) (fun y WR => 2 * cntI WR q.m c.cl.length + boolN y)
 case atStart => exact ⟨true, s.marks, rfl, h0⟩
 case round =>
  obtain ⟨again, ms, rfl, hI⟩ := hrel
  clear h0
  cases again with
  | false =>
   have hz := qzL (hI.out.f rfl)
   have hw := qzL hI.out.wk
   have hk := qzL hI.out.k
   clear hI
   go_wp2
   go_end0
   rw [← hz.out]
   exact ⟨rfl, hw.out, hk.out⟩
  | true =>
   have k4 : wr.cell? ⟨b, 4, none⟩ = some (.slice m.k c.cl.length m.kc) := hI.out.wk.g.cell 4
   have hJ0 : Hid (SJ w0 w wr b c m s q ms 0 false ms) := ⟨hI.out.wk, hI.out.k, rfl⟩
   have hmeas : Hid (cntI wr q.m c.cl.length = xB9 ms) := cntI_eq hI.out.wk
   obtain ⟨wo, rfl⟩ : ∃ wo : World, wo = wr := ⟨_, rfl⟩
   go_upto_region 4 with (fail)
   clear k4
   go_loopw [13, 2] (fun y v WR => ∃ (i : Nat) (again : Bool) (ms' : List Mk), i ≤ c.cl.length ∧ y = .int .i64 i ∧ v = .bool again ∧ Hid (SJ w0 w WR b c m s q ms i again ms')) (fun y _ _ => 2000000 - (intOf y).toNat)
   case atStart => exact ⟨0, false, ms, by omega, rfl, rfl, hJ0⟩
   case round =>
    obtain ⟨i, again, ms', hi', rfl, rfl, hJ⟩ := hrel
    clear hJ0
    by_cases hlt : i < c.cl.length
    case neg =>
     have hin : i = c.cl.length := by omega
     have he := hJ.out.e
     rw [hin] at he
     have hp : pass c s.hol ms = (ms', again) := he
     obtain ⟨_, _, ⟨_, h4⟩, _⟩ := xFm c s.hol (List.range c.cl.length) ms false
     have hlt2 : again = true → xB9 ms' < xB9 ms := fun e => by
      have h5 := h4 (by rw [show (List.range c.cl.length).foldl (xCg c s.hol) (ms, false) = (ms', again) from he]; exact e)
      rw [show (List.range c.cl.length).foldl (xCg c s.hol) (ms, false) = (ms', again) from he] at h5
      rcases h5 with h5 | h5
      ·cases h5
      ·exact h5
     obtain ⟨n, hn, hst⟩ := hI.out.t rfl
     have hN : SI w0 w wr b c m s q SA again ms' := by
      refine ⟨hJ.out.wk, hJ.out.k, fun e => ?_, fun e => ?_⟩
      ·cases n with
       | zero => omega
       | succ n =>
        refine ⟨n, by have := hlt2 e; omega, ?_⟩
        rw [← hst]
        show _ = (if (pass c s.hol ms).2 then xEb c s.hol n (pass c s.hol ms).1 else (pass c s.hol ms).1)
        rw [hp, e]
        rfl
      ·cases n with
       | zero => omega
       | succ n =>
        rw [← hst]
        show _ = (if (pass c s.hol ms).2 then xEb c s.hol n (pass c s.hol ms).1 else (pass c s.hol ms).1)
        rw [hp, e]
        rfl
     have hmeas2 : Hid (2 * cntI wr q.m c.cl.length + boolN (.bool again) < 2 * cntI wo q.m c.cl.length + 1) := by
      unfold Hid
      rw [hmeas.out, cntI_eq hN.wk]
      have hle : xB9 ms' ≤ xB9 ms := by
       obtain ⟨_, _, _, h5⟩ := xFm c s.hol (List.range c.cl.length) ms false
       rw [show (List.range c.cl.length).foldl (xCg c s.hol) (ms, false) = (ms', again) from he] at h5
       exact h5
      cases again with
      | true => have := hlt2 rfl; show 2 * xB9 ms' + 1 < _; omega
      | false => show 2 * xB9 ms' + 0 < _; omega
     have HN := qzL hN
     have tl : decide ((i : Int) < (c.cl.length : Int)) = false := qzN (by omega)
     clear hN he hp h4 hlt2 hst hn hJ hI hin hmeas
     go_wp2
     go_roundw
     case rel => exact ⟨again, ms', rfl, HN⟩
     case measure => exact hmeas2.out
    obtain ⟨k, hk⟩ : ∃ k, c.cl[i]? = some k := ⟨_, qzJ hlt⟩
    obtain ⟨kx, hkx, hkk⟩ := xC3 hJ.out.wk.cn.e hk
    have hlm : ms'.length = c.cl.length := hJ.out.wk.lm
    obtain ⟨x, hx⟩ : ∃ x, ms'[i]? = some x := ⟨_, qzJ (by omega)⟩
    have HLM := qzL hlm
    have HK := qzL hk
    have HX := qzL hx
    have HKX := qzL hkx
    have hkv := xDa HOK.out (qzK hk)
    have HR := qzL (rdy_at hk hx)
    obtain ⟨b0, o0, eA0, hb0, hc0⟩ := xAv hJ.out.wk.cont.k hkx
    have hrg : wr.rangeAt b0 (o0 + i * 16) (kL kx) := fun j v hv => hc0 j v hv
    have hix := fun W => xAp (t := 25) (size := 16) (cap := m.kc) eA0 hlt (by kernel_rfl) (fun W => by kernel_rfl) W
    have tl : decide ((i : Int) < (c.cl.length : Int)) = true := qzO (by omega)
    have nm' : ms'.length ≤ 1000000 := by omega
    have hlt' : i < ms'.length := by omega
    clear hk hx hkx hc0 eA0 hlm
    go_upto_region 6 with (refine xBt 95 el16 _ _ _ _ _ rfl rfl rfl rfl rfl rfl rfl rfl rfl rfl rfl rfl b0 _ rfl (kL kx) rfl hrg (by simp [Value.oneCell']) (by decide) (by decide) (by decide) (by simp) (by simp) (.int .i64 (i : Nat)) rfl ?_; simp only [Act.put, qzG, qzH, qzI])
    refine xAi ?_
    intro Z hZ
    have gk : Blk Z wr.heap.size 95 (kL kx).toArray := by rw [hZ]; exact Blk.new _ _ _
    have HZ : Hid (Below wr.heap.size wr Z) := by rw [hZ]; exact wa1 _ _
    obtain ⟨bk, ebk⟩ : ∃ b, wr.heap.size = b := ⟨_, rfl⟩
    have HEK := qzL ebk
    rw [ebk] at gk ⊢
    have hJZ := qzL (hJ.out.wk.then_ HZ.out)
    clear hZ hrg hix ebk
    have HRD : Hid (∀ W, Below Z.heap.size Z W → Calls Tryz.prog 63 #[.agg #[.int .i64 c.par, .slice m.h c.hold.length m.hc, .slice m.u c.un.length m.uc, .slice m.a c.ac.length m.ac, .slice m.k c.cl.length m.kc, .int .i64 c.days, .slice m.o c.off.length m.oc],
      .agg #[.int .i64 s.day, .slice (some ⟨q.h, 0, none⟩) s.hol.length q.hc, .slice (some ⟨q.u, 0, none⟩) s.used.length q.uc, .slice (some ⟨q.m, 0, none⟩) ms'.length q.mc], .int .i64 (i : Nat)] W fun e w' => e = .returned (.bool (rdy c ms' i)) ∧ Below W.heap.size W w') := fun W hb =>
     xHe c m { s with marks := ms' } q.q i x kx W ((hJZ.out.then_ hb).cont) ((hJZ.out.then_ hb).stm) HX.out HKX.out
      (by rw [hkk]; rw [show ({ s with marks := ms' } : Sta).marks.length = c.cl.length from HLM.out]; exact ok_cond HOK.out (qzK HK.out)) (rdy c ms' i) (by rw [HR.out, hkk])
    have gz := hJZ.out.g
    obtain ⟨k0, k1, k2, k3, k4, k5, k6⟩ := coC (c := c) (m := m) gz rfl
    have k7 : Z.cell? ⟨b, 7, none⟩ = some (.int .i64 s.day) := gz.cell 7
    have k8 : Z.cell? ⟨b, 8, none⟩ = some (.slice (some ⟨q.h, 0, none⟩) s.hol.length q.hc) := gz.cell 8
    have k9 : Z.cell? ⟨b, 9, none⟩ = some (.slice (some ⟨q.u, 0, none⟩) s.used.length q.uc) := gz.cell 9
    have k10 : Z.cell? ⟨b, 10, none⟩ = some (.slice (some ⟨q.m, 0, none⟩) ms'.length q.mc) := gz.cell 10
    clear gz
    obtain ⟨R, hR⟩ : ∃ r, rdy c ms' i = r := ⟨_, rfl⟩
    rw [hR] at HRD
    have HRR := qzL hR
    clear hR HR
    have rg0 := cR k0
    have rg1 := cR k1
    have rg2 := cR k2
    have rg3 := cR k3
    have rg4 := cR k4
    have rg5 := cR k5
    have rg6 := cR k6
    have rg7 := cR k7
    have rg8 := cR k8
    have rg9 := cR k9
    have rg10 := cR k10
    refine xAg [0, 1, 2, 3, 4, 5, 6, 7, 8, 9, 10] [] (by kernel_rfl) (by kernel_rfl) pO ?_
    simp only [xAn, qzA, qzB, qzC, qzD, qzE, qzF]
    repeat (go_big_quiet_step ((go_at_call 63; with_reducible exact xAq (fun W' hW' => HRD.out W' hW') _ _)))
    refine wpQuiet_nil ?_
    intro Y hw2
    have hbY := xAj hw2
    clear hw2 rg0 rg1 rg2 rg3 rg4 rg5 rg6 rg7 rg8 rg9 rg10
    refine xAw ?_
    have HY : Hid (Below wr.heap.size wr Y) := xAa HZ.out hbY
    have gY := gk.then_ hbY
    have hJY := qzL (hJZ.out.then_ hbY)
    clear gk hJZ HZ hbY k0 k1 k2 k3 k4 k5 k6 k7 k8 k9 k10 HRD
    cases R with
    | false =>
     have hN := qzL (hJ.out.skip HY.out HRR.out)
     clear hJ hJY gY
     go_wp2
     go_roundw
     case rel => exact ⟨i + 1, again, ms', by omega, by simp, rfl, hN⟩
     case measure => simp [intOf]; omega
    | true =>
     have c0 : Y.cell? ⟨bk, 0, none⟩ = some (.int .i64 k.kind) := by rw [← hkk]; exact gY.cell 0
     have c1 : Y.cell? ⟨bk, 1, none⟩ = some (.int .i64 k.role) := by rw [← hkk]; exact gY.cell 1
     have c5 : Y.cell? ⟨bk, 5, none⟩ = some (.int .i64 k.aft) := by rw [← hkk]; exact gY.cell 5
     have k10 : Y.cell? ⟨b, 10, none⟩ = some (.slice (some ⟨q.m, 0, none⟩) ms'.length q.mc) := hJY.out.g.cell 10
     have hix1 := fun W => xA4 (t := 45) (size := 5) (g := q.m) (cap := q.mc) hlt' (by kernel_rfl) (fun W => by kernel_rfl) W
     cases t4 : (k.kind == 4) with
     | true =>
      have t4' : (k.kind != 4) = false := by simp [bne, t4]
      have hlv : Hid ((⟨1, k.aft, 0, -1, false⟩ : Mk) = live k s.hol) := by
       unfold Hid live; rw [if_pos (by simpa using t4)]
      go_upto_region 10 with (fail)
      have rg0 := cR k10
      have rg1 := cR c5
      refine xAg [0, 1, 2, 3, 4, 5, 6, 7, 8, 9] [10, 11] (by kernel_rfl) (by kernel_rfl) pO ?_
      simp only [xAn, qzA, qzB, qzC, qzD, qzE, qzF]
      repeat (go_big_quiet_step (skip))
      refine wpQuiet_nil ?_
      intro V hw2
      have hbV := xAj hw2
      clear hw2 rg0 rg1
      have hMV := qzL (hJY.out.then_ hbV)
      have hth : V.there q.m (i * 5) ([.int .i64 1, .int .i64 k.aft, .int .i64 0, .int .i64 (-1), .bool false] : List Value).length := by have := hMV.out.om.there xBg rfl HX.out (j := 0) (c := 5) (by omega); simpa using this
      have hVV : Hid (Below wr.heap.size wr V) := xAa HY.out hbV
      go_upto_region 11 with (refine xBz rfl 61 _ _ rfl rfl q.m (i * 5) [.int .i64 1, .int .i64 k.aft, .int .i64 0, .int .i64 (-1), .bool false] rfl rfl (by exact hth) (by kernel_rfl) (by simp [Value.oneCell']) ?_)
      refine xAi ?_
      intro V2 hV2
      have hN := qzL (hJ.out.set_ (y := ⟨1, k.aft, 0, -1, false⟩) hVV.out HK.out HX.out HRR.out hlv.out)
      rw [show V.setCells q.m (i * 5) _ = V2 from hV2.symm] at hN
      clear hV2 hth
      go_wp2
      go_roundw
      case rel => exact ⟨i + 1, true, ms'.set i ⟨1, k.aft, 0, -1, false⟩, by omega, by simp, rfl, hN⟩
      case measure => simp [intOf]; omega
     | false =>
      have t4' : (k.kind != 4) = true := by simp [bne, t4]
      have t4n : k.kind ≠ 4 := by simpa using t4
      have hrl := hkv.r t4n
      obtain ⟨r, hr⟩ : ∃ r : Nat, k.role = (r : Int) := ⟨k.role.toNat, by omega⟩
      have hrlt : r < s.hol.length := by have := HL.out; omega
      obtain ⟨hv, hhv⟩ : ∃ v, s.hol[r]? = some v := ⟨_, qzJ hrlt⟩
      have hlv : Hid ((⟨1, k.aft, 0, hv, false⟩ : Mk) = live k s.hol) := by
       unfold Hid live xCa; rw [if_neg t4n, hr, Int.toNat_natCast, List.getD_eq_getElem?_getD, hhv]; rfl
      have h0 : Y.cell? ⟨q.h, r, none⟩ = some (.int .i64 hv) := by
       have := (hJY.out.oh.getAt xAz rfl hhv (j := 0) (by omega)).1
       simpa [eI] using this
      have hix2 := fun W => xA4 (t := 22) (size := 1) (g := q.h) (cap := q.hc) hrlt (by kernel_rfl) (fun W => by kernel_rfl) W
      simp only [Nat.mul_one] at hix2
      have k8 : Y.cell? ⟨b, 8, none⟩ = some (.slice (some ⟨q.h, 0, none⟩) s.hol.length q.hc) := hJY.out.g.cell 8
      rw [hr] at c1
      clear hr hhv t4n hrl hkv
      go_upto_region 9 with (fail)
      have rg0 := cR k8
      have rg1 := cR c1
      have rg2 := cR h0
      refine xAg [0, 1, 2, 3, 4, 5, 6, 7, 8] [9] (by kernel_rfl) (by kernel_rfl) pO ?_
      simp only [xAn, qzA, qzB, qzC, qzD, qzE, qzF]
      repeat (go_big_quiet_step (skip))
      refine wpQuiet_nil ?_
      intro U hw2
      have hbU := xAj hw2
      clear hw2 rg0 rg1 rg2
      have hUb : Hid (Below Y.heap.size Y U) := hbU
      have c5' : U.cell? ⟨bk, 5, none⟩ = some (.int .i64 k.aft) := by rw [← hkk]; exact (gY.then_ hbU).cell 5
      have k10' : U.cell? ⟨b, 10, none⟩ = some (.slice (some ⟨q.m, 0, none⟩) ms'.length q.mc) := (hJY.out.then_ hbU).g.cell 10
      clear hbU c5 k10 c0 c1 h0 k8
      go_upto_region 10 with (fail)
      have rg0 := cR k10'
      have rg1 := cR c5'
      refine xAg [0, 1, 2, 3, 4, 5, 6, 7, 8, 9] [10, 11] (by kernel_rfl) (by kernel_rfl) pO ?_
      simp only [xAn, qzA, qzB, qzC, qzD, qzE, qzF]
      repeat (go_big_quiet_step (skip))
      refine wpQuiet_nil ?_
      intro V hw2
      have hbV := xAj hw2
      clear hw2 rg0 rg1
      have hMV := qzL (hJY.out.then_ (xAa hUb.out hbV))
      have hth : V.there q.m (i * 5) ([.int .i64 1, .int .i64 k.aft, .int .i64 0, .int .i64 hv, .bool false] : List Value).length := by have := hMV.out.om.there xBg rfl HX.out (j := 0) (c := 5) (by omega); simpa using this
      have hVV : Hid (Below wr.heap.size wr V) := xAa HY.out (xAa hUb.out hbV)
      go_upto_region 11 with (refine xBz rfl 61 _ _ rfl rfl q.m (i * 5) [.int .i64 1, .int .i64 k.aft, .int .i64 0, .int .i64 hv, .bool false] rfl rfl (by exact hth) (by kernel_rfl) (by simp [Value.oneCell']) ?_)
      refine xAi ?_
      intro V2 hV2
      have hN := qzL (hJ.out.set_ (y := ⟨1, k.aft, 0, hv, false⟩) hVV.out HK.out HX.out HRR.out hlv.out)
      rw [show V.setCells q.m (i * 5) _ = V2 from hV2.symm] at hN
      clear hV2 hth
      go_wp2
      go_roundw
      case rel => exact ⟨i + 1, true, ms'.set i ⟨1, k.aft, 0, hv, false⟩, by omega, by simp, rfl, hN⟩
      case measure => simp [intOf]; omega
theorem Upd.putObj {W : World} {l : Nat} (o : Obj) (hl : l < W.heap.size) : Upd W (W.putObj l o) l :=
 ⟨fun B hB => (Below.refl B W).grown (grownBy_putObj' W l o) (by omega) (fun k e => by cases e; exact hB), fun x hx => World.putObj_heap_other hx, by simp [World.putObj]⟩
def xFz (l D : Nat) (W2 : World) (I : World → Prop) (X : Code → World → Prop) : Exit → Act → World → Prop
 | .normal, _, W3 => W3.heap[l]? = W2.heap[l]? ∧ W3.heap[D]? = W2.heap[D]? ∧ ∀ W4, Upd W3 W4 l → I W4
 | .ret, _, W3 => W3.heap[l]? = W2.heap[l]? ∧ W3.heap[D]? = W2.heap[D]? ∧ ∀ W4, Upd W3 W4 l → X .ret W4
 | .exit id, _, W3 => W3.heap[l]? = W2.heap[l]? ∧ W3.heap[D]? = W2.heap[D]? ∧ ∀ W4, Upd W3 W4 l → X (.exit id) W4
 | .goto t, _, W3 => W3.heap[l]? = W2.heap[l]? ∧ W3.heap[D]? = W2.heap[D]? ∧ ∀ W4, Upd W3 W4 l → X (.goto t) W4
 | .panic _, _, _ => False
 | .outgrown, _, _ => False
variable {F : Fence} {n : Nat} {P : Program}
theorem xD1 {g : Operand} {ps : Array Tmp} {assign body : Code} {Q : Exit → Act → World → Prop} {a : Act} {w : World}
  (hro : F.round = none) (h1 : 1 ≤ n) {gf : Nat} {lb : Array Value} (hg : a.eval g = .func (.func gf) #[] lb) (hFg : F.fn gf) (eg : ∀ args w, (callFunc gf args).run P w = .ok (.enter gf args) w)
  (h : ∀ (l : Nat) (Rec : World → Prop) (RecX : Code → World → Prop), l = w.heap.size + 1 →
   (∀ W W', Rec W → Below (l + 1) W W' → Rec W') → (∀ c W W', RecX c W → Below (l + 1) W W' → RecX c W') → (∀ W, Rec W → l < W.heap.size) →
   (∀ (args : Array Value) (W : World) (a₁ : Act) (I : World → Prop) (X : Code → World → Prop), Rec W → args.size = ps.size →
    (∀ K : Act → World → Prop, K a₁ W → assign.wpIn (F.inRound l) (n - 1 - 1) P (Exit.then K (fun _ _ _ => False)) { tmps := (ps.zip args).foldl (fun t (p, v) => t.setIfInBounds p v) a.tmps, defers := [] } W) →
    (∀ W2, Upd W W2 l → body.wpIn (F.inRound l) (n - 1 - 1) P (xFz l w.heap.size W2 I X) a₁ W2) →
    YieldAt F (n - 1 - 1) P l args W fun e W' => (e = .returned (.bool true) ∧ Rec W' ∧ I W') ∨ (e = .returned (.bool false) ∧ ∃ c, RecX c W' ∧ X c W')) →
   ∀ W1, Rec W1 → Below w.heap.size w W1 → W1.heap.size = w.heap.size + 2 →
    CallsIn F (n - 1) P gf (#[.func (.yield l) #[] #[]] ++ lb) W1 fun e W' => (∃ v, e = .returned v) ∧
     ((Rec W' ∧ ∀ W4, Upd W' W4 l → W4.heap[w.heap.size]? = some (.deferred (some [])) → Q .normal { a with defers := { target := .collected w.heap.size, args := #[] } :: a.defers } W4) ∨
      (∃ c, RecX c W' ∧ ∀ W4, Upd W' W4 l → W4.heap[w.heap.size]? = some (.deferred (some [])) → c.wpIn F n P Q { a with defers := { target := .collected w.heap.size, args := #[] } :: a.defers } W4))) :
  (Code.rangeFunc g ps assign body).wpIn F n P Q a w := by
 refine wpIn_rangeFunc ?_
 intro fn hfn
 rw [hro]
 obtain ⟨rec, hrec⟩ : ∃ rec : LoopState → Option Code → Loop, rec = fun st pe => { state := st, pending := pe, fn, tmps := a.tmps, params := ps, assign, body, defers := w.heap.size } := ⟨_, rfl⟩
 obtain ⟨W1, hW1⟩ : ∃ W1, (w.alloc (.deferred (some []))).alloc (.loop (rec .ready none)) = W1 := ⟨_, rfl⟩
 have hL1 : W1.heap[w.heap.size + 1]? = some (.loop (rec .ready none)) := by
  rw [← hW1]; have := World.alloc_heap_new (w.alloc (.deferred (some []))) (.loop (rec .ready none)); rwa [World.size_alloc] at this
 have hK1 : W1.heap[w.heap.size]? = some (.deferred (some [])) := by
  rw [← hW1]; exact (Below.heap_alloc _ _ _ (by simp)).trans (World.alloc_heap_new w _)
 have hb1 : Below w.heap.size w W1 := by
  rw [← hW1]; exact ((Below.refl _ w).alloc (Nat.le_refl _) _).alloc (by simp) _
 have hs1 : W1.heap.size = w.heap.size + 2 := by rw [← hW1]; simp
 refine ⟨w.heap.size + 1, [{ target := .collected w.heap.size, args := #[] }], W1, { target := .fn (.func gf) lb, args := #[.func (.yield (w.heap.size + 1)) #[] #[]] }, W1, gf,
  #[.func (.yield (w.heap.size + 1)) #[] #[]] ++ lb, W1, ?_, ?_, ?_, ?_, fun _ => h1, ?_⟩
 ·rw [← hW1, hrec]; exact run_enterLoop_outer _ _ _ _ _
 ·simp only [resolve, hg]
  simp [go_sem]
 ·intro f' hf'; simp [Target.leads] at hf'; subst hf'; exact hFg
 ·simp [invoke, go_sem, eg]
 ·refine (h (w.heap.size + 1)
   (fun W => W.heap[w.heap.size + 1]? = some (.loop (rec .ready none)) ∧ W.heap[w.heap.size]? = some (.deferred (some [])))
   (fun c W => W.heap[w.heap.size + 1]? = some (.loop (rec .done (some c))) ∧ W.heap[w.heap.size]? = some (.deferred (some []))) rfl
   (fun W W' hr hb => ⟨(hb.block _ (by omega)).trans hr.1, (hb.block _ (by omega)).trans hr.2⟩)
   (fun c W W' hr hb => ⟨(hb.block _ (by omega)).trans hr.1, (hb.block _ (by omega)).trans hr.2⟩)
   (fun W hr => (Array.getElem?_eq_some_iff.1 hr.1).1) ?_ W1 ⟨hL1, hK1⟩ hb1 hs1).mono ?_
  ·
   rintro args W a₁ I X ⟨hl, hk⟩ hps hassign hbody
   have hlt : w.heap.size + 1 < W.heap.size := (Array.getElem?_eq_some_iff.1 hl).1
   have hy := run_yield (P := P) (args := args) hl (by rw [hrec]; exact hps)
   rw [hrec] at hy
   refine ⟨fn, _, assign, body, hy, roundIn_of_wpIn hfn (hassign _ ⟨_, run_beginRound hl (by rw [hrec]), ?_⟩)⟩
   have hl2 : (W.putObj (w.heap.size + 1) (.loop { rec .ready none with state := .busy })).heap[w.heap.size + 1]? = some (.loop { rec .ready none with state := .busy }) := World.putObj_heap_same hlt
   have hk2 : (W.putObj (w.heap.size + 1) (.loop { rec .ready none with state := .busy })).heap[w.heap.size]? = some (.deferred (some [])) := (World.putObj_heap_other (by omega)).trans hk
   refine wpIn_mono (hbody _ (Upd.putObj _ hlt)) ?_
   have fin : ∀ (jump : Option Code) (W3 : World), W3.heap[w.heap.size + 1]? = some (.loop { rec .ready none with state := .busy }) → W3.heap[w.heap.size]? = some (.deferred (some [])) →
     (Instr.endRound (w.heap.size + 1) jump).run P W3 = .ok (.bool jump.isNone) (W3.putObj (w.heap.size + 1) (.loop (rec (if jump.isNone then .ready else .done) jump))) ∧
     (W3.putObj (w.heap.size + 1) (.loop (rec (if jump.isNone then .ready else .done) jump))).heap[w.heap.size + 1]? = some (.loop (rec (if jump.isNone then .ready else .done) jump)) ∧
     (W3.putObj (w.heap.size + 1) (.loop (rec (if jump.isNone then .ready else .done) jump))).heap[w.heap.size]? = some (.deferred (some [])) ∧
     Upd W3 (W3.putObj (w.heap.size + 1) (.loop (rec (if jump.isNone then .ready else .done) jump))) (w.heap.size + 1) := fun jump W3 hl3 hk3 => by
    have := run_endRound (P := P) jump hl3
    rw [hrec] at this ⊢
    exact ⟨this, World.putObj_heap_same (Array.getElem?_eq_some_iff.1 hl3).1, (World.putObj_heap_other (by omega)).trans hk3, Upd.putObj _ (Array.getElem?_eq_some_iff.1 hl3).1⟩
   rintro e a3 W3 hp
   cases e with
   | normal =>
    obtain ⟨e1, e2, hi3⟩ := hp
    obtain ⟨hr, hl4, hk4, hu⟩ := fin none W3 (e1.trans hl2) (e2.trans hk2)
    exact ⟨_, _, hr, .inl ⟨rfl, ⟨hl4, hk4⟩, hi3 _ hu⟩⟩
   | ret =>
    obtain ⟨e1, e2, hi3⟩ := hp
    obtain ⟨hr, hl4, hk4, hu⟩ := fin (some .ret) W3 (e1.trans hl2) (e2.trans hk2)
    exact ⟨_, _, hr, .inr ⟨rfl, .ret, ⟨hl4, hk4⟩, hi3 _ hu⟩⟩
   | exit id =>
    obtain ⟨e1, e2, hi3⟩ := hp
    obtain ⟨hr, hl4, hk4, hu⟩ := fin (some (.exit id)) W3 (e1.trans hl2) (e2.trans hk2)
    exact ⟨_, _, hr, .inr ⟨rfl, .exit id, ⟨hl4, hk4⟩, hi3 _ hu⟩⟩
   | goto t =>
    obtain ⟨e1, e2, hi3⟩ := hp
    obtain ⟨hr, hl4, hk4, hu⟩ := fin (some (.goto t)) W3 (e1.trans hl2) (e2.trans hk2)
    exact ⟨_, _, hr, .inr ⟨rfl, .goto t, ⟨hl4, hk4⟩, hi3 _ hu⟩⟩
   | panic ch => exact hp.elim
   | outgrown => exact hp.elim
  ·
   rintro e W2 ⟨⟨v, rfl⟩, (⟨⟨hl, hk⟩, hq⟩ | ⟨c, ⟨hl, hk⟩, hq⟩)⟩
   ·exact ⟨none, _, by have := run_endLoop (P := P) hl (by rw [hrec]; simp); rw [hrec] at this; exact this, hq _ (Upd.putObj _ (Array.getElem?_eq_some_iff.1 hl).1) ((World.putObj_heap_other (by omega)).trans hk)⟩
   ·exact ⟨some c, _, by have := run_endLoop (P := P) hl (by rw [hrec]; simp); rw [hrec] at this; exact this, hq _ (Upd.putObj _ (Array.getElem?_eq_some_iff.1 hl).1) ((World.putObj_heap_other (by omega)).trans hk)⟩
end Go.Proofs.YtffceokjeonpcaaGreatDoor
