/- Contracts of functions and plain laws, joined: Kba, Pk3, Own, Own2, Hb. -/
import Derived.Test.YtginnonjdbpamaaGreatDoorMc8
import Derived.Test.YtginnonjdbpamaaGreatDoorMc4
import Derived.OwnWalk
import Derived.Deep.AppendLies
import Derived.Test.YtginnonjdbpamaaGreatDoorMc5
import Derived.Deep.RegionHeld
/- The walk of contract.Valid at every contract in memory. -/
import Derived.Test.YtginnonjdbpamaaGreatDoorMc1
set_option maxHeartbeats 6400000
set_option maxRecDepth 100000
namespace Go.Proofs.YtginnonjdbpamaaGreatDoor
open Go.RowKit
theorem kind_any (c : Con) (m : Cm) (x : Km) (w : World) (hs : Seg w w.heap.size 7 eA m.a c.ac) : Calls Tryz.prog 103 #[.agg (coA c m), .agg (kA x)] w fun e w' => e = .returned (.bool (c.kindOk x.k)) ∧ Below w.heap.size w w' :=
 kind_key c m x (c.mov x.k.role) (c.nat x.k.act) w (fun W => xDc c m _ W) (fun W hb => xI1 c m _ W ((hs.below hb).more hb.size)) (c.kindOk x.k) rfl
theorem act_any (c : Con) (m : Cm) (x : Atc) (w : World) (hb : I64 x.lot.1 ∧ I64 x.lot.2) : Calls Tryz.prog 102 #[.agg (coA c m), .agg (aA x)] w fun e w' => e = .returned (.bool (c.actOk x)) ∧ Below w.heap.size w w' := by
 cases h : c.mov x.role with
 | true =>
  have e : c.actOk x = if x.kind == 1 then x.give == 0 && (x.to_ == -1 || c.mov x.to_) && (if x.unit == -1 then zer x.lot else isI x.unit c.un.length && psv (x.lot.1, x.lot.2)) else (x.kind == 2 || x.kind == 3) && c.mov x.give && decide (0 ≤ x.to_) && decide (x.to_ < c.par) && x.unit == -1 && zer x.lot := by
   unfold Con.actOk; rw [h]; rfl
  rw [e]
  exact act_mov c m x (c.mov x.role) (c.mov x.to_) (c.mov x.give) (psv (x.lot.1, x.lot.2)) w (fun W => xDc c m _ W) (fun W => xDc c m _ W) (fun W => xDc c m _ W) (fun W => xG0 W) (fun W => xIy _ _ W hb.1 hb.2) h
 | false =>
  have e : c.actOk x = (x.kind == 1 && x.role == -1 && x.give == 0 && (x.to_ == -1 || c.mov x.to_) && x.unit == -1 && zer x.lot) := by
   unfold Con.actOk; rw [h]; rfl
  rw [e]
  exact act_nat c m x (c.mov x.role) (c.mov x.to_) (c.mov x.give) (psv (x.lot.1, x.lot.2)) w (fun W => xDc c m _ W) (fun W => xDc c m _ W) (fun W => xDc c m _ W) (fun W => xG0 W) (fun W => xIy _ _ W hb.1 hb.2) h
theorem framed_any (c : Con) (m : Cm) (w : World) (h : Cont w c m) (hp : c.par ≤ 12) : Calls Tryz.prog 72 #[.agg (coA c m)] w fun e w' => e = .returned (.bool c.framed) ∧ Below w.heap.size w w' :=
 framed_key c m (c.hold.all fun h => decide (0 ≤ h) && decide (h < c.par)) (xGo c.un 0 c.un) w h.a h.o h.na h.no (fun W hb => held_any c m W ((h.h.below hb).more hb.size) h.nh (by omega)) (fun W hb => uns_any c.un m.u m.uc W ((h.u.below hb).more hb.size) h.bu h.nu h.cu)
  (fun x hx W _ => act_any c m x W (h.ba x hx)) c.framed rfl
theorem cla_any (c : Con) (m : Cm) (i : Nat) (k : Cla) (w : World) (h : Cont w c m) (hk : c.cl[i]? = some k) : Calls Tryz.prog 73 #[.agg (coA c m), .int .i64 (i : Nat)] w fun e w' => e = .returned (.bool (c.claOk i k)) ∧ Below w.heap.size w w' := by
 obtain ⟨x, hx, rfl⟩ := xCv h.e hk
 have kx := h.t x (qzK hx)
 have hs : ∀ W, Below w.heap.size w W → Seg W W.heap.size 7 eA m.a c.ac := fun W hb => (h.a.below hb).more hb.size
 exact cla_key c m i x (c.kindOk x.k) (c.nat x.k.pause) (c.nat x.k.resume) (psv (x.k.v.1, x.k.v.2)) (c.mov x.k.to_) w hx (qzM hk).1 h.k kx.s h.u h.nk (fun W hb => kind_any c m x W (hs W hb)) (fun W hb => xI1 c m _ W (hs W hb)) (fun W hb => xI1 c m _ W (hs W hb))
  (fun W _ => xG0 W) (fun W _ => xIy _ _ W kx.v.1 kx.v.2) (fun W _ => xDc c m _ W) (c.claOk i x.k) rfl
theorem xGn (c : Con) (m : Cm) (w : World) (h : Cont w c m) : Calls Tryz.prog 50 #[.agg (coA c m)] w fun e w' => (∃ a b : Int, e = .returned (.tuple #[.int .i64 a, .int .i64 b]) ∧ (a = 0 ↔ c.ok = true)) ∧ Below w.heap.size w w' := by
 have HC := qzL h
 clear h
 have nk := HC.out.nk
 go_enter Tryz.func50, Tryz.ntmps50
 go_upto_region 1 with (fail)
 refine xAf ?_
 intro X hX
 have ga : Blk X w.heap.size 27 (coA c m) := by rw [hX]; exact Blk.new _ _ _
 have HB : Hid (Below w.heap.size w X) := by rw [hX]; exact wa1 _ _
 obtain ⟨ba, eb⟩ : ∃ b, w.heap.size = b := ⟨_, rfl⟩
 rw [eb] at ga ⊢
 clear hX eb
 obtain ⟨k0, k1, k2, k3, k4, k5, k6⟩ := coC (c := c) (m := m) (ga) rfl
 have lim : ∀ {p : Prop} [Decidable p], ¬ p → (c.lim = true → p) → Hid (c.ok = false) := fun {p} _ hn hi => by
  unfold Hid Con.ok
  cases hl : c.lim with
  | false => rfl
  | true => exact absurd (hi hl) hn
 have lims : c.lim = true → c.par ≤ 12 ∧ c.days ≤ 2000 ∧ c.hold.length ≤ 12 ∧ c.un.length ≤ 20 ∧ c.ac.length ≤ 60 ∧ c.cl.length ≤ 400 := fun h => by
  unfold Con.lim at h
  simp only [Bool.and_eq_true, decide_eq_true_eq] at h
  omega
 by_cases p0 : 12 < c.par
 ·have t0 := qzO p0
  have hf := lim (p := c.par ≤ 12) (by omega) (fun h => by have := lims h; omega)
  clear lim lims
  go_wp2
  refine bodyPost_ret (by simp [results, Tryz.results50, go_sem, *]; rfl) rfl ⟨?_, ?_⟩
  ·first | exact ⟨_, ⟨_, rfl⟩, ⟨fun h => (by cases h), fun h => by rw [hf.out] at h; cases h⟩⟩ | exact ⟨_, _, rfl, ⟨fun h => (by cases h), fun h => by rw [hf.out] at h; cases h⟩⟩
  ·exact HB.out
 have t0 := qzN p0
 by_cases p1 : 2000 < c.days
 ·have t1 := qzO p1
  have hf := lim (p := c.days ≤ 2000) (by omega) (fun h => by have := lims h; omega)
  clear lim lims
  go_wp2
  refine bodyPost_ret (by simp [results, Tryz.results50, go_sem, *]; rfl) rfl ⟨?_, ?_⟩
  ·first | exact ⟨_, ⟨_, rfl⟩, ⟨fun h => (by cases h), fun h => by rw [hf.out] at h; cases h⟩⟩ | exact ⟨_, _, rfl, ⟨fun h => (by cases h), fun h => by rw [hf.out] at h; cases h⟩⟩
  ·exact HB.out
 have t1 := qzN p1
 by_cases p2 : (12 : Int) < c.hold.length
 ·have t2 := qzO p2
  have hf := lim (p := c.hold.length ≤ 12) (by omega) (fun h => by have := lims h; omega)
  clear lim lims
  go_wp2
  refine bodyPost_ret (by simp [results, Tryz.results50, go_sem, *]; rfl) rfl ⟨?_, ?_⟩
  ·first | exact ⟨_, ⟨_, rfl⟩, ⟨fun h => (by cases h), fun h => by rw [hf.out] at h; cases h⟩⟩ | exact ⟨_, _, rfl, ⟨fun h => (by cases h), fun h => by rw [hf.out] at h; cases h⟩⟩
  ·exact HB.out
 have t2 := qzN p2
 by_cases p3 : (20 : Int) < c.un.length
 ·have t3 := qzO p3
  have hf := lim (p := c.un.length ≤ 20) (by omega) (fun h => by have := lims h; omega)
  clear lim lims
  go_wp2
  refine bodyPost_ret (by simp [results, Tryz.results50, go_sem, *]; rfl) rfl ⟨?_, ?_⟩
  ·first | exact ⟨_, ⟨_, rfl⟩, ⟨fun h => (by cases h), fun h => by rw [hf.out] at h; cases h⟩⟩ | exact ⟨_, _, rfl, ⟨fun h => (by cases h), fun h => by rw [hf.out] at h; cases h⟩⟩
  ·exact HB.out
 have t3 := qzN p3
 by_cases p4 : (60 : Int) < c.ac.length
 ·have t4 := qzO p4
  have hf := lim (p := c.ac.length ≤ 60) (by omega) (fun h => by have := lims h; omega)
  clear lim lims
  go_wp2
  refine bodyPost_ret (by simp [results, Tryz.results50, go_sem, *]; rfl) rfl ⟨?_, ?_⟩
  ·first | exact ⟨_, ⟨_, rfl⟩, ⟨fun h => (by cases h), fun h => by rw [hf.out] at h; cases h⟩⟩ | exact ⟨_, _, rfl, ⟨fun h => (by cases h), fun h => by rw [hf.out] at h; cases h⟩⟩
  ·exact HB.out
 have t4 := qzN p4
 by_cases p5 : (400 : Int) < c.cl.length
 ·have t5 := qzO p5
  have hf := lim (p := c.cl.length ≤ 400) (by omega) (fun h => by have := lims h; omega)
  clear lim lims
  go_wp2
  refine bodyPost_ret (by simp [results, Tryz.results50, go_sem, *]; rfl) rfl ⟨?_, ?_⟩
  ·first | exact ⟨_, ⟨_, rfl⟩, ⟨fun h => (by cases h), fun h => by rw [hf.out] at h; cases h⟩⟩ | exact ⟨_, _, rfl, ⟨fun h => (by cases h), fun h => by rw [hf.out] at h; cases h⟩⟩
  ·exact HB.out
 have t5 := qzN p5
 have hlim : Hid (c.lim = true) := by
  unfold Hid Con.lim
  simp only [Bool.and_eq_true, decide_eq_true_eq]
  omega
 have HF := qzL (fun W hb => framed_any c m W (HC.out.then_ hb) (by omega))
 have hp0 : c.par ≤ 12 := by omega
 clear lim lims p0 p1 p2 p3 p4 p5
 cases hfr : c.framed with
 | false =>
  rw [hfr] at HF
  have hf : Hid (c.ok = false) := by unfold Hid Con.ok; rw [hfr, Bool.and_false]; rfl
  go_wp2_with (go_at_call 72; (with_reducible refine (HF.out _ HB.out).mono ?_); rintro e w1 ⟨rfl, hbw1⟩)
  refine bodyPost_ret (by simp [results, Tryz.results50, go_sem, *]; rfl) rfl ⟨?_, ?_⟩
  ·first | exact ⟨_, ⟨_, rfl⟩, ⟨fun h => (by cases h), fun h => by rw [hf.out] at h; cases h⟩⟩ | exact ⟨_, _, rfl, ⟨fun h => (by cases h), fun h => by rw [hf.out] at h; cases h⟩⟩
  ·exact xAa HB.out hbw1
 | true =>
 rw [hfr] at HF
 have hok : Hid (c.ok = c.clsOk 0 c.cl) := by unfold Hid Con.ok; rw [hlim.out, hfr]; rfl
 go_upto_region 5 with (go_at_call 72; (with_reducible refine (HF.out _ HB.out).mono ?_); rintro e w1 ⟨rfl, hbw1⟩)
 refine xAf ?_
 intro Y hY
 have gb : Blk Y ba 27 (coA c m) := by rw [hY]; exact ga.then_ hbw1
 have HY : Hid (Below w.heap.size w Y) := by rw [hY]; exact xAa HB.out hbw1
 clear hY hbw1 ga HB t0 t1 t2 t3 t4 t5 k0 k1 k2 k3 k4 k5 k6 HF hlim hfr hp0
 have k4 : Y.cell? ⟨ba, 4, none⟩ = some (.slice m.k c.cl.length m.kc) := gb.cell 4
 go_upto_region 6 with (fail)
 clear k4
 have lY := HY.out.size
 go_loopw [43] (fun y WR => ∃ j : Nat, j ≤ c.cl.length ∧ y = .int .i64 j ∧ Hid (∀ n k, n < j → c.cl[n]? = some k → c.claOk n k = true) ∧ Below Y.heap.size Y WR) (fun y _ => 2000000 - (intOf y).toNat)
 case atStart => exact ⟨0, by omega, rfl, fun n u h => absurd h (by omega), Below.refl _ _⟩
 case round =>
  obtain ⟨j, hj, rfl, hN, hbr⟩ := hrel
  have ga := gb.then_ hbr
  have HBR := qzL (xAa HY.out hbr)
  have HBZ := qzL hbr
  by_cases hlt : j < c.cl.length
  ·have tj : decide ((j : Int) < (c.cl.length : Int)) = true := qzO (by omega)
   obtain ⟨k, hk⟩ : ∃ k, c.cl[j]? = some k := ⟨_, qzJ hlt⟩
   have HX := qzL hk
   have HV := qzL (cla_any c m j k wr (HC.out.then_ HBR.out) hk)
   clear hk hbr
   obtain ⟨k0, k1, k2, k3, k4, k5, k6⟩ := coC (c := c) (m := m) (ga) rfl
   cases hq : c.claOk j k with
   | true =>
    rw [hq] at HV
    go_wp2_with (go_at_call 73; (with_reducible refine HV.out.mono ?_); rintro e w1 ⟨rfl, hbw1⟩)
    go_roundw
    case rel => exact ⟨j + 1, by omega, by simp, fun n y hi hy => by
     by_cases h : n = j
     ·subst h
      rw [HX.out] at hy
      injection hy with hy
      subst hy
      exact hq
     ·exact hN.out n y (by omega) hy, xAa HBZ.out hbw1⟩
    case measure => simp [intOf]; omega
   | false =>
    rw [hq] at HV
    have hf : Hid (c.ok = false) := by
     unfold Hid
     rw [hok.out, Bool.eq_false_iff]
     intro h
     have := (Con.clsOk_iff c c.cl 0).1 h j k HX.out
     rw [Nat.zero_add, hq] at this
     cases this
    go_wp2_with (go_at_call 73; (with_reducible refine HV.out.mono ?_); rintro e w1 ⟨rfl, hbw1⟩)
    refine bodyPost_ret (by simp [results, Tryz.results50, go_sem, *]; rfl) rfl ⟨?_, ?_⟩
    ·first | exact ⟨_, ⟨_, rfl⟩, ⟨fun h => (by cases h), fun h => by rw [hf.out] at h; cases h⟩⟩ | exact ⟨_, _, rfl, ⟨fun h => (by cases h), fun h => by rw [hf.out] at h; cases h⟩⟩
    ·exact xAa HBR.out hbw1
  ·have tj : decide ((j : Int) < (c.cl.length : Int)) = false := qzN (by omega)
   have hf : Hid (c.ok = true) := by
    unfold Hid
    rw [hok.out, Con.clsOk_iff]
    intro n k hk
    rw [Nat.zero_add]
    exact hN.out n k (by have := (qzM hk).1; omega) hk
   clear hbr hN gb
   go_wp2
   refine bodyPost_ret (by simp [results, Tryz.results50, go_sem, *]; rfl) rfl ⟨?_, ?_⟩
   ·first | exact ⟨_, ⟨_, rfl⟩, ⟨fun _ => hf.out, fun _ => rfl⟩⟩ | exact ⟨_, _, rfl, ⟨fun _ => hf.out, fun _ => rfl⟩⟩
   ·exact HBR.out
end Go.Proofs.YtginnonjdbpamaaGreatDoor
/- Walked steps for whole structs: a new variable that is set at once, a store into a block xC3 whole, a result that lies in a cell. -/
namespace Go.Proofs.YtginnonjdbpamaaGreatDoor
open Go.RowKit
section
variable {P : Program} {ops : Array Oper} {Q : Exit → Act → World → Prop} {a : Act} {w : World} {rest : List Oper}
theorem xEn {g : Nat} {t : TypeId} : ∀ (vs pre old rest : List Value) (w : World), old.length = vs.length → Blk w g t (pre ++ old ++ rest).toArray → Blk (w.setCells g pre.length vs) g t (pre ++ vs ++ rest).toArray
 | [], pre, old, rest, w, h, hb => by
  obtain rfl : old = [] := List.eq_nil_of_length_eq_zero h
  exact hb
 | v :: vs, pre, old, rest, w, h, hb => by
  cases old with
  | nil => simp at h
  | cons r old =>
   simp only [World.setCells]
   have h1 := hb.set_ pre.length v
   have e1 : ((pre ++ r :: old ++ rest).toArray.setIfInBounds pre.length v) = ((pre ++ [v]) ++ old ++ rest).toArray := by simp
   rw [e1] at h1
   have h2 := xEn vs (pre ++ [v]) old rest _ (by simpa using h) h1
   simpa using h2
theorem ret_row {fn : Func} {r g : Nat} {t : TypeId} {cs : Array Value} (hres : fn.results = #[.cell r t]) (hp : a.tmps.getD r undef = .pointer (some ⟨g, 0, none⟩)) (hk : Blk w g t cs) (hu : ∃ fs, P.underlying t = some (.struct fs)) (hi : (P.info? t).map (·.size) = some cs.size) :
  (results fn a.tmps).run P w = .ok (.agg cs) w := by
 obtain ⟨fs, hu⟩ := hu
 have h1 := run_loadVar_row w g t t cs (0, 0) _ hk hu rfl hi
 rw [Array.getD_eq_getD_getElem?] at hp
 simp only [go_sem] at h1
 simp [results, hres, hp, go_sem]
 simpa using h1
end
end Go.Proofs.YtginnonjdbpamaaGreatDoor
/- A slice of the call's own that holds a list of elements; one more element appended. -/
namespace Go.Proofs.YtginnonjdbpamaaGreatDoor
open Go.RowKit
def Own {α : Type} (w : World) (B : Nat) (T : TypeId) (size : Nat) (enc : α → List Value) (v : Value) (xs : List α) : Prop := w.ownsRow B T size v xs.length (xs.flatMap enc)
theorem getElem?_flatMap {α : Type} {enc : α → List Value} {size : Nat} (he : ∀ x, (enc x).length = size) : ∀ (xs : List α) (k j : Nat) (x : α), xs[k]? = some x → j < size → (xs.flatMap enc)[k * size + j]? = (enc x)[j]?
 | [], k, j, x, h, _ => by simp at h
 | y :: ys, 0, j, x, h, hj => by
  simp only [qzC, Option.some.injEq] at h
  subst h
  rw [List.flatMap_cons, Nat.zero_mul, Nat.zero_add, List.getElem?_append_left (by rw [he]; exact hj)]
 | y :: ys, k + 1, j, x, h, hj => by
  rw [qzB] at h
  rw [List.flatMap_cons, List.getElem?_append_right (by rw [he, Nat.add_mul]; omega), he, show (k + 1) * size + j - size = k * size + j by rw [Nat.add_mul]; omega]
  exact getElem?_flatMap he ys k j x h hj
section
variable {α : Type} {w w' : World} {B : Nat} {T : TypeId} {size : Nat} {enc : α → List Value} {v : Value} {xs : List α}
theorem Own.nil (w : World) (B : Nat) (T : TypeId) (size : Nat) (enc : α → List Value) : Own w B T size enc (.slice none 0 0) [] := World.ownsRow_nil w B T size
theorem xFx (h : Below w.heap.size w w') (row : Option Nat) : w.grownBy w' row := ⟨h.os, h.tape, h.output, h.size, fun i hi _ => h.block i hi⟩
theorem Own.below (h : Own w B T size enc v xs) (hb : Below w.heap.size w w') : Own w' B T size enc v xs := h.kept (xFx hb none) (by cases hv : v.ownBlock <;> simp)
theorem Own.alloc (h : Own w B T size enc v xs) (o : Obj) : Own (w.alloc o) B T size enc v xs := World.ownsRow.alloc h o
theorem Own.drewN (h : Own w B T size enc v xs) (n : Nat) : Own (w.drewN n) B T size enc v xs := h
theorem Own.more (h : Own w B T size enc v xs) {B' : Nat} (hB : B' ≤ B) : Own w B' T size enc v xs := by
 refine ⟨h.1, ?_⟩
 rcases h.2 with h2 | ⟨g, cap, cur, hv, hg, r⟩
 ·exact .inl h2
 ·exact .inr ⟨g, cap, cur, hv, by omega, r⟩
theorem Own.setOther (h : Own w B T size enc v xs) {p : Addr} {t : TypeId} {cs : Array Value} (hb : Blk w p.block t cs) (ht : T ≠ t) (u : Value) : Own (w.setCell p u) B T size enc v xs := by
 refine ⟨h.1, ?_⟩
 rcases h.2 with h2 | ⟨g, cap, cur, hv, hg, hh, r⟩
 ·exact .inl h2
 ·have hne : g ≠ p.block := by
   intro e
   unfold Blk at hb
   rw [← e, hh] at hb
   injection hb with hb
   injection hb with _ h4
   exact ht h4
  exact .inr ⟨g, cap, cur, hv, hg, by rw [Below.heap_setCell _ _ _ _ hne]; exact hh, r⟩
theorem Own.seg (h : Own w B T size enc v xs) (he : ∀ x, (enc x).length = size) : ∃ A c, v = .slice A xs.length c ∧ xs.length ≤ c ∧ Seg w w.heap.size size enc A xs := by
 rcases h.2 with ⟨rfl, h0⟩ | ⟨g, cap, cur, rfl, hb, hg, hc, _, _, ht⟩
 ·obtain rfl : xs = [] := List.eq_nil_of_length_eq_zero h0
  exact ⟨none, 0, rfl, Nat.le_refl _, Seg.nil _ _ _ _ _⟩
 ·refine ⟨some ⟨g, 0, none⟩, cap, rfl, hc, fun k x hx => ⟨g, 0, rfl, (Array.getElem?_eq_some_iff.1 hg).1, fun j u hu => ?_⟩⟩
  have hj : j < size := by rw [← he x]; exact (qzM hu).1
  have hk : k < xs.length := (qzM hx).1
  have h1 : k * size + j < xs.length * size := by
   have : (k + 1) * size ≤ xs.length * size := Nat.mul_le_mul_right _ hk
   rw [Nat.add_mul] at this; omega
  have h2 := h.cellAt (g := g) (cap := cap) (k * size + j) h1
  simp only [Nat.zero_add]
  rw [h2, getElem?_flatMap he xs k j x hx hj]; exact hu
end
theorem xA8 {P : Program} {α : Type} (w : World) {ops : Array Oper} {rest : List Oper} {o : Oper} {a : Act} {Q : Exit → Act → World → Prop} (hgd : o.guard = none) (s x : Operand) (t : TypeId)
  (ho : o.op = .call { callee := .builtin .append, args := #[s, x], argTypes := #[t, t] })
  (B : Nat) (e : TypeId) (i : TypeInfo) (z : Value) (size bytes : Nat) (ht : P.underlying t = some (.slice e)) (hi : P.info? e = some i) (hz : i.zero = some z)
  (hsize : i.size = size) (hby : i.bytes = bytes) (hzs : z.cells.size = size) (hsz : 0 < size) (hb1 : bytes ≤ 100000)
  (enc : α → List Value) (he : ∀ y, (enc y).length = size) (h1 : ∀ y, ∀ u ∈ enc y, u.oneCell' = true)
  (v : Value) (xs : List α) (hs : a.eval s = v) (hown : Own w B e size enc v xs) (hl : xs.length ≤ 1000000)
  (g c : Nat) (y : α) (hx : a.eval x = .slice (some ⟨g, 0, none⟩) 1 c) (hblk : Blk w g e (enc y).toArray) (hbase : B ≤ w.heap.size)
  (h : ∀ v' w', Own w' B e size enc v' (xs ++ [y]) → Below B w w' → w.grownBy w' v.ownBlock → wpList P ops Q rest (a.put o.dst v') w') : wpList P ops Q (o :: rest) a w := by
 refine wpList_append_own w hgd s x t ho B e i z size bytes ht hi hz hsize hby hzs hsz v xs.length (xs.flatMap enc) hs hown ⟨g, 0, none⟩ 1 c (enc y) hx (by rw [he]; simp) ?_ (h1 y) (by unfold maxLen; omega) ?_ hbase ?_
 ·intro j u hu
  have hadd : (⟨g, 0, none⟩ : Addr).add j = ⟨g, j, none⟩ := by unfold Addr.add; split <;> simp_all
  rw [hadd, hblk.cell j]; simpa using hu
 ·have : (xs.length + 1) * bytes ≤ 1000001 * 100000 := Nat.mul_le_mul (by omega) hb1
  omega
 ·intro v' w' h2 h3 _
  refine h v' w' ?_ ((Below.refl B w).grown h3 hbase fun k hk => (World.ownsRow.lt hown k hk).1) h3
  unfold Own
  rw [List.length_append, List.flatMap_append]
  simpa using h2
end Go.Proofs.YtginnonjdbpamaaGreatDoor
/- More on slices of the call's own: an element of two cells stored; kept below a bound. -/
namespace Go.Proofs.YtginnonjdbpamaaGreatDoor
open Go.RowKit
section
variable {α : Type} {w w' : World} {B : Nat} {T : TypeId} {enc : α → List Value} {xs : List α} {g n cap : Nat}
theorem Own.keepB {size : Nat} {v : Value} {B' : Nat} (h : Own w B T size enc v xs) (hb : Below B' w w') (hg : ∀ k, v.ownBlock = some k → k < B') : Own w' B T size enc v xs := by
 refine ⟨h.1, ?_⟩
 rcases h.2 with h2 | ⟨g, cap, cur, hv, hg', hh, r⟩
 ·exact .inl h2
 ·exact .inr ⟨g, cap, cur, hv, hg', (hb.block g (hg g (by rw [hv]; rfl))).trans hh, r⟩
theorem Own.setNe {size : Nat} {v : Value} (h : Own w B T size enc v xs) {p : Addr} (hne : ∀ k, v.ownBlock = some k → k ≠ p.block) (u : Value) : Own (w.setCell p u) B T size enc v xs := by
 refine ⟨h.1, ?_⟩
 rcases h.2 with h2 | ⟨g, cap, cur, hv, hg', hh, r⟩
 ·exact .inl h2
 ·exact .inr ⟨g, cap, cur, hv, hg', (Below.heap_setCell w p u g (hne g (by rw [hv]; rfl))).trans hh, r⟩
end
def lenV : Value → Nat | .slice _ n _ => n | _ => 0
theorem lenV_own {α : Type} {w : World} {B : Nat} {T : TypeId} {size : Nat} {enc : α → List Value} {v : Value} {xs : List α} (h : Own w B T size enc v xs) : lenV v = xs.length := by
 rcases h.2 with ⟨h1, h2⟩ | ⟨_, _, _, h1, _⟩
 ·rw [h1]; exact h2.symm
 ·rw [h1]; rfl
end Go.Proofs.YtginnonjdbpamaaGreatDoor
/- A region that draws its order: a head whose operations may come up in whatever order (among them calls and new variables), one condition on the world held all through it, and behind all of the head a tail in sequence. What yields in every world of the condition is taken first. -/
namespace Go.Proofs.YtginnonjdbpamaaGreatDoor
open Go.RowKit Go.Sort
section
variable {P : Program} {ops : Array Oper} {md : Region.Mode} {S : World → Prop} {Q : Exit → Act → World → Prop} {hs ts : List Nat}
def wpHB (P : Program) (md : Region.Mode) (ops : Array Oper) (Q : Exit → Act → World → Prop) (S : World → Prop) (hs ts : List Nat) : Nat → Array Bool → Act → World → Prop
 | 0, listed, a, w => Cl md ops listed → (overB md ops hs listed = true ∧ tlB md ops ts listed = true) ∧ wpList P ops Q (xAm ops ts) a w
 | f + 1, listed, a, w => Cl md ops listed → Region.ready md ops listed ≠ [] ∧ ∀ i ∈ Region.ready md ops listed, hs.contains i = true ∧ wpOp P ops Q i (fun a' w' => S w' ∧ wpHB P md ops Q S hs ts f (listed.setIfInBounds i true) a' w') a w
theorem xE7 (hsel : Region.noSelect ops = true) (hQ : xCm Q) : ∀ (f : Nat) (listed : Array Bool) (a : Act) (w : World), Cl md ops listed → wpHB P md ops Q S hs ts f listed a w → wpAny P md ops Q (f + ts.length) listed a w
 | 0, listed, a, w, hcl, h => by
  obtain ⟨⟨h1, h2⟩, h3⟩ := h hcl
  rw [Nat.zero_add]
  exact xBp hsel hQ ts listed a w h2 h3
 | f + 1, listed, a, w, hcl, h => by
  obtain ⟨h1, h2⟩ := h hcl
  rw [show f + 1 + ts.length = (f + ts.length) + 1 by omega]
  exact ⟨fun h0 => absurd h0 h1, fun i hi => wpOp_mono (fun a' w' h' => xE7 hsel hQ f _ a' w' (hcl.set hi) h'.2) (h2 i hi).2⟩
theorem wpHB_first {i : Nat} {oi : Oper} {v : Value} (hi : ops[i]? = some oi) (hsel : ∀ (j : Nat) (o : Oper) cs b, ops[j]? = some o → o.op ≠ .select cs b) (hd : dirB md ops hs = true) (hin : i ∈ hs)
  (hQ : ∀ c a w, Q (.panic c) (a.put oi.dst v) w → Q (.panic c) a w) :
  ∀ (f : Nat) (listed : Array Bool) (a : Act) (w : World),
   (∀ j oj, ops[j]? = some oj → j ≠ i → listed.getD j true = false → (∀ e ∈ oj.after, Region.binds md e = true → e.on ≠ i) → oi.apart ops oj = true) →
   i ∈ Region.ready md ops listed → YieldsIf P ops S oi v a → S w →
   wpHB P md ops Q S hs ts f (listed.setIfInBounds i true) (a.put oi.dst v) w → wpHB P md ops Q S hs ts (f + 1) listed a w := by
 intro f
 induction f with
 | zero =>
  intro listed a w _ hr hy hS H hcl
  have H' := H (hcl.set hr)
  have hun := (mem_ready.1 hr).1
  refine ⟨fun h => (by rw [h] at hr; cases hr), fun j hj => ?_⟩
  have hjn : hs.contains j = true := by
   cases hc : hs.contains j with
   | true => rfl
   | false => exact absurd hj (xE0 hd hcl hc hin hun)
  refine ⟨hjn, ?_⟩
  by_cases hji : j = i
  ·subst hji; exact hy.wpOp hi hS ⟨hS, H⟩
  ·have h5 := List.all_eq_true.1 H'.1.1 j (ready_mono hj hji)
   rw [hjn] at h5
   cases h5
 | succ f ih =>
  intro listed a w hfree hr hy hS H hcl
  have H' := H (hcl.set hr)
  have hun := (mem_ready.1 hr).1
  refine ⟨fun h => (by rw [h] at hr; cases hr), fun j hj => ?_⟩
  have hjn : hs.contains j = true := by
   cases hc : hs.contains j with
   | true => rfl
   | false => exact absurd hj (xE0 hd hcl hc hin hun)
  refine ⟨hjn, ?_⟩
  by_cases hji : j = i
  ·subst hji; exact hy.wpOp hi hS ⟨hS, H⟩
  ·have h1 := (H'.2 j (ready_mono hj hji)).2
   obtain ⟨hjun, oj, hoj, hall⟩ := mem_ready.1 hj
   have hnot : ∀ e ∈ oj.after, Region.binds md e = true → e.on ≠ i := fun e he hb heq => by
    have h3 := hall e he hb
    rw [heq, getD_both hun] at h3
    cases h3
   have h2 := wpOp_putIf hoj (hfree j oj hoj hji hjun hnot) (fun cs b => hsel i oi cs b hi) (fun cs b => hsel j oj cs b hoj) hQ hy h1
   have hfree' : ∀ k ok, ops[k]? = some ok → k ≠ i → (listed.setIfInBounds j true).getD k true = false →
     (∀ e ∈ ok.after, Region.binds md e = true → e.on ≠ i) → oi.apart ops ok = true := fun k ok hk hki hku hno => by
    refine hfree k ok hk hki ?_ hno
    by_cases hjk : j = k
    ·subst hjk; exact hjun
    ·rw [getD_set_ne true hjk] at hku; exact hku
   refine wpOp_mono (fun a' w' h3 => ⟨h3.2.1, ih (listed.setIfInBounds j true) a' w' hfree' (ready_mono hr (Ne.symm hji)) h3.1 h3.2.1 ?_⟩) h2
   rw [Array.setIfInBounds_comm _ _ hji]
   exact h3.2.2
theorem xAd {i : Nat} {oi : Oper} {v : Value} {f : Nat} {listed : Array Bool} {a : Act} {w : World} (hd : dirB md ops hs = true) (hsel : Region.noSelect ops = true) (hQ : xCm Q) (hi : ops[i]? = some oi) (hin : hs.contains i = true)
  (hf : Region.free md ops listed i = true) (hr : (Region.ready md ops listed).contains i = true) (hy : YieldsIf P ops S oi v a) (hS : S w)
  (h : wpHB P md ops Q S hs ts f (listed.setIfInBounds i true) (a.put oi.dst v) w) : wpHB P md ops Q S hs ts (f + 1) listed a w :=
 wpHB_first hi (Region.noSelect_spec hsel) hd (by simpa using hin) (fun c a w hq => hQ c _ _ w (by cases oi.dst <;> rfl) hq) f listed a w (Region.free_spec hi hf) (by simpa using hr) hy hS h
def AllHB (P : Program) (md : Region.Mode) (ops : Array Oper) (Q : Exit → Act → World → Prop) (S : World → Prop) (hs ts : List Nat) (f : Nat) (listed : Array Bool) (a : Act) (w : World) (rs : List Nat) : Prop :=
 ∀ i ∈ rs, hs.contains i = true ∧ wpOp P ops Q i (fun a' w' => S w' ∧ wpHB P md ops Q S hs ts f (listed.setIfInBounds i true) a' w') a w
theorem AllHB.nil {f : Nat} {listed : Array Bool} {a : Act} {w : World} : AllHB P md ops Q S hs ts f listed a w [] := fun _ h => by cases h
theorem AllHB.cons {f : Nat} {listed : Array Bool} {a : Act} {w : World} {i : Nat} {o : Oper} {rs : List Nat} (hin : hs.contains i = true) (ho : ops[i]? = some o)
  (h : ∀ K' : Act → World → Prop, Go.Shut (∀ a w, S w → (S w → wpHB P md ops Q S hs ts f (listed.setIfInBounds i true) a w) → K' a w) → if Region.wanted o (yielded ops a.tmps) = true then Oper.wp P o a w K' Q else K' (a.put o.dst undef) w)
  (hr : AllHB P md ops Q S hs ts f listed a w rs) : AllHB P md ops Q S hs ts f listed a w (i :: rs) := fun j hj => by
 rcases List.mem_cons.1 hj with rfl | hj
 ·exact ⟨hin, wpOp_step ho (fun K' hK => h K' (fun a w hS hW => hK a w ⟨hS, hW hS⟩))⟩
 ·exact hr j hj
theorem xAr {rs : List Nat} {f : Nat} {listed : Array Bool} {a : Act} {w : World} (hr : Region.ready md ops listed = rs) (hne : rs ≠ [])
  (h : AllHB P md ops Q S hs ts f listed a w rs) : wpHB P md ops Q S hs ts (f + 1) listed a w := fun _ => ⟨fun h0 => hne (hr ▸ h0), hr ▸ h⟩
theorem xBf {listed : Array Bool} {a : Act} {w : World} (h1 : overB md ops hs listed = true) (h2 : tlB md ops ts listed = true) (h : wpList P ops Q (xAm ops ts) a w) : wpHB P md ops Q S hs ts 0 listed a w := fun _ => ⟨⟨h1, h2⟩, h⟩
end
theorem xBo {P : Program} {id : Nat} {Q : Exit → Act → World → Prop} {a : Act} {w : World} {l : List Oper} (S : World → Prop) (hs ts : List Nat) (hm : P.follows .mixedOrders = true)
  (hB : (Region.noSelect l.toArray && decide (hs.length + ts.length = l.toArray.size) && dirB .any l.toArray hs) = true) (hQ : xCm Q) (hS : S w.drew)
  (h : dirB .any l.toArray hs = true → Region.noSelect l.toArray = true → xCm Q → S w.drew → wpHB P .any l.toArray Q S hs ts hs.length (Array.replicate l.toArray.size false) a w.drew) : (Code.region id l.toArray true).wp P Q a w := by
 simp only [Bool.and_eq_true, decide_eq_true_eq] at hB
 obtain ⟨⟨hsel, hn⟩, hd⟩ := hB
 refine wp_region_any hm ?_
 have := xE7 (md := .any) (ts := ts) hsel hQ hs.length (Array.replicate l.toArray.size false) a w.drew (fun j oj _ hl => by rw [getD_replicate_false] at hl; cases hl) (h hd hsel hQ hS)
 rwa [hn] at this
theorem yieldsIf_row {P : Program} {ops : Array Oper} {S : World → Prop} {op : Oper} {a : Act} (hw : Region.wanted op (yielded ops a.tmps) = true) (ty : TypeId) (x : Operand) (ho : op.op = .load ty x) (g : Nat) (hx : a.eval x = .pointer (some ⟨g, 0, none⟩)) (t : TypeId) (cs : Array Value) (hS : ∀ w, S w → Blk w g t cs)
  (hu : ∃ fs, P.underlying ty = some (.struct fs)) (hi : (P.info? ty).map (·.size) = some cs.size) : YieldsIf P ops S op (.agg cs) a := by
 obtain ⟨fs, hu⟩ := hu
 refine .inl ⟨hw, fun w hs => ?_⟩
 have h1 := run_loadVar_row w g t ty cs (0, 0) _ (hS w hs) hu rfl hi
 unfold execOp
 simp only [ho, hx, Instr.loadAt, Instr.sureAddr, Sem.run_bind, Sem.run_pure, Result.andThen_ok]
 rw [h1]
 rfl
theorem Blk.range {w : World} {b : Nat} {t : TypeId} {pre mid post : List Value} (h : Blk w b t (pre ++ mid ++ post).toArray) : w.rangeAt b pre.length mid := fun j v hv => by
 rw [h.cell]
 have hj := (qzM hv).1
 rw [qzA, List.append_assoc, List.getElem?_append_right (by omega), show pre.length + j - pre.length = j by omega, List.getElem?_append_left hj]
 exact hv
structure Upd (w w' : World) (g : Nat) : Prop where
 b : ∀ B, B ≤ g → Below B w w'
 f : ∀ x, x ≠ g → w'.heap[x]? = w.heap[x]?
 s : w'.heap.size = w.heap.size
theorem Upd.cell {w w' : World} {g : Nat} (h : Upd w w' g) {x o : Nat} (hx : x ≠ g) : w'.cell? ⟨x, o, none⟩ = w.cell? ⟨x, o, none⟩ := World.cell?_of_block (h.f x hx)
theorem Blk.upd {w w' : World} {g b : Nat} {t : TypeId} {cs : Array Value} (h : Blk w b t cs) (u : Upd w w' g) (hb : b ≠ g) : Blk w' b t cs := (u.f b hb).trans h
theorem Upd.refl (w : World) (g : Nat) : Upd w w g := ⟨fun _ _ => Below.refl _ _, fun _ _ => rfl, rfl⟩
theorem Upd.setCell {w w' : World} {g : Nat} (h : Upd w w' g) (o : Nat) (v : Value) : Upd w (w'.setCell ⟨g, o, none⟩ v) g :=
 ⟨fun B hB => (h.b B hB).setCell (p := ⟨g, o, none⟩) hB v, fun x hx => (Below.heap_setCell w' ⟨g, o, none⟩ v x hx).trans (h.f x hx), by simpa using h.s⟩
theorem Upd.setCells {w : World} {g : Nat} : ∀ (vs : List Value) (o : Nat) (w' : World), Upd w w' g → Upd w (w'.setCells g o vs) g
 | [], _, _, h => h
 | v :: vs, o, w', h => by
  simp only [World.setCells]
  exact Upd.setCells vs (o + 1) _ (h.setCell o v)
theorem Upd.trans {a b c : World} {g : Nat} (h : Upd a b g) (k : Upd b c g) : Upd a c g := ⟨fun B hB => (h.b B hB).trans (k.b B hB), fun x hx => (k.f x hx).trans (h.f x hx), k.s.trans h.s⟩
theorem Seg.upd {α : Type} {w w' : World} {g B size : Nat} {enc : α → List Value} {A : Option Addr} {xs : List α} (h : Seg w B size enc A xs) (u : Upd w w' g) (hp : ∀ a, A = some a → a.block ≠ g) : Seg w' B size enc A xs := fun k x hx => by
 obtain ⟨b, off, e, hb, hc⟩ := h k x hx
 exact ⟨b, off, e, hb, fun j v hv => (u.cell (hp _ e)).trans (hc j v hv)⟩
theorem Own.upd {α : Type} {w w' : World} {B g : Nat} {T : TypeId} {size : Nat} {enc : α → List Value} {v : Value} {xs : List α} (h : Own w B T size enc v xs) (u : Upd w w' g) (hg : ∀ k, v.ownBlock = some k → k ≠ g) : Own w' B T size enc v xs := by
 refine ⟨h.1, ?_⟩
 rcases h.2 with h2 | ⟨k, cap, cur, hv, hk, hh, r⟩
 ·exact .inl h2
 ·exact .inr ⟨k, cap, cur, hv, hk, by rw [u.f k (hg k (by rw [hv]; rfl))]; exact hh, r⟩
theorem xG9 {P : Program} {o : Oper} {a : Act} {w : World} {K : Act → World → Prop} {Q : Exit → Act → World → Prop} (ty : TypeId) (x y : Operand) (ho : o.op = .store ty x y) (g : Nat) (t : TypeId) (pre old post cs : List Value) (hx : a.eval x = .pointer (some ⟨g, pre.length, none⟩)) (hy : a.eval y = .agg cs.toArray)
  (hb : Blk w g t (pre ++ old ++ post).toArray) (hlen : old.length = cs.length) (hi : (P.info? ty).map (·.size) = some cs.length) (h1 : ∀ v ∈ cs, v.oneCell' = true)
  (h : ∀ w', Blk w' g t (pre ++ cs ++ post).toArray → Upd w w' g → K (a.put o.dst undef) w') : o.wp P a w K Q := by
 refine wp_store_mid ty x y ho g pre.length cs.toArray hx hy ?_ (by simpa using hi) (all_oneCell_toArray h1) ?_
 ·intro j hj
  simp only [List.size_toArray] at hj
  rw [hb.cell, hb.frozen]
  refine ⟨?_, rfl⟩
  simp; omega
 ·rw [List.toList_toArray]
  exact h _ (xEn cs pre old post w hlen hb) (Upd.setCells cs pre.length w (Upd.refl w g))
theorem xAg {P : Program} {ops : Array Oper} {rest : List Oper} {Q : Exit → Act → World → Prop} {a : Act} {w : World} {o : Oper} (hgd : o.guard = none) (ty : TypeId) (x y : Operand) (ho : o.op = .store ty x y) (g : Nat) (t : TypeId) (pre old post cs : List Value) (hx : a.eval x = .pointer (some ⟨g, pre.length, none⟩)) (hy : a.eval y = .agg cs.toArray)
  (hb : Blk w g t (pre ++ old ++ post).toArray) (hlen : old.length = cs.length) (hi : (P.info? ty).map (·.size) = some cs.length) (h1 : ∀ v ∈ cs, v.oneCell' = true)
  (h : ∀ w', Blk w' g t (pre ++ cs ++ post).toArray → Upd w w' g → wpList P ops Q rest (a.put o.dst undef) w') : wpList P ops Q (o :: rest) a w :=
 wpList_plain hgd fun _K hK => xG9 ty x y ho g t pre old post cs hx hy hb hlen hi h1 fun w' h2 h3 => hK _ _ (h w' h2 h3)
end Go.Proofs.YtginnonjdbpamaaGreatDoor
