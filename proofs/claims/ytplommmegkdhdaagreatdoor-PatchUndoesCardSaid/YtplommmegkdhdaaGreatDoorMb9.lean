/- Contracts of functions and plain laws, joined: Kba, Own, Own2, Cpy, Kbb, Pk3. -/
import Derived.Test.YtplommmegkdhdaaGreatDoorMb8
import Derived.Test.YtplommmegkdhdaaGreatDoorMb2
import Derived.OwnWalk
import Derived.Deep.AppendLies
import Derived.Laws.AppendOwnNone
import Derived.Test.YtplommmegkdhdaaGreatDoorMb4
/- The walk of contract.Valid at every contract in memory. -/
namespace Go.Proofs.YtplommmegkdhdaaGreatDoor
open Go.RowKit

theorem kind_any (c : Con) (m : Cm) (x : Km) (w : World) (hs : Seg w w.heap.size 7 eA m.a c.ac) : Calls Tryz.prog 56 #[.agg (coA c m), .agg (kA x)] w fun e w' => e = .returned (.bool (c.kindOk x.k)) ∧ Below w.heap.size w w' :=
  kind_key c m x (c.mov x.k.role) (c.nat x.k.act) w (fun W => mov_any c m _ W) (fun W hb => nat_any c m _ W ((hs.below hb).more hb.size)) (c.kindOk x.k) rfl
theorem act_any (c : Con) (m : Cm) (x : Atc) (w : World) (hb : I64 x.lot.1 ∧ I64 x.lot.2) : Calls Tryz.prog 55 #[.agg (coA c m), .agg (aA x)] w fun e w' => e = .returned (.bool (c.actOk x)) ∧ Below w.heap.size w w' := by
  cases h : c.mov x.role with
  | true =>
    have e : c.actOk x = if x.kind == 1 then x.give == 0 && (x.to_ == -1 || c.mov x.to_) && (if x.unit == -1 then zer x.lot else isI x.unit c.un.length && psv (x.lot.1, x.lot.2)) else (x.kind == 2 || x.kind == 3) && c.mov x.give && decide (0 ≤ x.to_) && decide (x.to_ < c.par) && x.unit == -1 && zer x.lot := by
      unfold Con.actOk; rw [h]; rfl
    rw [e]
    exact act_mov c m x (c.mov x.role) (c.mov x.to_) (c.mov x.give) (psv (x.lot.1, x.lot.2)) w (fun W => mov_any c m _ W) (fun W => mov_any c m _ W) (fun W => mov_any c m _ W) (fun W => none_any W) (fun W => pos_any _ _ W hb.1 hb.2) h
  | false =>
    have e : c.actOk x = (x.kind == 1 && x.role == -1 && x.give == 0 && (x.to_ == -1 || c.mov x.to_) && x.unit == -1 && zer x.lot) := by
      unfold Con.actOk; rw [h]; rfl
    rw [e]
    exact act_nat c m x (c.mov x.role) (c.mov x.to_) (c.mov x.give) (psv (x.lot.1, x.lot.2)) w (fun W => mov_any c m _ W) (fun W => mov_any c m _ W) (fun W => mov_any c m _ W) (fun W => none_any W) (fun W => pos_any _ _ W hb.1 hb.2) h
theorem framed_any (c : Con) (m : Cm) (w : World) (h : Cont w c m) (hp : c.par ≤ 12) : Calls Tryz.prog 38 #[.agg (coA c m)] w fun e w' => e = .returned (.bool c.framed) ∧ Below w.heap.size w w' :=
  framed_key c m (c.hold.all fun h => decide (0 ≤ h) && decide (h < c.par)) (unsOk c.un 0 c.un) w h.a h.o h.na h.no (fun W hb => held_any c m W ((h.h.below hb).more hb.size) h.nh (by omega)) (fun W hb => uns_any c.un m.u m.uc W ((h.u.below hb).more hb.size) h.bu h.nu h.cu)
    (fun x hx W _ => act_any c m x W (h.ba x hx)) c.framed rfl
theorem cla_any (c : Con) (m : Cm) (i : Nat) (k : Cla) (w : World) (h : Cont w c m) (hk : c.cl[i]? = some k) : Calls Tryz.prog 39 #[.agg (coA c m), .int .i64 (i : Nat)] w fun e w' => e = .returned (.bool (c.claOk i k)) ∧ Below w.heap.size w w' := by
  obtain ⟨x, hx, rfl⟩ := km_at h.e hk
  have kx := h.t x (List.mem_of_getElem? hx)
  have hs : ∀ W, Below w.heap.size w W → Seg W W.heap.size 7 eA m.a c.ac := fun W hb => (h.a.below hb).more hb.size
  exact cla_key c m i x (c.kindOk x.k) (c.nat x.k.pause) (c.nat x.k.resume) (psv (x.k.v.1, x.k.v.2)) (c.mov x.k.to_) w hx (List.getElem?_eq_some_iff.1 hk).1 h.k kx.s h.u h.nk (fun W hb => kind_any c m x W (hs W hb)) (fun W hb => nat_any c m _ W (hs W hb)) (fun W hb => nat_any c m _ W (hs W hb))
    (fun W _ => none_any W) (fun W _ => pos_any _ _ W kx.v.1 kx.v.2) (fun W _ => mov_any c m _ W) (c.claOk i x.k) rfl
set_option maxRecDepth 100000 in
set_option maxHeartbeats 6400000 in
theorem valid_c (c : Con) (m : Cm) (w : World) (h : Cont w c m) : Calls Tryz.prog 21 #[.agg (coA c m)] w fun e w' => (∃ a b : Int, e = .returned (.tuple #[.int .i64 a, .int .i64 b]) ∧ (a = 0 ↔ c.ok = true)) ∧ Below w.heap.size w w' := by
  have HC := Lib.hid h
  clear h
  have nk := HC.out.nk
  go_enter Tryz.func21, Tryz.ntmps21
  go_upto_region 1 with (fail)
  refine name_wp ?_
  intro X hX
  have ga : Blk X w.heap.size 27 (coA c m) := by rw [hX]; exact Blk.new _ _ _
  have HB : Hid (Below w.heap.size w X) := by rw [hX]; exact wa1 _ _
  obtain ⟨ba, eb⟩ : ∃ b, w.heap.size = b := ⟨_, rfl⟩
  rw [eb] at ga ⊢
  clear hX eb
  have k0 : X.cell? ⟨ba, 0, none⟩ = some (.int .i64 c.par) := (ga).cell 0
  have k1 : X.cell? ⟨ba, 1, none⟩ = some (.slice m.h c.hold.length m.hc) := (ga).cell 1
  have k2 : X.cell? ⟨ba, 2, none⟩ = some (.slice m.u c.un.length m.uc) := (ga).cell 2
  have k3 : X.cell? ⟨ba, 3, none⟩ = some (.slice m.a c.ac.length m.ac) := (ga).cell 3
  have k4 : X.cell? ⟨ba, 4, none⟩ = some (.slice m.k c.cl.length m.kc) := (ga).cell 4
  have k5 : X.cell? ⟨ba, 5, none⟩ = some (.int .i64 c.days) := (ga).cell 5
  have k6 : X.cell? ⟨ba, 6, none⟩ = some (.slice m.o c.off.length m.oc) := (ga).cell 6
  have lim : ∀ {p : Prop} [Decidable p], ¬ p → (c.lim = true → p) → Hid (c.ok = false) := fun {p} _ hn hi => by
    unfold Hid Con.ok
    cases hl : c.lim with
    | false => rfl
    | true => exact absurd (hi hl) hn
  have lims : c.lim = true → c.par ≤ 12 ∧ c.days ≤ 2000 ∧ c.hold.length ≤ 12 ∧ c.un.length ≤ 20 ∧ c.ac.length ≤ 60 ∧ c.cl.length ≤ 400 := fun h => by
    unfold Con.lim at h
    simp only [Bool.and_eq_true, decide_eq_true_eq] at h
    omega
  by_cases p0 : 12 < c.par
  · have t0 := decide_eq_true p0
    have hf := lim (p := c.par ≤ 12) (by omega) (fun h => by have := lims h; omega)
    clear lim lims
    go_wp2
    refine bodyPost_ret (by simp [results, Tryz.results21, go_sem, *]; rfl) rfl ⟨?_, ?_⟩
    · first | exact ⟨_, ⟨_, rfl⟩, ⟨fun h => (by cases h), fun h => by rw [hf.out] at h; cases h⟩⟩ | exact ⟨_, _, rfl, ⟨fun h => (by cases h), fun h => by rw [hf.out] at h; cases h⟩⟩
    · exact HB.out
  have t0 := decide_eq_false p0
  by_cases p1 : 2000 < c.days
  · have t1 := decide_eq_true p1
    have hf := lim (p := c.days ≤ 2000) (by omega) (fun h => by have := lims h; omega)
    clear lim lims
    go_wp2
    refine bodyPost_ret (by simp [results, Tryz.results21, go_sem, *]; rfl) rfl ⟨?_, ?_⟩
    · first | exact ⟨_, ⟨_, rfl⟩, ⟨fun h => (by cases h), fun h => by rw [hf.out] at h; cases h⟩⟩ | exact ⟨_, _, rfl, ⟨fun h => (by cases h), fun h => by rw [hf.out] at h; cases h⟩⟩
    · exact HB.out
  have t1 := decide_eq_false p1
  by_cases p2 : (12 : Int) < c.hold.length
  · have t2 := decide_eq_true p2
    have hf := lim (p := c.hold.length ≤ 12) (by omega) (fun h => by have := lims h; omega)
    clear lim lims
    go_wp2
    refine bodyPost_ret (by simp [results, Tryz.results21, go_sem, *]; rfl) rfl ⟨?_, ?_⟩
    · first | exact ⟨_, ⟨_, rfl⟩, ⟨fun h => (by cases h), fun h => by rw [hf.out] at h; cases h⟩⟩ | exact ⟨_, _, rfl, ⟨fun h => (by cases h), fun h => by rw [hf.out] at h; cases h⟩⟩
    · exact HB.out
  have t2 := decide_eq_false p2
  by_cases p3 : (20 : Int) < c.un.length
  · have t3 := decide_eq_true p3
    have hf := lim (p := c.un.length ≤ 20) (by omega) (fun h => by have := lims h; omega)
    clear lim lims
    go_wp2
    refine bodyPost_ret (by simp [results, Tryz.results21, go_sem, *]; rfl) rfl ⟨?_, ?_⟩
    · first | exact ⟨_, ⟨_, rfl⟩, ⟨fun h => (by cases h), fun h => by rw [hf.out] at h; cases h⟩⟩ | exact ⟨_, _, rfl, ⟨fun h => (by cases h), fun h => by rw [hf.out] at h; cases h⟩⟩
    · exact HB.out
  have t3 := decide_eq_false p3
  by_cases p4 : (60 : Int) < c.ac.length
  · have t4 := decide_eq_true p4
    have hf := lim (p := c.ac.length ≤ 60) (by omega) (fun h => by have := lims h; omega)
    clear lim lims
    go_wp2
    refine bodyPost_ret (by simp [results, Tryz.results21, go_sem, *]; rfl) rfl ⟨?_, ?_⟩
    · first | exact ⟨_, ⟨_, rfl⟩, ⟨fun h => (by cases h), fun h => by rw [hf.out] at h; cases h⟩⟩ | exact ⟨_, _, rfl, ⟨fun h => (by cases h), fun h => by rw [hf.out] at h; cases h⟩⟩
    · exact HB.out
  have t4 := decide_eq_false p4
  by_cases p5 : (400 : Int) < c.cl.length
  · have t5 := decide_eq_true p5
    have hf := lim (p := c.cl.length ≤ 400) (by omega) (fun h => by have := lims h; omega)
    clear lim lims
    go_wp2
    refine bodyPost_ret (by simp [results, Tryz.results21, go_sem, *]; rfl) rfl ⟨?_, ?_⟩
    · first | exact ⟨_, ⟨_, rfl⟩, ⟨fun h => (by cases h), fun h => by rw [hf.out] at h; cases h⟩⟩ | exact ⟨_, _, rfl, ⟨fun h => (by cases h), fun h => by rw [hf.out] at h; cases h⟩⟩
    · exact HB.out
  have t5 := decide_eq_false p5
  have hlim : Hid (c.lim = true) := by
    unfold Hid Con.lim
    simp only [Bool.and_eq_true, decide_eq_true_eq]
    omega
  have HF := Lib.hid (fun W hb => framed_any c m W (HC.out.then_ hb) (by omega))
  have hp0 : c.par ≤ 12 := by omega
  clear lim lims p0 p1 p2 p3 p4 p5
  cases hfr : c.framed with
  | false =>
    rw [hfr] at HF
    have hf : Hid (c.ok = false) := by unfold Hid Con.ok; rw [hfr, Bool.and_false]; rfl
    go_wp2_with (go_at_call 38; (with_reducible refine (HF.out _ HB.out).mono ?_); rintro e w1 ⟨rfl, hbw1⟩)
    refine bodyPost_ret (by simp [results, Tryz.results21, go_sem, *]; rfl) rfl ⟨?_, ?_⟩
    · first | exact ⟨_, ⟨_, rfl⟩, ⟨fun h => (by cases h), fun h => by rw [hf.out] at h; cases h⟩⟩ | exact ⟨_, _, rfl, ⟨fun h => (by cases h), fun h => by rw [hf.out] at h; cases h⟩⟩
    · exact below_then HB.out hbw1
  | true =>
  rw [hfr] at HF
  have hok : Hid (c.ok = c.clsOk 0 c.cl) := by unfold Hid Con.ok; rw [hlim.out, hfr]; rfl
  go_upto_region 5 with (go_at_call 38; (with_reducible refine (HF.out _ HB.out).mono ?_); rintro e w1 ⟨rfl, hbw1⟩)
  refine name_wp ?_
  intro Y hY
  have gb : Blk Y ba 27 (coA c m) := by rw [hY]; exact ga.then_ hbw1
  have HY : Hid (Below w.heap.size w Y) := by rw [hY]; exact below_then HB.out hbw1
  clear hY hbw1 ga HB t0 t1 t2 t3 t4 t5 k0 k1 k2 k3 k4 k5 k6 HF hlim hfr hp0
  have k4 : Y.cell? ⟨ba, 4, none⟩ = some (.slice m.k c.cl.length m.kc) := gb.cell 4
  go_upto_region 6 with (fail)
  clear k4
  have lY := HY.out.size
  go_loopw [43] (fun y WR => ∃ j : Nat, j ≤ c.cl.length ∧ y = .int .i64 j ∧ Hid (∀ n k, n < j → c.cl[n]? = some k → c.claOk n k = true) ∧ Below Y.heap.size Y WR) (fun y _ => 2000000 - (intOf y).toNat)
  case atStart => exact ⟨0, by omega, rfl, fun n u h => absurd h (by omega), Below.refl _ _⟩
  case round =>
    obtain ⟨j, hj, rfl, hN, hbr⟩ := hrel
    have ga := gb.then_ hbr
    have HBR := Lib.hid (below_then HY.out hbr)
    have HBZ := Lib.hid hbr
    by_cases hlt : j < c.cl.length
    · have tj : decide ((j : Int) < (c.cl.length : Int)) = true := decide_eq_true (by omega)
      obtain ⟨k, hk⟩ : ∃ k, c.cl[j]? = some k := ⟨_, List.getElem?_eq_getElem hlt⟩
      have HX := Lib.hid hk
      have HV := Lib.hid (cla_any c m j k wr (HC.out.then_ HBR.out) hk)
      clear hk hbr
      have k0 : wr.cell? ⟨ba, 0, none⟩ = some (.int .i64 c.par) := (ga).cell 0
      have k1 : wr.cell? ⟨ba, 1, none⟩ = some (.slice m.h c.hold.length m.hc) := (ga).cell 1
      have k2 : wr.cell? ⟨ba, 2, none⟩ = some (.slice m.u c.un.length m.uc) := (ga).cell 2
      have k3 : wr.cell? ⟨ba, 3, none⟩ = some (.slice m.a c.ac.length m.ac) := (ga).cell 3
      have k4 : wr.cell? ⟨ba, 4, none⟩ = some (.slice m.k c.cl.length m.kc) := (ga).cell 4
      have k5 : wr.cell? ⟨ba, 5, none⟩ = some (.int .i64 c.days) := (ga).cell 5
      have k6 : wr.cell? ⟨ba, 6, none⟩ = some (.slice m.o c.off.length m.oc) := (ga).cell 6
      cases hq : c.claOk j k with
      | true =>
        rw [hq] at HV
        go_wp2_with (go_at_call 39; (with_reducible refine HV.out.mono ?_); rintro e w1 ⟨rfl, hbw1⟩)
        go_roundw
        case rel => exact ⟨j + 1, by omega, by simp, fun n y hi hy => by
          by_cases h : n = j
          · subst h
            rw [HX.out] at hy
            injection hy with hy
            subst hy
            exact hq
          · exact hN.out n y (by omega) hy, below_then HBZ.out hbw1⟩
        case measure => simp [intOf]; omega
      | false =>
        rw [hq] at HV
        have hf : Hid (c.ok = false) := by
          unfold Hid
          rw [hok.out, Bool.eq_false_iff]
          intro h
          have := (Con.clsOk_iff c c.cl 0).1 h j k HX.out
          rw [Nat.zero_add, hq] at this
          cases this
        go_wp2_with (go_at_call 39; (with_reducible refine HV.out.mono ?_); rintro e w1 ⟨rfl, hbw1⟩)
        refine bodyPost_ret (by simp [results, Tryz.results21, go_sem, *]; rfl) rfl ⟨?_, ?_⟩
        · first | exact ⟨_, ⟨_, rfl⟩, ⟨fun h => (by cases h), fun h => by rw [hf.out] at h; cases h⟩⟩ | exact ⟨_, _, rfl, ⟨fun h => (by cases h), fun h => by rw [hf.out] at h; cases h⟩⟩
        · exact below_then HBR.out hbw1
    · have tj : decide ((j : Int) < (c.cl.length : Int)) = false := decide_eq_false (by omega)
      have hf : Hid (c.ok = true) := by
        unfold Hid
        rw [hok.out, Con.clsOk_iff]
        intro n k hk
        rw [Nat.zero_add]
        exact hN.out n k (by have := (List.getElem?_eq_some_iff.1 hk).1; omega) hk
      clear hbr hN gb
      go_wp2
      refine bodyPost_ret (by simp [results, Tryz.results21, go_sem, *]; rfl) rfl ⟨?_, ?_⟩
      · first | exact ⟨_, ⟨_, rfl⟩, ⟨fun _ => hf.out, fun _ => rfl⟩⟩ | exact ⟨_, _, rfl, ⟨fun _ => hf.out, fun _ => rfl⟩⟩
      · exact HBR.out
end Go.Proofs.YtplommmegkdhdaaGreatDoor
/- A slice of the call's own that holds a list of elements; one more element appended. -/
namespace Go.Proofs.YtplommmegkdhdaaGreatDoor
open Go.RowKit

/-- The slice value v, made from block B on, holds the list xs of elements of type T, of 'size' cells each (enc: an element's cells). -/
def Own {α : Type} (w : World) (B : Nat) (T : TypeId) (size : Nat) (enc : α → List Value) (v : Value) (xs : List α) : Prop := w.ownsRow B T size v xs.length (xs.flatMap enc)

theorem getElem?_flatMap {α : Type} {enc : α → List Value} {size : Nat} (he : ∀ x, (enc x).length = size) : ∀ (xs : List α) (k j : Nat) (x : α), xs[k]? = some x → j < size → (xs.flatMap enc)[k * size + j]? = (enc x)[j]?
  | [], k, j, x, h, _ => by simp at h
  | y :: ys, 0, j, x, h, hj => by
    simp only [List.getElem?_cons_zero, Option.some.injEq] at h
    subst h
    rw [List.flatMap_cons, Nat.zero_mul, Nat.zero_add, List.getElem?_append_left (by rw [he]; exact hj)]
  | y :: ys, k + 1, j, x, h, hj => by
    rw [List.getElem?_cons_succ] at h
    rw [List.flatMap_cons, List.getElem?_append_right (by rw [he, Nat.add_mul]; omega), he, show (k + 1) * size + j - size = k * size + j by rw [Nat.add_mul]; omega]
    exact getElem?_flatMap he ys k j x h hj

section
variable {α : Type} {w w' : World} {B : Nat} {T : TypeId} {size : Nat} {enc : α → List Value} {v : Value} {xs : List α}
theorem Own.nil (w : World) (B : Nat) (T : TypeId) (size : Nat) (enc : α → List Value) : Own w B T size enc (.slice none 0 0) [] := World.ownsRow_nil w B T size
theorem grown_of_below (h : Below w.heap.size w w') (row : Option Nat) : w.grownBy w' row := ⟨h.os, h.tape, h.output, h.size, fun i hi _ => h.block i hi⟩
theorem Own.below (h : Own w B T size enc v xs) (hb : Below w.heap.size w w') : Own w' B T size enc v xs := h.kept (grown_of_below hb none) (by cases hv : v.ownBlock <;> simp)
theorem Own.alloc (h : Own w B T size enc v xs) (o : Obj) : Own (w.alloc o) B T size enc v xs := World.ownsRow.alloc h o
theorem Own.drewN (h : Own w B T size enc v xs) (n : Nat) : Own (w.drewN n) B T size enc v xs := h
theorem Own.setBelow (h : Own w B T size enc v xs) {p : Addr} (hp : p.block < B) (u : Value) : Own (w.setCell p u) B T size enc v xs := ownsRow_setCell_below h hp u
theorem Own.more (h : Own w B T size enc v xs) {B' : Nat} (hB : B' ≤ B) : Own w B' T size enc v xs := by
  refine ⟨h.1, ?_⟩
  rcases h.2 with h2 | ⟨g, cap, cur, hv, hg, r⟩
  · exact .inl h2
  · exact .inr ⟨g, cap, cur, hv, by omega, r⟩
/-- a store into a block of another element type -/
theorem Own.setOther (h : Own w B T size enc v xs) {p : Addr} {t : TypeId} {cs : Array Value} (hb : Blk w p.block t cs) (ht : T ≠ t) (u : Value) : Own (w.setCell p u) B T size enc v xs := by
  refine ⟨h.1, ?_⟩
  rcases h.2 with h2 | ⟨g, cap, cur, hv, hg, hh, r⟩
  · exact .inl h2
  · have hne : g ≠ p.block := by
      intro e
      unfold Blk at hb
      rw [← e, hh] at hb
      injection hb with hb
      injection hb with _ h4
      exact ht h4
    exact .inr ⟨g, cap, cur, hv, hg, by rw [Below.heap_setCell _ _ _ _ hne]; exact hh, r⟩
theorem Own.seg (h : Own w B T size enc v xs) (he : ∀ x, (enc x).length = size) : ∃ A c, v = .slice A xs.length c ∧ xs.length ≤ c ∧ Seg w w.heap.size size enc A xs := by
  rcases h.2 with ⟨rfl, h0⟩ | ⟨g, cap, cur, rfl, hb, hg, hc, _, _, ht⟩
  · obtain rfl : xs = [] := List.eq_nil_of_length_eq_zero h0
    exact ⟨none, 0, rfl, Nat.le_refl _, Seg.nil _ _ _ _ _⟩
  · refine ⟨some ⟨g, 0, none⟩, cap, rfl, hc, fun k x hx => ⟨g, 0, rfl, (Array.getElem?_eq_some_iff.1 hg).1, fun j u hu => ?_⟩⟩
    have hj : j < size := by rw [← he x]; exact (List.getElem?_eq_some_iff.1 hu).1
    have hk : k < xs.length := (List.getElem?_eq_some_iff.1 hx).1
    have h1 : k * size + j < xs.length * size := by
      have : (k + 1) * size ≤ xs.length * size := Nat.mul_le_mul_right _ hk
      rw [Nat.add_mul] at this; omega
    have h2 := h.cellAt (g := g) (cap := cap) (k * size + j) h1
    simp only [Nat.zero_add]
    rw [h2, getElem?_flatMap he xs k j x hx hj]; exact hu
end

/-- one more element appended: what is new lies in a block of its own -/
theorem wpList_app {P : Program} {α : Type} (w : World) {ops : Array Oper} {rest : List Oper} {o : Oper} {a : Act} {Q : Exit → Act → World → Prop} (hgd : o.guard = none) (s x : Operand) (t : TypeId)
    (ho : o.op = .call { callee := .builtin .append, args := #[s, x], argTypes := #[t, t] })
    (B : Nat) (e : TypeId) (i : TypeInfo) (z : Value) (size bytes : Nat) (ht : P.underlying t = some (.slice e)) (hi : P.info? e = some i) (hz : i.zero = some z)
    (hsize : i.size = size) (hby : i.bytes = bytes) (hzs : z.cells.size = size) (hsz : 0 < size) (hb1 : bytes ≤ 100000)
    (enc : α → List Value) (he : ∀ y, (enc y).length = size) (h1 : ∀ y, ∀ u ∈ enc y, u.oneCell' = true)
    (v : Value) (xs : List α) (hs : a.eval s = v) (hown : Own w B e size enc v xs) (hl : xs.length ≤ 1000000)
    (g c : Nat) (y : α) (hx : a.eval x = .slice (some ⟨g, 0, none⟩) 1 c) (hblk : Blk w g e (enc y).toArray) (hbase : B ≤ w.heap.size)
    (h : ∀ v' w', Own w' B e size enc v' (xs ++ [y]) → Below B w w' → w.grownBy w' v.ownBlock → wpList P ops Q rest (a.put o.dst v') w') : wpList P ops Q (o :: rest) a w := by
  refine wpList_append_own w hgd s x t ho B e i z size bytes ht hi hz hsize hby hzs hsz v xs.length (xs.flatMap enc) hs hown ⟨g, 0, none⟩ 1 c (enc y) hx (by rw [he]; simp) ?_ (h1 y) (by unfold maxLen; omega) ?_ hbase ?_
  · intro j u hu
    have hadd : (⟨g, 0, none⟩ : Addr).add j = ⟨g, j, none⟩ := by unfold Addr.add; split <;> simp_all
    rw [hadd, hblk.cell j]; simpa using hu
  · have : (xs.length + 1) * bytes ≤ 1000001 * 100000 := Nat.mul_le_mul (by omega) hb1
    omega
  · intro v' w' h2 h3 _
    refine h v' w' ?_ ((Below.refl B w).grown h3 hbase fun k hk => (World.ownsRow.lt hown k hk).1) h3
    unfold Own
    rw [List.length_append, List.flatMap_append]
    simpa using h2

/-- behind an append: a block that is newer than what was owned before it reads as it did -/
theorem grown_cell {α : Type} {w0 w w' : World} {B : Nat} {T : TypeId} {size : Nat} {enc : α → List Value} {v : Value} {xs : List α} (hO : Own w0 B T size enc v xs) (hg : w.grownBy w' v.ownBlock) {b : Nat} (o : Nat) (h1 : w0.heap.size ≤ b) (h2 : b < w.heap.size) :
    w'.cell? ⟨b, o, none⟩ = w.cell? ⟨b, o, none⟩ :=
  World.cell?_of_block (hg.block b h2 fun e => by have := (World.ownsRow.lt hO b e.symm).2; omega)
theorem blk_new1 (w : World) (o : Obj) (T : TypeId) (cs : Array Value) : Blk ((w.alloc o).alloc (.cells cs T)) (w.heap.size + 1) T cs := by simpa using Blk.new (w.alloc o) T cs
theorem bcellB {B : Nat} {W w1 : World} (hb : Below B W w1) : (∀ b o, b < B → w1.cell? ⟨b, o, none⟩ = W.cell? ⟨b, o, none⟩) ∧ (∀ b o, b < B → w1.frozen? ⟨b, o, none⟩ = W.frozen? ⟨b, o, none⟩) :=
  ⟨fun b o h => hb.cell (p := ⟨b, o, none⟩) h, fun b o h => hb.frozen (p := ⟨b, o, none⟩) h⟩
end Go.Proofs.YtplommmegkdhdaaGreatDoor
/- More on slices of the call's own: an element of two cells stored; kept below a bound. -/
namespace Go.Proofs.YtplommmegkdhdaaGreatDoor
open Go.RowKit

theorem set_flatMap {α : Type} {enc : α → List Value} {a b : Value} {r : α} (he : ∀ x, (enc x).length = 2) (hr : enc r = [a, b]) : ∀ (xs : List α) (k : Nat), k < xs.length → ((xs.flatMap enc).set (k * 2) a).set (k * 2 + 1) b = (xs.set k r).flatMap enc
  | [], k, h => by simp at h
  | x :: xs, 0, _ => by
    have h2 := he x
    match hx : enc x, h2 with
    | [u, v], _ => simp [hx, hr]
  | x :: xs, k + 1, h => by
    have h2 := he x
    have ih := set_flatMap he hr xs k (by simpa using h)
    match hx : enc x, h2 with
    | [u, v], _ =>
      simp only [List.flatMap_cons, hx, List.cons_append, List.nil_append, List.set_cons_succ, show (k + 1) * 2 = k * 2 + 1 + 1 by omega]
      rw [ih]

section
variable {α : Type} {w w' : World} {B : Nat} {T : TypeId} {enc : α → List Value} {xs : List α} {g n cap : Nat}
theorem Own.set2 (h : Own w B T 2 enc (.slice (some ⟨g, 0, none⟩) n cap) xs) (he : ∀ x, (enc x).length = 2) (hn : xs.length = n) {k : Nat} (hk : k < n) {a b : Value} {r : α} (hr : enc r = [a, b]) :
    Own ((w.setCell ⟨g, k * 2, none⟩ a).setCell ⟨g, k * 2 + 1, none⟩ b) B T 2 enc (.slice (some ⟨g, 0, none⟩) n cap) (xs.set k r) := by
  unfold Own at h ⊢
  rw [hn] at h
  have h1 := (World.ownsRow.stored h (k * 2) a).1
  have h2 := (World.ownsRow.stored h1 (k * 2 + 1) b).1
  rw [List.length_set, hn, ← set_flatMap he hr xs k (by omega)]
  exact h2
theorem Own.keepB {size : Nat} {v : Value} {B' : Nat} (h : Own w B T size enc v xs) (hb : Below B' w w') (hg : ∀ k, v.ownBlock = some k → k < B') : Own w' B T size enc v xs := by
  refine ⟨h.1, ?_⟩
  rcases h.2 with h2 | ⟨g, cap, cur, hv, hg', hh, r⟩
  · exact .inl h2
  · exact .inr ⟨g, cap, cur, hv, hg', (hb.block g (hg g (by rw [hv]; rfl))).trans hh, r⟩
theorem Own.setNe {size : Nat} {v : Value} (h : Own w B T size enc v xs) {p : Addr} (hne : ∀ k, v.ownBlock = some k → k ≠ p.block) (u : Value) : Own (w.setCell p u) B T size enc v xs := by
  refine ⟨h.1, ?_⟩
  rcases h.2 with h2 | ⟨g, cap, cur, hv, hg', hh, r⟩
  · exact .inl h2
  · exact .inr ⟨g, cap, cur, hv, hg', (Below.heap_setCell w p u g (hne g (by rw [hv]; rfl))).trans hh, r⟩
theorem Own.cellsAt (h : Own w B T 2 enc (.slice (some ⟨g, 0, none⟩) n cap) xs) (he : ∀ x, (enc x).length = 2) {k : Nat} {x : α} (hx : xs[k]? = some x) {a b : Value} (hr : enc x = [a, b]) :
    w.cell? ⟨g, k * 2, none⟩ = some a ∧ w.cell? ⟨g, k * 2 + 1, none⟩ = some b ∧ w.frozen? ⟨g, k * 2, none⟩ = false ∧ w.frozen? ⟨g, k * 2 + 1, none⟩ = false := by
  have hn : xs.length = n := by
    rcases h.2 with ⟨h1, _⟩ | ⟨_, _, _, h1, _⟩
    · cases h1
    · injection h1 with _ h2 _; exact h2.symm
  have hk : k < xs.length := (List.getElem?_eq_some_iff.1 hx).1
  unfold Own at h
  rw [hn] at h
  have e1 := World.ownsRow.cellAt h (k * 2) (by omega)
  have e2 := World.ownsRow.cellAt h (k * 2 + 1) (by omega)
  have g1 := getElem?_flatMap he xs k 0 x hx (by omega)
  have g2 := getElem?_flatMap he xs k 1 x hx (by omega)
  rw [hr] at g1 g2
  exact ⟨e1.trans g1, e2.trans g2, World.ownsRow.frozenAt h _, World.ownsRow.frozenAt h _⟩
end

/-- the length of a slice value -/
def lenV : Value → Nat | .slice _ n _ => n | _ => 0
theorem lenV_own {α : Type} {w : World} {B : Nat} {T : TypeId} {size : Nat} {enc : α → List Value} {v : Value} {xs : List α} (h : Own w B T size enc v xs) : lenV v = xs.length := by
  rcases h.2 with ⟨h1, h2⟩ | ⟨_, _, _, h1, _⟩
  · rw [h1]; exact h2.symm
  · rw [h1]; rfl
end Go.Proofs.YtplommmegkdhdaaGreatDoor
/- One walked step for 'append([]T{}, l...)': the list copied whole into a block of its own. Elements of a slice of the call's own read and stored. -/
namespace Go.Proofs.YtplommmegkdhdaaGreatDoor
open Go.RowKit

theorem flat_len {α : Type} {enc : α → List Value} {size : Nat} (he : ∀ x, (enc x).length = size) (l : List α) : (l.flatMap enc).length = l.length * size := by
  induction l with
  | nil => simp
  | cons a l ih => rw [List.flatMap_cons, List.length_append, ih, he, List.length_cons, Nat.succ_mul]; omega
theorem src_cells {α : Type} {enc : α → List Value} {size : Nat} (he : ∀ x, (enc x).length = size) (h0 : 0 < size) {w : World} {B : Nat} {A : Addr} {l : List α} (h : Seg w B size enc (some A) l) : ∀ j u, (l.flatMap enc)[j]? = some u → w.cell? (A.add j) = some u := by
  intro j u hu
  have hj := (List.getElem?_eq_some_iff.1 hu).1
  rw [flat_len he] at hj
  have hk : j / size < l.length := Nat.div_lt_of_lt_mul (by rw [Nat.mul_comm]; exact hj)
  obtain ⟨x, hx⟩ : ∃ x, l[j / size]? = some x := ⟨_, List.getElem?_eq_getElem hk⟩
  obtain ⟨b, off, e, hl, hc⟩ := h _ x hx
  cases e
  have hr : j % size < size := Nat.mod_lt _ h0
  have e1 : j / size * size + j % size = j := by rw [Nat.mul_comm]; exact Nat.div_add_mod j size
  have e2 := getElem?_flatMap (enc := enc) he l (j / size) (j % size) x hx hr
  rw [e1, hu] at e2
  have h4 := hc (j % size) u e2.symm
  rw [Nat.add_assoc, e1] at h4
  unfold Addr.add
  split
  · rename_i hz; subst hz; simpa using h4
  · exact h4
theorem wpList_copy {P : Program} {α : Type} {w : World} {ops : Array Oper} {rest : List Oper} {o : Oper} {a : Act} {Q : Exit → Act → World → Prop} (hgd : o.guard = none) (s x : Operand) (t : TypeId)
    (ho : o.op = .call { callee := .builtin .append, args := #[s, x], argTypes := #[t, t] })
    (B : Nat) (e : TypeId) (i : TypeInfo) (z : Value) (size bytes : Nat) (ht : P.underlying t = some (.slice e)) (hi : P.info? e = some i) (hz : i.zero = some z)
    (hsize : i.size = size) (hby : i.bytes = bytes) (hzs : z.cells.size = size) (hsz : 0 < size) (hb1 : bytes ≤ 100000)
    (enc : α → List Value) (he : ∀ y, (enc y).length = size) (h1 : ∀ y, ∀ u ∈ enc y, u.oneCell' = true)
    (g : Nat) (hs : a.eval s = .slice (some ⟨g, 0, none⟩) 0 0) (hg : Blk w g e #[]) (hB : B ≤ g)
    (A : Option Addr) (l : List α) (c n : Nat) (hx : a.eval x = .slice A n c) (hn : n = l.length) (hl : l.length ≤ 1000000) (C : Nat) (hsrc : Seg w C size enc A l) (hnil : A = none → l = [] ∧ c = 0)
    (h : ∀ g' c' w', Own w' B e size enc (.slice (some ⟨g', 0, none⟩) l.length c') l → Below B w w' → B ≤ g' ∧ g' < w'.heap.size → wpList P ops Q rest (a.put o.dst (.slice (some ⟨g', 0, none⟩) l.length c')) w') : wpList P ops Q (o :: rest) a w := by
  subst hn
  have hO : w.ownsRow B e size (.slice (some ⟨g, 0, none⟩) 0 0) 0 [] := ⟨by simp, .inr ⟨g, 0, #[], rfl, hB, hg, Nat.le_refl _, by simp, by simp, by simp⟩⟩
  have hBw : B ≤ w.heap.size := Nat.le_trans hB (Nat.le_of_lt hg.lt)
  cases A with
  | none =>
    obtain ⟨rfl, rfl⟩ := hnil rfl
    refine wpList_append_own_none hgd s x t ho B e i size ht hi _ 0 [] hs hO hx ?_
    exact h g 0 w (by simpa [Own] using hO) (Below.refl _ _) ⟨hB, hg.lt⟩
  | some A =>
    refine wpList_append_own w hgd s x t ho B e i z size bytes ht hi hz hsize hby hzs hsz _ 0 [] hs hO A l.length c (l.flatMap enc) hx (flat_len he l) (src_cells he hsz hsrc) ?_ (by unfold maxLen; omega) ?_ hBw ?_
    · intro u hu
      obtain ⟨y, _, hy⟩ := List.mem_flatMap.1 hu
      exact h1 y u hy
    · have : (0 + l.length) * bytes ≤ 1000000 * 100000 := Nat.mul_le_mul (by omega) hb1
      omega
    · intro v' w' h2 h3 h4
      have hO' : Own w' B e size enc v' l := by simpa [Own] using h2
      rcases hO'.2 with ⟨e1, _⟩ | ⟨g', c', cur, e1, hg', hh, _⟩
      · have := (h4.1 e1).1
        cases this
      · subst e1
        exact h g' c' w' hO' ((Below.refl B w).grown h3 hBw fun k hk => by cases hk; exact hB) ⟨hg', (Array.getElem?_eq_some_iff.1 hh).1⟩
theorem set_flat {α : Type} {enc : α → List Value} {size : Nat} (he : ∀ x, (enc x).length = size) {y : α} {j : Nat} {u : Value} : ∀ (xs : List α) (k : Nat) (x : α), xs[k]? = some x → enc y = (enc x).set j u → j < size → (xs.flatMap enc).set (k * size + j) u = (xs.set k y).flatMap enc
  | [], k, x, h, _, _ => by simp at h
  | z :: xs, 0, x, h, hy, hj => by
    simp at h; subst h
    have hz := he z
    simp only [List.flatMap_cons, List.set_cons_zero, Nat.zero_mul, Nat.zero_add, hy]
    rw [List.set_append_left _ _ (by omega)]
  | z :: xs, k + 1, x, h, hy, hj => by
    have ih := set_flat he xs k x (by simpa using h) hy hj
    simp only [List.flatMap_cons, List.set_cons_succ]
    rw [List.set_append_right _ _ (by rw [he, Nat.add_mul]; omega), he, show (k + 1) * size + j - size = k * size + j by rw [Nat.add_mul]; omega, ih]
section
variable {α : Type} {w : World} {B : Nat} {T : TypeId} {size : Nat} {enc : α → List Value} {xs : List α} {g n cap : Nat}
/-- one cell of an element stored -/
theorem Own.setAt (h : Own w B T size enc (.slice (some ⟨g, 0, none⟩) n cap) xs) (he : ∀ x, (enc x).length = size) (hn : xs.length = n) {k j : Nat} {x y : α} {u : Value} (hx : xs[k]? = some x) (hj : j < size) (hy : enc y = (enc x).set j u) :
    Own (w.setCell ⟨g, k * size + j, none⟩ u) B T size enc (.slice (some ⟨g, 0, none⟩) n cap) (xs.set k y) := by
  unfold Own at h ⊢
  rw [hn] at h
  have h1 := (World.ownsRow.stored h (k * size + j) u).1
  rw [List.length_set, hn, ← set_flat he xs k x hx hy hj]
  exact h1
theorem Own.getAt (h : Own w B T size enc (.slice (some ⟨g, 0, none⟩) n cap) xs) (he : ∀ x, (enc x).length = size) (hn : xs.length = n) {k j : Nat} {x : α} (hx : xs[k]? = some x) (hj : j < size) :
    w.cell? ⟨g, k * size + j, none⟩ = (enc x)[j]? ∧ w.frozen? ⟨g, k * size + j, none⟩ = false := by
  have hk : k < xs.length := (List.getElem?_eq_some_iff.1 hx).1
  unfold Own at h
  rw [hn] at h
  have h1 : k * size + j < n * size := by
    have : (k + 1) * size ≤ n * size := Nat.mul_le_mul_right _ (by omega)
    rw [Nat.add_mul] at this; omega
  have e1 := World.ownsRow.cellAt h (k * size + j) h1
  exact ⟨e1.trans (getElem?_flatMap he xs k j x hx hj), World.ownsRow.frozenAt h _⟩
/-- the block of a slice of the call's own that is not nil -/
theorem Own.blk {v : Value} (h : Own w B T size enc v xs) (hv : v ≠ .slice none 0 0) : ∃ g cap, v = .slice (some ⟨g, 0, none⟩) xs.length cap ∧ B ≤ g ∧ g < w.heap.size := by
  rcases h.2 with ⟨h1, hl⟩ | ⟨g, cap, cur, hv', hg, hh, _⟩
  · exact absurd h1 hv
  · exact ⟨g, cap, hv', hg, (Array.getElem?_eq_some_iff.1 hh).1⟩
end
end Go.Proofs.YtplommmegkdhdaaGreatDoor
/- The walks of slices.Clone at lists of numbers, units, act types, clauses and conditions. -/
namespace Go.Proofs.YtplommmegkdhdaaGreatDoor
open Go.RowKit

theorem one_int (y : Int) : ∀ u ∈ eI y, u.oneCell' = true := by
  intro u hu
  simp [eI] at hu
  rcases hu with rfl <;> rfl
set_option maxRecDepth 100000 in
set_option maxHeartbeats 1600000 in
theorem clone_int (A : Option Addr) (c : Nat) (l : List Int) (w : World) (hl : l.length ≤ 1000000) (hs : Seg w w.heap.size 1 eI A l) (hc : l.length ≤ c) :
    Calls Tryz.prog 25 #[.slice A l.length c] w fun e w' => (∃ v, e = .returned v ∧ Own w' w.heap.size 3 1 eI v l) ∧ Below w.heap.size w w' := by
  cases A with
  | none =>
    have h0 : l = [] := by
      rcases Nat.eq_zero_or_pos l.length with h | h
      · exact List.eq_nil_of_length_eq_zero h
      · obtain ⟨b, off, e, _⟩ := hs.some_ h
        cases e
    subst h0
    have heq : ∀ W : World, (binOp .eql 22 (.slice none 0 c) (.slice none 0 0)).run Tryz.prog W = .ok (.bool true) W := fun W => by kernel_rfl
    clear hs
    go_enter Tryz.func25, Tryz.ntmps25
    go_wp2
    go_ret
    exact ⟨⟨_, rfl, Own.nil _ _ _ _ _⟩, Below.refl _ _⟩
  | some A =>
    have HS := Lib.hid hs
    clear hs
    obtain ⟨ri, hi, hz0, hz1, hz2⟩ := info_parts (show (Tryz.prog.info? 3).map (fun i => (i.zero, i.size, i.bytes)) = some (some (.int .i64 0), 1, 8) by kernel_rfl)
    have heq : ∀ W : World, (binOp .eql 22 (.slice (some A) l.length c) (.slice none 0 0)).run Tryz.prog W = .ok (.bool false) W := fun W => by kernel_rfl
    go_enter Tryz.func25, Tryz.ntmps25
    go_upto_region 3 with (fail)
    go_wp2_with (at_builtin; go_loud (refine wpList_copy rfl (.tmp 5) (.tmp 6) _ rfl w.heap.size 3 ri _ 1 8 Tryz.underlying22 hi hz0 hz1 hz2 rfl (by omega) (by omega) eI eI_len one_int w.heap.size rfl (Blk.new _ _ _) (Nat.le_refl _) (some A) l c l.length rfl rfl hl w.heap.size (HS.out.below (wa1 _ _)) (fun h => by cases h) ?_); intro g' c' w1 hown hgrow hg)
    go_ret
    exact ⟨⟨_, rfl, hown⟩, (wa1 w (.cells #[] 3)).trans hgrow⟩
theorem one_uni (y : Uni) : ∀ u ∈ eU y, u.oneCell' = true := by
  intro u hu
  simp [eU] at hu
  rcases hu with rfl | rfl | rfl | rfl | rfl <;> rfl
set_option maxRecDepth 100000 in
set_option maxHeartbeats 1600000 in
theorem clone_uni (A : Option Addr) (c : Nat) (l : List Uni) (w : World) (hl : l.length ≤ 1000000) (hs : Seg w w.heap.size 5 eU A l) (hc : l.length ≤ c) :
    Calls Tryz.prog 26 #[.slice A l.length c] w fun e w' => (∃ v, e = .returned v ∧ Own w' w.heap.size 71 5 eU v l) ∧ Below w.heap.size w w' := by
  cases A with
  | none =>
    have h0 : l = [] := by
      rcases Nat.eq_zero_or_pos l.length with h | h
      · exact List.eq_nil_of_length_eq_zero h
      · obtain ⟨b, off, e, _⟩ := hs.some_ h
        cases e
    subst h0
    have heq : ∀ W : World, (binOp .eql 23 (.slice none 0 c) (.slice none 0 0)).run Tryz.prog W = .ok (.bool true) W := fun W => by kernel_rfl
    clear hs
    go_enter Tryz.func26, Tryz.ntmps26
    go_wp2
    go_ret
    exact ⟨⟨_, rfl, Own.nil _ _ _ _ _⟩, Below.refl _ _⟩
  | some A =>
    have HS := Lib.hid hs
    clear hs
    obtain ⟨ri, hi, hz0, hz1, hz2⟩ := info_parts (show (Tryz.prog.info? 71).map (fun i => (i.zero, i.size, i.bytes)) = some (some (.agg #[.string ⟨#[]⟩, .int .i64 0, .int .i64 0, .int .i64 0, .int .i64 0]), 5, 48) by kernel_rfl)
    have heq : ∀ W : World, (binOp .eql 23 (.slice (some A) l.length c) (.slice none 0 0)).run Tryz.prog W = .ok (.bool false) W := fun W => by kernel_rfl
    go_enter Tryz.func26, Tryz.ntmps26
    go_upto_region 3 with (fail)
    go_wp2_with (at_builtin; go_loud (refine wpList_copy rfl (.tmp 5) (.tmp 6) _ rfl w.heap.size 71 ri _ 5 48 Tryz.underlying23 hi hz0 hz1 hz2 rfl (by omega) (by omega) eU eU_len one_uni w.heap.size rfl (Blk.new _ _ _) (Nat.le_refl _) (some A) l c l.length rfl rfl hl w.heap.size (HS.out.below (wa1 _ _)) (fun h => by cases h) ?_); intro g' c' w1 hown hgrow hg)
    go_ret
    exact ⟨⟨_, rfl, hown⟩, (wa1 w (.cells #[] 71)).trans hgrow⟩
theorem one_atc (y : Atc) : ∀ u ∈ eA y, u.oneCell' = true := by
  intro u hu
  simp [eA] at hu
  rcases hu with rfl | rfl | rfl | rfl | rfl | rfl | rfl <;> rfl
set_option maxRecDepth 100000 in
set_option maxHeartbeats 1600000 in
theorem clone_atc (A : Option Addr) (c : Nat) (l : List Atc) (w : World) (hl : l.length ≤ 1000000) (hs : Seg w w.heap.size 7 eA A l) (hc : l.length ≤ c) :
    Calls Tryz.prog 27 #[.slice A l.length c] w fun e w' => (∃ v, e = .returned v ∧ Own w' w.heap.size 74 7 eA v l) ∧ Below w.heap.size w w' := by
  cases A with
  | none =>
    have h0 : l = [] := by
      rcases Nat.eq_zero_or_pos l.length with h | h
      · exact List.eq_nil_of_length_eq_zero h
      · obtain ⟨b, off, e, _⟩ := hs.some_ h
        cases e
    subst h0
    have heq : ∀ W : World, (binOp .eql 24 (.slice none 0 c) (.slice none 0 0)).run Tryz.prog W = .ok (.bool true) W := fun W => by kernel_rfl
    clear hs
    go_enter Tryz.func27, Tryz.ntmps27
    go_wp2
    go_ret
    exact ⟨⟨_, rfl, Own.nil _ _ _ _ _⟩, Below.refl _ _⟩
  | some A =>
    have HS := Lib.hid hs
    clear hs
    obtain ⟨ri, hi, hz0, hz1, hz2⟩ := info_parts (show (Tryz.prog.info? 74).map (fun i => (i.zero, i.size, i.bytes)) = some (some (.agg #[.int .i64 0, .int .i64 0, .int .i64 0, .int .i64 0, .int .i64 0, .int .i64 0, .int .i64 0]), 7, 56) by kernel_rfl)
    have heq : ∀ W : World, (binOp .eql 24 (.slice (some A) l.length c) (.slice none 0 0)).run Tryz.prog W = .ok (.bool false) W := fun W => by kernel_rfl
    go_enter Tryz.func27, Tryz.ntmps27
    go_upto_region 3 with (fail)
    go_wp2_with (at_builtin; go_loud (refine wpList_copy rfl (.tmp 5) (.tmp 6) _ rfl w.heap.size 74 ri _ 7 56 Tryz.underlying24 hi hz0 hz1 hz2 rfl (by omega) (by omega) eA eA_len one_atc w.heap.size rfl (Blk.new _ _ _) (Nat.le_refl _) (some A) l c l.length rfl rfl hl w.heap.size (HS.out.below (wa1 _ _)) (fun h => by cases h) ?_); intro g' c' w1 hown hgrow hg)
    go_ret
    exact ⟨⟨_, rfl, hown⟩, (wa1 w (.cells #[] 74)).trans hgrow⟩
theorem one_kla (y : Km) : ∀ u ∈ eK y, u.oneCell' = true := by
  intro u hu
  simp [eK] at hu
  rcases hu with rfl | rfl | rfl | rfl | rfl | rfl | rfl | rfl | rfl | rfl | rfl | rfl | rfl | rfl | rfl | rfl <;> rfl
theorem one_con (y : (Int × Int)) : ∀ u ∈ eS y, u.oneCell' = true := by
  intro u hu
  simp [eS] at hu
  rcases hu with rfl | rfl <;> rfl
set_option maxRecDepth 100000 in
set_option maxHeartbeats 1600000 in
theorem clone_con (A : Option Addr) (c : Nat) (l : List (Int × Int)) (w : World) (hl : l.length ≤ 1000000) (hs : Seg w w.heap.size 2 eS A l) (hc : l.length ≤ c) :
    Calls Tryz.prog 45 #[.slice A l.length c] w fun e w' => (∃ v, e = .returned v ∧ Own w' w.heap.size 76 2 eS v l) ∧ Below w.heap.size w w' := by
  cases A with
  | none =>
    have h0 : l = [] := by
      rcases Nat.eq_zero_or_pos l.length with h | h
      · exact List.eq_nil_of_length_eq_zero h
      · obtain ⟨b, off, e, _⟩ := hs.some_ h
        cases e
    subst h0
    have heq : ∀ W : World, (binOp .eql 28 (.slice none 0 c) (.slice none 0 0)).run Tryz.prog W = .ok (.bool true) W := fun W => by kernel_rfl
    clear hs
    go_enter Tryz.func45, Tryz.ntmps45
    go_wp2
    go_ret
    exact ⟨⟨_, rfl, Own.nil _ _ _ _ _⟩, Below.refl _ _⟩
  | some A =>
    have HS := Lib.hid hs
    clear hs
    obtain ⟨ri, hi, hz0, hz1, hz2⟩ := info_parts (show (Tryz.prog.info? 76).map (fun i => (i.zero, i.size, i.bytes)) = some (some (.agg #[.int .i64 0, .int .i64 0]), 2, 16) by kernel_rfl)
    have heq : ∀ W : World, (binOp .eql 28 (.slice (some A) l.length c) (.slice none 0 0)).run Tryz.prog W = .ok (.bool false) W := fun W => by kernel_rfl
    go_enter Tryz.func45, Tryz.ntmps45
    go_upto_region 3 with (fail)
    go_wp2_with (at_builtin; go_loud (refine wpList_copy rfl (.tmp 5) (.tmp 6) _ rfl w.heap.size 76 ri _ 2 16 Tryz.underlying28 hi hz0 hz1 hz2 rfl (by omega) (by omega) eS eS_len one_con w.heap.size rfl (Blk.new _ _ _) (Nat.le_refl _) (some A) l c l.length rfl rfl hl w.heap.size (HS.out.below (wa1 _ _)) (fun h => by cases h) ?_); intro g' c' w1 hown hgrow hg)
    go_ret
    exact ⟨⟨_, rfl, hown⟩, (wa1 w (.cells #[] 76)).trans hgrow⟩
end Go.Proofs.YtplommmegkdhdaaGreatDoor
/- Walked steps for whole structs: a new variable that is set at once, a store into a block known whole, a result that lies in a cell. -/
namespace Go.Proofs.YtplommmegkdhdaaGreatDoor
open Go.RowKit

section
variable {P : Program} {ops : Array Oper} {Q : Exit → Act → World → Prop} {a : Act} {w : World} {rest : List Oper}
/-- v := s at a struct: alloc, store -/
theorem wpList_new {o2 o3 : Oper} {n : Nat} (ty : TypeId) (E : ElT P ty n) (y : Operand) (d2 : Tmp) (g2 : o2.guard = none) (g3 : o3.guard = none)
    (ho2 : o2.op = .alloc ty) (hd2 : o2.dst = some d2) (ho3 : o3.op = .store ty (.tmp d2) y) (hd3 : o3.dst = none)
    (cs : List Value) (hn : cs.length = n) (h1 : ∀ v ∈ cs, v.oneCell' = true) (s2 : d2 < a.tmps.size) (hy : (a.put (some d2) (.pointer (some ⟨w.heap.size, 0, none⟩))).eval y = .agg cs.toArray)
    (h : wpList P ops Q rest (a.put (some d2) (.pointer (some ⟨w.heap.size, 0, none⟩))) (w.alloc (.cells cs.toArray ty))) : wpList P ops Q (o2 :: o3 :: rest) a w := by
  subst hn
  obtain ⟨⟨fs, hu⟩, hi, v, hz, hzr⟩ := E
  refine wpList_plain g2 fun K hK => ?_
  have hrun : (execOp (Act.eval a) o2).run P w = .ok (.value (.pointer (some ⟨w.heap.size, 0, none⟩))) (w.alloc (.cells v.cells ty)) := by
    unfold execOp
    simp only [ho2, Instr.alloc, Sem.run_bind, hzr, Result.andThen_ok, newVar, newRow]
    rfl
  unfold Oper.wp
  rw [hrun, Oper.upon_value]
  refine hK _ _ ?_
  rw [hd2]
  refine wpList_store_mid g3 ty _ _ ho3 w.heap.size 0 cs.toArray ?_ hy ?_ (by simpa using hi) (all_oneCell_toArray h1) ?_
  · simp [Act.eval, Act.put, s2]
  · intro j hj
    simp only [Nat.zero_add, List.size_toArray] at hj ⊢
    rw [World.cell?_alloc_at _ _ _ _ rfl, World.frozen?_alloc_at _ _ _ _ rfl]
    simp [hz, hj]
  · rw [hd3]
    simp only
    rw [setCells_new0 w ty _ cs hz]
    exact h
theorem setCells_blk {g : Nat} {t : TypeId} : ∀ (vs pre old rest : List Value) (w : World), old.length = vs.length → Blk w g t (pre ++ old ++ rest).toArray → Blk (w.setCells g pre.length vs) g t (pre ++ vs ++ rest).toArray
  | [], pre, old, rest, w, h, hb => by
    obtain rfl : old = [] := List.eq_nil_of_length_eq_zero h
    exact hb
  | v :: vs, pre, old, rest, w, h, hb => by
    cases old with
    | nil => simp at h
    | cons r old =>
      simp only [World.setCells]
      have h1 := hb.set_ pre.length v
      have e1 : ((pre ++ r :: old ++ rest).toArray.setIfInBounds pre.length v) = ((pre ++ [v]) ++ old ++ rest).toArray := by simp
      rw [e1] at h1
      have h2 := setCells_blk vs (pre ++ [v]) old rest _ (by simpa using h) h1
      simpa using h2
theorem setCells_below {B : Nat} {w0 : World} {g : Nat} (hg : B ≤ g) : ∀ (vs : List Value) (o : Nat) (w : World), Below B w0 w → Below B w0 (w.setCells g o vs)
  | [], _, _, h => h
  | v :: vs, o, w, h => by
    simp only [World.setCells]
    exact setCells_below hg vs (o + 1) _ (h.setCell (p := ⟨g, o, none⟩) hg v)
theorem setCells_far {g b : Nat} {t : TypeId} {cs : Array Value} (hg : b ≠ g) : ∀ (vs : List Value) (o : Nat) (w : World), Blk w b t cs → Blk (w.setCells g o vs) b t cs
  | [], _, _, h => h
  | v :: vs, o, w, h => by
    simp only [World.setCells]
    exact setCells_far hg vs (o + 1) _ (h.far (p := ⟨g, o, none⟩) hg v)
theorem setCells_size {g : Nat} : ∀ (vs : List Value) (o : Nat) (w : World), (w.setCells g o vs).heap.size = w.heap.size
  | [], _, _ => rfl
  | v :: vs, o, w => by
    simp only [World.setCells]
    rw [setCells_size vs (o + 1)]
    simp
/-- a struct stored into cells i, i + 1, .. of a block known whole -/
theorem wpList_store_blk {o : Oper} (hgd : o.guard = none) (ty : TypeId) (x y : Operand) (ho : o.op = .store ty x y) (hd : o.dst = none) (g : Nat) (t : TypeId) (pre old post cs : List Value) (hx : a.eval x = .pointer (some ⟨g, pre.length, none⟩)) (hy : a.eval y = .agg cs.toArray)
    (hb : Blk w g t (pre ++ old ++ post).toArray) (hlen : old.length = cs.length) (hi : (P.info? ty).map (·.size) = some cs.length) (h1 : ∀ v ∈ cs, v.oneCell' = true)
    (h : wpList P ops Q rest a (w.setCells g pre.length cs)) : wpList P ops Q (o :: rest) a w := by
  refine wpList_store_mid hgd ty x y ho g pre.length cs.toArray hx hy ?_ (by simpa using hi) (all_oneCell_toArray h1) ?_
  · intro j hj
    simp only [List.size_toArray] at hj
    rw [hb.cell, hb.frozen]
    refine ⟨?_, rfl⟩
    simp; omega
  · rw [hd]
    rw [List.toList_toArray]
    exact h
theorem ret_row {fn : Func} {r g : Nat} {t : TypeId} {cs : Array Value} (hres : fn.results = #[.cell r t]) (hp : a.tmps.getD r undef = .pointer (some ⟨g, 0, none⟩)) (hk : Blk w g t cs) (hu : ∃ fs, P.underlying t = some (.struct fs)) (hi : (P.info? t).map (·.size) = some cs.size) :
    (results fn a.tmps).run P w = .ok (.agg cs) w := by
  obtain ⟨fs, hu⟩ := hu
  have h1 := run_loadVar_row w g t t cs (0, 0) _ hk hu rfl hi
  rw [Array.getD_eq_getD_getElem?] at hp
  simp only [go_sem] at h1
  simp [results, hres, hp, go_sem]
  simpa using h1
end
end Go.Proofs.YtplommmegkdhdaaGreatDoor
