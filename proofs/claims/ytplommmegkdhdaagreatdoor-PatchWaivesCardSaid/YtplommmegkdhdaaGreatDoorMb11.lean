/- Contracts of functions and plain laws, joined: Kbg, Hb, Hc. -/
import Derived.Test.YtplommmegkdhdaaGreatDoorMb10
import Derived.Test.YtplommmegkdhdaaGreatDoorMb3
import Derived.Test.YtplommmegkdhdaaGreatDoorMb2
import Derived.Deep.RegionHeld
import Derived.Test.YtplommmegkdhdaaGreatDoorMb9
/- The walks of the four effects: what a patch does to a list of clauses of the call's own. -/
namespace Go.Proofs.YtplommmegkdhdaaGreatDoor
open Go.RowKit

theorem Seg.far {α : Type} {w : World} {B size : Nat} {enc : α → List Value} {A : Option Addr} {xs : List α} (h : Seg w B size enc A xs) {p : Addr} (hp : ∀ a, A = some a → a.block ≠ p.block) (u : Value) : Seg (w.setCell p u) B size enc A xs := fun k x hx => by
  obtain ⟨b, off, e, hb, hc⟩ := h k x hx
  refine ⟨b, off, e, hb, fun j v hv => ?_⟩
  rw [World.cell?_of_block (Below.heap_setCell w p u b (hp _ e))]
  exact hc j v hv
theorem KOk.far {w : World} {x : Km} (h : KOk w x) {p : Addr} (hp : ∀ a, x.A = some a → a.block ≠ p.block) (u : Value) : KOk (w.setCell p u) x := ⟨by simpa using h.s.far hp u, h.v, h.n, h.c⟩
theorem KOk.grown {w w' : World} {x : Km} (h : KOk w x) {row : Option Nat} (hg : w.grownBy w' row) (hp : ∀ a, x.A = some a → row ≠ some a.block) : KOk w' x := by
  refine ⟨fun k y hy => ?_, h.v, h.n, h.c⟩
  obtain ⟨b, off, e, hb, hc⟩ := h.s k y hy
  refine ⟨b, off, e, Nat.lt_of_lt_of_le hb hg.size, fun j v hv => ?_⟩
  rw [World.cell?_of_block (hg.block b hb fun q => hp _ e q.symm)]
  exact hc j v hv
/-- clauses in a list of the call's own: the list made from block B on, the conditions of its elements elsewhere, from block B on, too -/
structure Lst (w : World) (B : Nat) (v : Value) (ks : List Km) : Prop where
  own : Own w B 32 16 eK v ks
  t : ∀ x ∈ ks, KOk w x
  f : ∀ x ∈ ks, ∀ a, x.A = some a → B ≤ a.block ∧ v.ownBlock ≠ some a.block
theorem Lst.then_ {w w' : World} {B : Nat} {v : Value} {ks : List Km} (h : Lst w B v ks) (hb : Below w.heap.size w w') : Lst w' B v ks := ⟨h.own.below hb, fun x hx => (h.t x hx).then_ hb, h.f⟩
theorem Lst.drewN {w : World} {B : Nat} {v : Value} {ks : List Km} (h : Lst w B v ks) (n : Nat) : Lst (w.drewN n) B v ks := ⟨h.own, fun x hx => ⟨(h.t x hx).s, (h.t x hx).v, (h.t x hx).n, (h.t x hx).c⟩, h.f⟩
/-- a store elsewhere, below B -/
theorem Lst.low {w : World} {B : Nat} {v : Value} {ks : List Km} (h : Lst w B v ks) {p : Addr} (hp : p.block < B) (u : Value) : Lst (w.setCell p u) B v ks :=
  ⟨h.own.setBelow hp u, fun x hx => (h.t x hx).far (fun a ha => by have := (h.f x hx a ha).1; omega) u, h.f⟩
theorem Lst.setAt {w : World} {B g n cap : Nat} {ks : List Km} (h : Lst w B (.slice (some ⟨g, 0, none⟩) n cap) ks) (hn : ks.length = n) {k j : Nat} {x y : Km} {u : Value} (hx : ks[k]? = some x) (hj : j < 16) (hy : eK y = (eK x).set j u) (hA : y.A = x.A) (hs : y.k.start = x.k.start) (hv : y.k.v = x.k.v) (hc : y.cap = x.cap) :
    Lst (w.setCell ⟨g, k * 16 + j, none⟩ u) B (.slice (some ⟨g, 0, none⟩) n cap) (ks.set k y) := by
  have hm := List.mem_of_getElem? hx
  have hT : ∀ z ∈ ks, KOk (w.setCell ⟨g, k * 16 + j, none⟩ u) z := fun z hz => (h.t z hz).far (fun a ha e => (h.f z hz a ha).2 (by rw [e]; rfl)) u
  refine ⟨h.own.setAt eK_len hn hx hj hy, mem_set hT k ?_, mem_set h.f k ?_⟩
  · have h1 := hT x hm
    exact ⟨by rw [hA, hs]; exact h1.s, by rw [hv]; exact h1.v, by rw [hs]; exact h1.n, by rw [hs, hc]; exact h1.c⟩
  · rw [hA]; exact h.f x hm
/-- what a patch does to a clause in memory -/
def Pat.km (p : Pat) (x : Km) : Km := { x with k := p.one x.k }
def Pat.kms (p : Pat) (n : Nat) (ks : List Km) : List Km := (p.cls.take n).foldl (fun l i => l.modify i.toNat p.km) ks
theorem modify_set {α : Type} {f : α → α} : ∀ (l : List α) (i : Nat) (x : α), l[i]? = some x → l.modify i f = l.set i (f x)
  | [], i, x, h => by simp at h
  | a :: l, 0, x, h => by simp at h; subst h; simp
  | a :: l, i + 1, x, h => by simpa using modify_set l i x (by simpa using h)
theorem map_modify_ {α β : Type} {f : α → α} {g : β → β} {h : α → β} (e : ∀ x, h (f x) = g (h x)) : ∀ (l : List α) (i : Nat), (l.modify i f).map h = (l.map h).modify i g
  | [], i => by simp
  | a :: l, 0 => by simp [e]
  | a :: l, i + 1 => by simpa using map_modify_ e l i
theorem Pat.kms_map (p : Pat) (ks : List Km) : (p.kms p.cls.length ks).map (·.k) = p.cls.foldl (fun l i => l.modify i.toNat p.one) (ks.map (·.k)) := by
  unfold Pat.kms
  rw [List.take_length]
  have key : ∀ (l : List Int) (ks : List Km), (l.foldl (fun l i => l.modify i.toNat p.km) ks).map (·.k) = l.foldl (fun l i => l.modify i.toNat p.one) (ks.map (·.k)) := by
    intro l
    induction l with
    | nil => intro ks; rfl
    | cons i l ih => intro ks; simp only [List.foldl_cons]; rw [ih, map_modify_ (f := p.km) (g := p.one) (h := (·.k)) (fun _ => rfl)]
  exact key _ _
theorem Pat.kms_len (p : Pat) (n : Nat) (ks : List Km) : (p.kms n ks).length = ks.length := by
  unfold Pat.kms
  have key : ∀ (l : List Int) (ks : List Km), (l.foldl (fun l i => l.modify i.toNat p.km) ks).length = ks.length := by
    intro l
    induction l with
    | nil => intro ks; rfl
    | cons i l ih => intro ks; simp only [List.foldl_cons]; rw [ih]; simp
  exact key _ _
theorem Pat.kms_succ (p : Pat) {n : Nat} {i : Int} {x : Km} (ks : List Km) (hi : p.cls[n]? = some i) (hx : (p.kms n ks)[i.toNat]? = some x) : p.kms (n + 1) ks = (p.kms n ks).set i.toNat (p.km x) := by
  have e : p.cls.take (n + 1) = p.cls.take n ++ [i] := by
    obtain ⟨h1, h2⟩ := List.getElem?_eq_some_iff.1 hi
    rw [List.take_add_one, hi]; rfl
  unfold Pat.kms at hx ⊢
  rw [e, List.foldl_append]
  exact modify_set _ _ _ hx
theorem incI_mem2 {n : Nat} : ∀ {l : List Int} {last : Int}, incI n last l = true → -1 ≤ last → ∀ i ∈ l, 0 ≤ i ∧ i < n
  | [], _, _, _, i, hi => by simp at hi
  | d :: l, last, h, h0, i, hi => by
    simp only [incI, Bool.and_eq_true, decide_eq_true_eq] at h
    rcases List.mem_cons.1 hi with rfl | hi
    · omega
    · exact incI_mem2 h.2 (by omega) i hi
/-- .. for reading -/
structure Lsr (w : World) (B : Nat) (v : Value) (ks : List Km) : Prop where
  own : Own w B 32 16 eK v ks
  t : ∀ x ∈ ks, KOk w x
  f : ∀ x ∈ ks, ∀ a, x.A = some a → B ≤ a.block
theorem Lst.r {w : World} {B : Nat} {v : Value} {ks : List Km} (h : Lst w B v ks) : Lsr w B v ks := ⟨h.own, h.t, fun x hx a ha => (h.f x hx a ha).1⟩
theorem Lsr.then_ {w w' : World} {B : Nat} {v : Value} {ks : List Km} (h : Lsr w B v ks) (hb : Below w.heap.size w w') : Lsr w' B v ks := ⟨h.own.below hb, fun x hx => (h.t x hx).then_ hb, h.f⟩
theorem Lsr.low {w : World} {B : Nat} {v : Value} {ks : List Km} (h : Lsr w B v ks) {p : Addr} (hp : p.block < B) (u : Value) : Lsr (w.setCell p u) B v ks :=
  ⟨h.own.setBelow hp u, fun x hx => (h.t x hx).far (fun a ha => by have := h.f x hx a ha; omega) u, h.f⟩
/-- what an effect makes -/
def Done (p : Pat) (ks : List Km) (B : Nat) (w : World) (e : Ending) (w' : World) : Prop :=
  ∃ v ks', e = .returned v ∧ Lsr w' B v ks' ∧ ks'.map (·.k) = p.do_ (ks.map (·.k)) ∧ Below B w w'
theorem own_ge {α : Type} {w : World} {B : Nat} {T : TypeId} {size : Nat} {enc : α → List Value} {A : Option Addr} {n c : Nat} {xs : List α} (h : Own w B T size enc (.slice A n c) xs) : ∀ a, A = some a → B ≤ a.block := fun a ha => by
  subst ha
  exact (World.ownsRow.lt h _ rfl).1
set_option maxRecDepth 100000 in
set_option maxHeartbeats 3200000 in
theorem waive_any (p : Pat) (pm : Pm) (ks : List Km) (B g cap : Nat) (w : World) (hp : p.kind = 3 ∨ p.kind = 4) (hL : Lst w B (.slice (some ⟨g, 0, none⟩) ks.length cap) ks) (hS : Seg w B 1 eI pm.p p.cls) (hn : p.cls.length ≤ 1000000) (hI : incI ks.length (-1) p.cls = true) :
    Calls Tryz.prog 40 #[.slice (some ⟨g, 0, none⟩) ks.length cap, .agg (pL p pm)] w fun e w' => Done p ks B w e w' := by
  have HS := Lib.hid hS
  have HL := Lib.hid hL
  have hg := hL.own.lt_
  have hone : ∀ k, p.one k = { k with waived := true } := by intro k; unfold Pat.one; rcases hp with e | e <;> rw [e] <;> rfl
  have hdo : p.do_ (ks.map (·.k)) = p.cls.foldl (fun l i => l.modify i.toNat p.one) (ks.map (·.k)) := by unfold Pat.do_; rcases hp with e | e <;> rw [e] <;> rfl
  have HI := Lib.hid (incI_mem2 hI (by omega))
  have H1 := Lib.hid hone
  have H2 := Lib.hid hdo
  clear hS hL hone hdo hI hp
  go_enter Tryz.func40, Tryz.ntmps40
  go_upto_region 2 with (fail)
  refine name_wp ?_
  intro X hX
  have gb : Blk X w.heap.size 34 (pL p pm) := by rw [hX]; exact blk_at (by simp)
  have HB : Below w.heap.size w X := by rw [hX]; (repeat (first | with_reducible assumption | with_reducible exact Below.refl _ _ | with_reducible refine below_drewN ?_ _ | with_reducible refine Below.drew ?_ | with_reducible refine below_alloc ?_ _ | with_reducible refine Below.setCell ?_ (by first | omega | (simp; done) | (simp; omega)) _ | with_reducible refine below_then ?_ (by with_reducible assumption) | (refine below_then (a := World.drew _) ?_ (by with_reducible assumption))))
  clear hX
  obtain ⟨bb, eb⟩ : ∃ b, w.heap.size = b := ⟨_, rfl⟩
  have lb : g < bb := by omega
  rw [eb] at gb ⊢
  have HL2 : Lst X B (.slice (some ⟨g, 0, none⟩) ks.length cap) (p.kms 0 ks) := HL.out.then_ HB
  have HB2 : Below B w X := HB.mono (by omega)
  have j1 : X.cell? ⟨bb, 1, none⟩ = some (.slice pm.p p.cls.length pm.pc) := gb.cell 1
  clear HL HB eb
  go_loopw [10] (fun y WR => ∃ (n : Nat), n ≤ p.cls.length ∧ y = .int .i64 n ∧ Hid (Lst WR B (.slice (some ⟨g, 0, none⟩) ks.length cap) (p.kms n ks)) ∧ Hid (Below B w WR) ∧ Hid (bb < WR.heap.size)) (fun y _ => 2000000 - (intOf y).toNat)
  case atStart => exact ⟨0, by omega, rfl, HL2, HB2, gb.lt⟩
  case round =>
    obtain ⟨n, hn', rfl, hL, hB, hs⟩ := hrel
    by_cases hlt : n < p.cls.length
    · have tn : decide ((n : Int) < (p.cls.length : Int)) = true := decide_eq_true (by omega)
      obtain ⟨x, hx⟩ : ∃ x, p.cls[n]? = some x := ⟨_, List.getElem?_eq_getElem hlt⟩
      obtain ⟨b0, o0, eA0, hb0, hc⟩ := segAt (HS.out.below hB.out) hx
      have x0 : wr.cell? ⟨b0, o0 + n, none⟩ = some (.int .i64 x) := by simpa using hc 0 _ rfl
      have hix := fun W => idx_at (t := 22) (size := 1) (cap := pm.pc) eA0 hlt (by kernel_rfl) (fun W => by kernel_rfl) W
      simp only [Nat.mul_one] at hix
      obtain ⟨h0, h1⟩ := HI.out x (List.mem_of_getElem? hx)
      obtain ⟨i, rfl⟩ : ∃ i : Nat, x = i := ⟨x.toNat, by omega⟩
      have hi : i < ks.length := by omega
      obtain ⟨y, hy⟩ : ∃ y, (p.kms n ks)[i]? = some y := ⟨_, List.getElem?_eq_getElem (by rw [Pat.kms_len]; exact hi)⟩
      obtain ⟨f1, f2⟩ := hL.out.own.getAt eK_len (p.kms_len n ks) hy (j := 15) (by omega)
      have hst := p.kms_succ ks hx (by simpa using hy)
      have HN : Hid (Lst (wr.setCell ⟨g, i * 16 + 15, none⟩ (.bool true)) B (.slice (some ⟨g, 0, none⟩) ks.length cap) (p.kms (n + 1) ks)) := by
        unfold Hid
        rw [hst]
        exact hL.out.setAt (p.kms_len n ks) hy (by omega) (by simp [Pat.km, H1.out, eK]) rfl (by simp [Pat.km, H1.out]) (by simp [Pat.km, H1.out]) rfl
      have hiy := fun W => idx_at (t := 25) (size := 16) (cap := cap) (A := some ⟨g, 0, none⟩) (len := ks.length) rfl hi (by kernel_rfl) (fun W => by kernel_rfl) W
      simp only [Nat.zero_add] at hiy
      have f3 : wr.cell? ⟨g, i * 16 + 15, none⟩ = some (.bool y.k.waived) := f1
      clear hc hx hy eA0 hst f1 h0 h1
      go_wp2
      go_roundw
      case rel => exact ⟨n + 1, by omega, by simp, HN, hB.out.setCell (p := ⟨g, i * 16 + 15, none⟩) hg.1 _, by unfold Hid; simpa using hs.out⟩
      case measure => simp [intOf]; omega
    · have tn : decide ((n : Int) < (p.cls.length : Int)) = false := decide_eq_false (by omega)
      obtain rfl : n = p.cls.length := by omega
      go_wp2
      go_ret
      exact ⟨_, _, rfl, hL.out.r, by rw [p.kms_map, H2.out], hB.out⟩
set_option maxRecDepth 100000 in
set_option maxHeartbeats 3200000 in
theorem span_any (p : Pat) (pm : Pm) (ks : List Km) (B g cap : Nat) (w : World) (hp : p.kind = 5) (hL : Lst w B (.slice (some ⟨g, 0, none⟩) ks.length cap) ks) (hS : Seg w B 1 eI pm.p p.cls) (hn : p.cls.length ≤ 1000000) (hI : incI ks.length (-1) p.cls = true) :
    Calls Tryz.prog 43 #[.slice (some ⟨g, 0, none⟩) ks.length cap, .agg (pL p pm)] w fun e w' => Done p ks B w e w' := by
  have HS := Lib.hid hS
  have HL := Lib.hid hL
  have hg := hL.own.lt_
  have hone : ∀ k, p.one k = { k with aft := p.days } := by intro k; unfold Pat.one; rw [hp]; rfl
  have hdo : p.do_ (ks.map (·.k)) = p.cls.foldl (fun l i => l.modify i.toNat p.one) (ks.map (·.k)) := by unfold Pat.do_; rw [hp]; rfl
  have HI := Lib.hid (incI_mem2 hI (by omega))
  have H1 := Lib.hid hone
  have H2 := Lib.hid hdo
  clear hS hL hone hdo hI hp
  go_enter Tryz.func43, Tryz.ntmps43
  go_upto_region 2 with (fail)
  refine name_wp ?_
  intro X hX
  have gb : Blk X w.heap.size 34 (pL p pm) := by rw [hX]; exact blk_at (by simp)
  have HB : Below w.heap.size w X := by rw [hX]; (repeat (first | with_reducible assumption | with_reducible exact Below.refl _ _ | with_reducible refine below_drewN ?_ _ | with_reducible refine Below.drew ?_ | with_reducible refine below_alloc ?_ _ | with_reducible refine Below.setCell ?_ (by first | omega | (simp; done) | (simp; omega)) _ | with_reducible refine below_then ?_ (by with_reducible assumption) | (refine below_then (a := World.drew _) ?_ (by with_reducible assumption))))
  clear hX
  obtain ⟨bb, eb⟩ : ∃ b, w.heap.size = b := ⟨_, rfl⟩
  have lb : g < bb := by omega
  rw [eb] at gb ⊢
  have HL2 : Lst X B (.slice (some ⟨g, 0, none⟩) ks.length cap) (p.kms 0 ks) := HL.out.then_ HB
  have HB2 : Below B w X := HB.mono (by omega)
  have j1 : X.cell? ⟨bb, 1, none⟩ = some (.slice pm.p p.cls.length pm.pc) := gb.cell 1
  clear HL HB eb
  go_loopw [10] (fun y WR => ∃ (n : Nat), n ≤ p.cls.length ∧ y = .int .i64 n ∧ Hid (Lst WR B (.slice (some ⟨g, 0, none⟩) ks.length cap) (p.kms n ks)) ∧ Hid (Below B w WR) ∧ Hid (Blk WR bb 34 (pL p pm))) (fun y _ => 2000000 - (intOf y).toNat)
  case atStart => exact ⟨0, by omega, rfl, HL2, HB2, gb⟩
  case round =>
    obtain ⟨n, hn', rfl, hL, hB, hs⟩ := hrel
    by_cases hlt : n < p.cls.length
    · have tn : decide ((n : Int) < (p.cls.length : Int)) = true := decide_eq_true (by omega)
      obtain ⟨x, hx⟩ : ∃ x, p.cls[n]? = some x := ⟨_, List.getElem?_eq_getElem hlt⟩
      obtain ⟨b0, o0, eA0, hb0, hc⟩ := segAt (HS.out.below hB.out) hx
      have x0 : wr.cell? ⟨b0, o0 + n, none⟩ = some (.int .i64 x) := by simpa using hc 0 _ rfl
      have hix := fun W => idx_at (t := 22) (size := 1) (cap := pm.pc) eA0 hlt (by kernel_rfl) (fun W => by kernel_rfl) W
      simp only [Nat.mul_one] at hix
      obtain ⟨h0, h1⟩ := HI.out x (List.mem_of_getElem? hx)
      obtain ⟨i, rfl⟩ : ∃ i : Nat, x = i := ⟨x.toNat, by omega⟩
      have hi : i < ks.length := by omega
      obtain ⟨y, hy⟩ : ∃ y, (p.kms n ks)[i]? = some y := ⟨_, List.getElem?_eq_getElem (by rw [Pat.kms_len]; exact hi)⟩
      obtain ⟨f1, f2⟩ := hL.out.own.getAt eK_len (p.kms_len n ks) hy (j := 5) (by omega)
      have hst := p.kms_succ ks hx (by simpa using hy)
      have HN : Hid (Lst (wr.setCell ⟨g, i * 16 + 5, none⟩ (.int .i64 p.days)) B (.slice (some ⟨g, 0, none⟩) ks.length cap) (p.kms (n + 1) ks)) := by
        unfold Hid
        rw [hst]
        exact hL.out.setAt (p.kms_len n ks) hy (by omega) (by simp [Pat.km, H1.out, eK]) rfl (by simp [Pat.km, H1.out]) (by simp [Pat.km, H1.out]) rfl
      have hiy := fun W => idx_at (t := 25) (size := 16) (cap := cap) (A := some ⟨g, 0, none⟩) (len := ks.length) rfl hi (by kernel_rfl) (fun W => by kernel_rfl) W
      simp only [Nat.zero_add] at hiy
      have f3 : wr.cell? ⟨g, i * 16 + 5, none⟩ = some (.int .i64 y.k.aft) := f1
      have f4 : wr.cell? ⟨bb, 18, none⟩ = some (.int .i64 p.days) := hs.out.cell 18
      clear hc hx hy eA0 hst f1 h0 h1
      go_wp2
      go_roundw
      case rel => exact ⟨n + 1, by omega, by simp, HN, hB.out.setCell (p := ⟨g, i * 16 + 5, none⟩) hg.1 _, by unfold Hid; exact hs.out.far (by simp; omega) _⟩
      case measure => simp [intOf]; omega
    · have tn : decide ((n : Int) < (p.cls.length : Int)) = false := decide_eq_false (by omega)
      obtain rfl : n = p.cls.length := by omega
      go_wp2
      go_ret
      exact ⟨_, _, rfl, hL.out.r, by rw [p.kms_map, H2.out], hB.out⟩
theorem zero_cla : (Tryz.prog.info? 32).map (fun i => (i.zero, i.size, i.bytes)) = some (some (.agg #[.int .i64 0, .int .i64 0, .int .i64 0, .int .i64 0, .slice none 0 0, .int .i64 0, .int .i64 0, .bool false, .bool false, .int .i64 0, .int .i64 0, .int .i64 0, .int .i64 0, .int .i64 0, .int .i64 0, .bool false]), 16, 136) := by kernel_rfl
set_option maxRecDepth 100000 in
set_option maxHeartbeats 3200000 in
theorem add_any (p : Pat) (pm : Pm) (ks : List Km) (B g cap : Nat) (w : World) (hp : p.kind = 1) (hL : Lst w B (.slice (some ⟨g, 0, none⟩) ks.length cap) ks) (hK : KOk w ⟨p.new, pm.A, pm.cap⟩) (hn : ks.length ≤ 1000000) :
    Calls Tryz.prog 41 #[.slice (some ⟨g, 0, none⟩) ks.length cap, .agg (pL p pm)] w fun e w' => Done p ks B w e w' := by
  have HL := Lib.hid hL
  have hg := hL.own.lt_
  have HD : Hid (p.do_ (ks.map (·.k)) = ks.map (·.k) ++ [p.new]) := by unfold Hid Pat.do_; rw [hp]; rfl
  have HC := Lib.hid (fun W (hb : Below w.heap.size w W) => copied_any ⟨p.new, pm.A, pm.cap⟩ W (hK.then_ hb))
  have HV : Hid (I64 p.new.v.1 ∧ I64 p.new.v.2) := hK.v
  have HM : Hid (p.new.start.length ≤ 1000000) := hK.n
  clear hL hp hK
  obtain ⟨ri, hi, hz0, hz1, hz2⟩ := info_parts zero_cla
  go_enter Tryz.func41, Tryz.ntmps41
  go_upto_region 1 with (fail)
  refine name_wp ?_
  intro X hX
  have gb : Blk X w.heap.size 34 (pL p pm) := by rw [hX]; exact blk_at (by simp)
  have HB : Below w.heap.size w X := by rw [hX]; (repeat (first | with_reducible assumption | with_reducible exact Below.refl _ _ | with_reducible refine below_drewN ?_ _ | with_reducible refine Below.drew ?_ | with_reducible refine below_alloc ?_ _ | with_reducible refine Below.setCell ?_ (by first | omega | (simp; done) | (simp; omega)) _ | with_reducible refine below_then ?_ (by with_reducible assumption) | (refine below_then (a := World.drew _) ?_ (by with_reducible assumption))))
  clear hX
  obtain ⟨bb, eb⟩ : ∃ b, w.heap.size = b := ⟨_, rfl⟩
  have lb : g < bb := by omega
  have lX := HB.size
  rw [eb] at gb ⊢
  have j2 : X.cell? ⟨bb, 2, none⟩ = some (.int .i64 p.new.kind) := (gb).cell 2
  have j3 : X.cell? ⟨bb, 3, none⟩ = some (.int .i64 p.new.role) := (gb).cell 3
  have j4 : X.cell? ⟨bb, 4, none⟩ = some (.int .i64 p.new.act) := (gb).cell 4
  have j5 : X.cell? ⟨bb, 5, none⟩ = some (.int .i64 p.new.need) := (gb).cell 5
  have j6 : X.cell? ⟨bb, 6, none⟩ = some (.slice pm.A p.new.start.length pm.cap) := (gb).cell 6
  have j7 : X.cell? ⟨bb, 7, none⟩ = some (.int .i64 p.new.aft) := (gb).cell 7
  have j8 : X.cell? ⟨bb, 8, none⟩ = some (.int .i64 p.new.grace) := (gb).cell 8
  have j9 : X.cell? ⟨bb, 9, none⟩ = some (.bool p.new.bus) := (gb).cell 9
  have j10 : X.cell? ⟨bb, 10, none⟩ = some (.bool p.new.fin) := (gb).cell 10
  have j11 : X.cell? ⟨bb, 11, none⟩ = some (.int .i64 p.new.pause) := (gb).cell 11
  have j12 : X.cell? ⟨bb, 12, none⟩ = some (.int .i64 p.new.resume) := (gb).cell 12
  have j13 : X.cell? ⟨bb, 13, none⟩ = some (.int .i64 p.new.v.1) := (gb).cell 13
  have j14 : X.cell? ⟨bb, 14, none⟩ = some (.int .i64 p.new.v.2) := (gb).cell 14
  have j15 : X.cell? ⟨bb, 15, none⟩ = some (.int .i64 p.new.unit) := (gb).cell 15
  have j16 : X.cell? ⟨bb, 16, none⟩ = some (.int .i64 p.new.to_) := (gb).cell 16
  have j17 : X.cell? ⟨bb, 17, none⟩ = some (.bool p.new.waived) := (gb).cell 17
  go_wp2_with (first | (go_at_call 24; (with_reducible refine (HC.out _ HB).mono ?_); rintro e w1 ⟨⟨A', c', rfl, hO, hc'⟩, hbw1⟩) | (at_builtin; go_loud (refine wpList_app _ rfl (.tmp 5) (.tmp 9) _ rfl B 32 ri _ 16 136 Tryz.underlying25 hi hz0 hz1 hz2 rfl (by omega) (by omega) eK eK_len one_kla _ ks rfl (((HL.out.own.below HB).below hbw1).alloc _) hn w1.heap.size 1 ⟨p.new, A', c'⟩ rfl (Blk.new _ _ _) (by have := hbw1.size; simp; omega) ?_); intro v4 w4 hO4 hb4 hg4))
  go_ret
  have l1 := hbw1.size
  refine ⟨_, _, rfl, ⟨hO4, ?_, ?_⟩, by rw [List.map_append, HD.out]; rfl, (((HB.mono (by omega)).trans (hbw1.mono (by omega))).alloc (by omega) _).trans hb4⟩
  · intro x hx
    rcases List.mem_append.1 hx with hx | hx
    · refine (((HL.out.then_ (below_then HB hbw1)).t x hx).then_ (wa1 _ _)).grown hg4 fun a ha e => ?_
      exact (HL.out.f x hx a ha).2 e
    · obtain rfl := List.mem_singleton.1 hx
      refine KOk.grown (w := w1.alloc _) (KOk.then_ (w := w1) ⟨hO.segA eS_len, HV.out, HM.out, hc'⟩ (wa1 _ _)) hg4 fun a ha e => ?_
      have h1 := own_ge hO a ha
      have h2 : g = a.block := Option.some.inj e
      omega
  · intro x hx a ha
    rcases List.mem_append.1 hx with hx | hx
    · exact (HL.out.f x hx a ha).1
    · obtain rfl := List.mem_singleton.1 hx
      have h1 := own_ge hO a ha
      omega
end Go.Proofs.YtplommmegkdhdaaGreatDoor
/- A region that draws its order: a head whose operations may come up in whatever order (among them calls and new variables), one condition on the world held all through it, and behind all of the head a tail in sequence. What yields in every world of the condition is taken first. -/
namespace Go.Proofs.YtplommmegkdhdaaGreatDoor
open Go.RowKit Go.Sort

section
variable {P : Program} {ops : Array Oper} {md : Region.Mode} {S : World → Prop} {Q : Exit → Act → World → Prop} {hs ts : List Nat}

/-- the head in whatever order, S behind each of its operations; then the tail -/
def wpHB (P : Program) (md : Region.Mode) (ops : Array Oper) (Q : Exit → Act → World → Prop) (S : World → Prop) (hs ts : List Nat) : Nat → Array Bool → Act → World → Prop
  | 0, listed, a, w => Cl md ops listed → (overB md ops hs listed = true ∧ tlB md ops ts listed = true) ∧ wpList P ops Q (opsAt ops ts) a w
  | f + 1, listed, a, w => Cl md ops listed → Region.ready md ops listed ≠ [] ∧ ∀ i ∈ Region.ready md ops listed, hs.contains i = true ∧ wpOp P ops Q i (fun a' w' => S w' ∧ wpHB P md ops Q S hs ts f (listed.setIfInBounds i true) a' w') a w

theorem wpAny_of_hb (hsel : Region.noSelect ops = true) (hQ : PanOk Q) : ∀ (f : Nat) (listed : Array Bool) (a : Act) (w : World), Cl md ops listed → wpHB P md ops Q S hs ts f listed a w → wpAny P md ops Q (f + ts.length) listed a w
  | 0, listed, a, w, hcl, h => by
    obtain ⟨⟨h1, h2⟩, h3⟩ := h hcl
    rw [Nat.zero_add]
    exact wpAny_of_tl hsel hQ ts listed a w h2 h3
  | f + 1, listed, a, w, hcl, h => by
    obtain ⟨h1, h2⟩ := h hcl
    rw [show f + 1 + ts.length = (f + ts.length) + 1 by omega]
    exact ⟨fun h0 => absurd h0 h1, fun i hi => wpOp_mono (fun a' w' h' => wpAny_of_hb hsel hQ f _ a' w' (hcl.set hi) h'.2) (h2 i hi).2⟩

theorem wpHB_first {i : Nat} {oi : Oper} {v : Value} (hi : ops[i]? = some oi) (hsel : ∀ (j : Nat) (o : Oper) cs b, ops[j]? = some o → o.op ≠ .select cs b) (hd : dirB md ops hs = true) (hin : i ∈ hs)
    (hQ : ∀ c a w, Q (.panic c) (a.put oi.dst v) w → Q (.panic c) a w) :
    ∀ (f : Nat) (listed : Array Bool) (a : Act) (w : World),
      (∀ j oj, ops[j]? = some oj → j ≠ i → listed.getD j true = false → (∀ e ∈ oj.after, Region.binds md e = true → e.on ≠ i) → oi.apart ops oj = true) →
      i ∈ Region.ready md ops listed → YieldsIf P ops S oi v a → S w →
      wpHB P md ops Q S hs ts f (listed.setIfInBounds i true) (a.put oi.dst v) w → wpHB P md ops Q S hs ts (f + 1) listed a w := by
  intro f
  induction f with
  | zero =>
    intro listed a w _ hr hy hS H hcl
    have H' := H (hcl.set hr)
    have hun := (mem_ready.1 hr).1
    refine ⟨fun h => (by rw [h] at hr; cases hr), fun j hj => ?_⟩
    have hjn : hs.contains j = true := by
      cases hc : hs.contains j with
      | true => rfl
      | false => exact absurd hj (dirB_not hd hcl hc hin hun)
    refine ⟨hjn, ?_⟩
    by_cases hji : j = i
    · subst hji; exact hy.wpOp hi hS ⟨hS, H⟩
    · have h5 := List.all_eq_true.1 H'.1.1 j (ready_mono hj hji)
      rw [hjn] at h5
      cases h5
  | succ f ih =>
    intro listed a w hfree hr hy hS H hcl
    have H' := H (hcl.set hr)
    have hun := (mem_ready.1 hr).1
    refine ⟨fun h => (by rw [h] at hr; cases hr), fun j hj => ?_⟩
    have hjn : hs.contains j = true := by
      cases hc : hs.contains j with
      | true => rfl
      | false => exact absurd hj (dirB_not hd hcl hc hin hun)
    refine ⟨hjn, ?_⟩
    by_cases hji : j = i
    · subst hji; exact hy.wpOp hi hS ⟨hS, H⟩
    · have h1 := (H'.2 j (ready_mono hj hji)).2
      obtain ⟨hjun, oj, hoj, hall⟩ := mem_ready.1 hj
      have hnot : ∀ e ∈ oj.after, Region.binds md e = true → e.on ≠ i := fun e he hb heq => by
        have h3 := hall e he hb
        rw [heq, getD_both hun] at h3
        cases h3
      have h2 := wpOp_putIf hoj (hfree j oj hoj hji hjun hnot) (fun cs b => hsel i oi cs b hi) (fun cs b => hsel j oj cs b hoj) hQ hy h1
      have hfree' : ∀ k ok, ops[k]? = some ok → k ≠ i → (listed.setIfInBounds j true).getD k true = false →
          (∀ e ∈ ok.after, Region.binds md e = true → e.on ≠ i) → oi.apart ops ok = true := fun k ok hk hki hku hno => by
        refine hfree k ok hk hki ?_ hno
        by_cases hjk : j = k
        · subst hjk; exact hjun
        · rw [getD_set_ne true hjk] at hku; exact hku
      refine wpOp_mono (fun a' w' h3 => ⟨h3.2.1, ih (listed.setIfInBounds j true) a' w' hfree' (ready_mono hr (Ne.symm hji)) h3.1 h3.2.1 ?_⟩) h2
      rw [Array.setIfInBounds_comm _ _ hji]
      exact h3.2.2

theorem wpHB_take {i : Nat} {oi : Oper} {v : Value} {f : Nat} {listed : Array Bool} {a : Act} {w : World} (hd : dirB md ops hs = true) (hsel : Region.noSelect ops = true) (hQ : PanOk Q) (hi : ops[i]? = some oi) (hin : hs.contains i = true)
    (hf : Region.free md ops listed i = true) (hr : (Region.ready md ops listed).contains i = true) (hy : YieldsIf P ops S oi v a) (hS : S w)
    (h : wpHB P md ops Q S hs ts f (listed.setIfInBounds i true) (a.put oi.dst v) w) : wpHB P md ops Q S hs ts (f + 1) listed a w :=
  wpHB_first hi (Region.noSelect_spec hsel) hd (by simpa using hin) (fun c a w hq => hQ c _ _ w (by cases oi.dst <;> rfl) hq) f listed a w (Region.free_spec hi hf) (by simpa using hr) hy hS h

/-- each of the operations rs comes up next -/
def AllHB (P : Program) (md : Region.Mode) (ops : Array Oper) (Q : Exit → Act → World → Prop) (S : World → Prop) (hs ts : List Nat) (f : Nat) (listed : Array Bool) (a : Act) (w : World) (rs : List Nat) : Prop :=
  ∀ i ∈ rs, hs.contains i = true ∧ wpOp P ops Q i (fun a' w' => S w' ∧ wpHB P md ops Q S hs ts f (listed.setIfInBounds i true) a' w') a w
theorem AllHB.nil {f : Nat} {listed : Array Bool} {a : Act} {w : World} : AllHB P md ops Q S hs ts f listed a w [] := fun _ h => by cases h
theorem AllHB.cons {f : Nat} {listed : Array Bool} {a : Act} {w : World} {i : Nat} {o : Oper} {rs : List Nat} (hin : hs.contains i = true) (ho : ops[i]? = some o)
    (h : ∀ K' : Act → World → Prop, Shut (∀ a w, S w → (S w → wpHB P md ops Q S hs ts f (listed.setIfInBounds i true) a w) → K' a w) → if Region.wanted o (yielded ops a.tmps) = true then Oper.wp P o a w K' Q else K' (a.put o.dst undef) w)
    (hr : AllHB P md ops Q S hs ts f listed a w rs) : AllHB P md ops Q S hs ts f listed a w (i :: rs) := fun j hj => by
  rcases List.mem_cons.1 hj with rfl | hj
  · exact ⟨hin, wpOp_step ho (fun K' hK => h K' (fun a w hS hW => hK a w ⟨hS, hW hS⟩))⟩
  · exact hr j hj
theorem wpHB_ready {rs : List Nat} {f : Nat} {listed : Array Bool} {a : Act} {w : World} (hr : Region.ready md ops listed = rs) (hne : rs ≠ [])
    (h : AllHB P md ops Q S hs ts f listed a w rs) : wpHB P md ops Q S hs ts (f + 1) listed a w := fun _ => ⟨fun h0 => hne (hr ▸ h0), hr ▸ h⟩
theorem wpHB_tail {listed : Array Bool} {a : Act} {w : World} (h1 : overB md ops hs listed = true) (h2 : tlB md ops ts listed = true) (h : wpList P ops Q (opsAt ops ts) a w) : wpHB P md ops Q S hs ts 0 listed a w := fun _ => ⟨⟨h1, h2⟩, h⟩
end
/-- the beginning -/
theorem wp_region_hb {P : Program} {id : Nat} {Q : Exit → Act → World → Prop} {a : Act} {w : World} {l : List Oper} (S : World → Prop) (hs ts : List Nat) (hm : P.follows .mixedOrders = true)
    (hB : (Region.noSelect l.toArray && decide (hs.length + ts.length = l.toArray.size) && dirB .any l.toArray hs) = true) (hQ : PanOk Q) (hS : S w.drew)
    (h : dirB .any l.toArray hs = true → Region.noSelect l.toArray = true → PanOk Q → S w.drew → wpHB P .any l.toArray Q S hs ts hs.length (Array.replicate l.toArray.size false) a w.drew) : (Code.region id l.toArray true).wp P Q a w := by
  simp only [Bool.and_eq_true, decide_eq_true_eq] at hB
  obtain ⟨⟨hsel, hn⟩, hd⟩ := hB
  refine wp_region_any hm ?_
  have := wpAny_of_hb (md := .any) (ts := ts) hsel hQ hs.length (Array.replicate l.toArray.size false) a w.drew (fun j oj _ hl => by rw [getD_replicate_false] at hl; cases hl) (h hd hsel hQ hS)
  rwa [hn] at this
theorem yieldsIf_row {P : Program} {ops : Array Oper} {S : World → Prop} {op : Oper} {a : Act} (hw : Region.wanted op (yielded ops a.tmps) = true) (ty : TypeId) (x : Operand) (ho : op.op = .load ty x) (g : Nat) (hx : a.eval x = .pointer (some ⟨g, 0, none⟩)) (t : TypeId) (cs : Array Value) (hS : ∀ w, S w → Blk w g t cs)
    (hu : ∃ fs, P.underlying ty = some (.struct fs)) (hi : (P.info? ty).map (·.size) = some cs.size) : YieldsIf P ops S op (.agg cs) a := by
  obtain ⟨fs, hu⟩ := hu
  refine .inl ⟨hw, fun w hs => ?_⟩
  have h1 := run_loadVar_row w g t ty cs (0, 0) _ (hS w hs) hu rfl hi
  unfold execOp
  simp only [ho, hx, Instr.loadAt, Instr.sureAddr, Sem.run_bind, Sem.run_pure, Result.andThen_ok]
  rw [h1]
  rfl
theorem Blk.range {w : World} {b : Nat} {t : TypeId} {pre mid post : List Value} (h : Blk w b t (pre ++ mid ++ post).toArray) : w.rangeAt b pre.length mid := fun j v hv => by
  rw [h.cell]
  have hj := (List.getElem?_eq_some_iff.1 hv).1
  rw [List.getElem?_toArray, List.append_assoc, List.getElem?_append_right (by omega), show pre.length + j - pre.length = j by omega, List.getElem?_append_left hj]
  exact hv
/-- one block has changed -/
structure Upd (w w' : World) (g : Nat) : Prop where
  b : ∀ B, B ≤ g → Below B w w'
  f : ∀ x, x ≠ g → w'.heap[x]? = w.heap[x]?
  s : w'.heap.size = w.heap.size
theorem Upd.cell {w w' : World} {g : Nat} (h : Upd w w' g) {x o : Nat} (hx : x ≠ g) : w'.cell? ⟨x, o, none⟩ = w.cell? ⟨x, o, none⟩ := World.cell?_of_block (h.f x hx)
theorem Blk.upd {w w' : World} {g b : Nat} {t : TypeId} {cs : Array Value} (h : Blk w b t cs) (u : Upd w w' g) (hb : b ≠ g) : Blk w' b t cs := (u.f b hb).trans h
theorem Upd.refl (w : World) (g : Nat) : Upd w w g := ⟨fun _ _ => Below.refl _ _, fun _ _ => rfl, rfl⟩
theorem Upd.setCell {w w' : World} {g : Nat} (h : Upd w w' g) (o : Nat) (v : Value) : Upd w (w'.setCell ⟨g, o, none⟩ v) g :=
  ⟨fun B hB => (h.b B hB).setCell (p := ⟨g, o, none⟩) hB v, fun x hx => (Below.heap_setCell w' ⟨g, o, none⟩ v x hx).trans (h.f x hx), by simpa using h.s⟩
theorem Upd.setCells {w : World} {g : Nat} : ∀ (vs : List Value) (o : Nat) (w' : World), Upd w w' g → Upd w (w'.setCells g o vs) g
  | [], _, _, h => h
  | v :: vs, o, w', h => by
    simp only [World.setCells]
    exact Upd.setCells vs (o + 1) _ (h.setCell o v)
theorem Upd.trans {a b c : World} {g : Nat} (h : Upd a b g) (k : Upd b c g) : Upd a c g := ⟨fun B hB => (h.b B hB).trans (k.b B hB), fun x hx => (k.f x hx).trans (h.f x hx), k.s.trans h.s⟩
theorem Seg.upd {α : Type} {w w' : World} {g B size : Nat} {enc : α → List Value} {A : Option Addr} {xs : List α} (h : Seg w B size enc A xs) (u : Upd w w' g) (hp : ∀ a, A = some a → a.block ≠ g) : Seg w' B size enc A xs := fun k x hx => by
  obtain ⟨b, off, e, hb, hc⟩ := h k x hx
  exact ⟨b, off, e, hb, fun j v hv => (u.cell (hp _ e)).trans (hc j v hv)⟩
theorem Own.upd {α : Type} {w w' : World} {B g : Nat} {T : TypeId} {size : Nat} {enc : α → List Value} {v : Value} {xs : List α} (h : Own w B T size enc v xs) (u : Upd w w' g) (hg : ∀ k, v.ownBlock = some k → k ≠ g) : Own w' B T size enc v xs := by
  refine ⟨h.1, ?_⟩
  rcases h.2 with h2 | ⟨k, cap, cur, hv, hk, hh, r⟩
  · exact .inl h2
  · exact .inr ⟨k, cap, cur, hv, hk, by rw [u.f k (hg k (by rw [hv]; rfl))]; exact hh, r⟩
/-- a struct stored into cells i, i + 1, .. of a block known whole: the world behind as a letter -/
theorem wp_store_all {P : Program} {o : Oper} {a : Act} {w : World} {K : Act → World → Prop} {Q : Exit → Act → World → Prop} (ty : TypeId) (x y : Operand) (ho : o.op = .store ty x y) (g : Nat) (t : TypeId) (pre old post cs : List Value) (hx : a.eval x = .pointer (some ⟨g, pre.length, none⟩)) (hy : a.eval y = .agg cs.toArray)
    (hb : Blk w g t (pre ++ old ++ post).toArray) (hlen : old.length = cs.length) (hi : (P.info? ty).map (·.size) = some cs.length) (h1 : ∀ v ∈ cs, v.oneCell' = true)
    (h : ∀ w', Blk w' g t (pre ++ cs ++ post).toArray → Upd w w' g → K (a.put o.dst undef) w') : o.wp P a w K Q := by
  refine wp_store_mid ty x y ho g pre.length cs.toArray hx hy ?_ (by simpa using hi) (all_oneCell_toArray h1) ?_
  · intro j hj
    simp only [List.size_toArray] at hj
    rw [hb.cell, hb.frozen]
    refine ⟨?_, rfl⟩
    simp; omega
  · rw [List.toList_toArray]
    exact h _ (setCells_blk cs pre old post w hlen hb) (Upd.setCells cs pre.length w (Upd.refl w g))
theorem wpList_store_all {P : Program} {ops : Array Oper} {rest : List Oper} {Q : Exit → Act → World → Prop} {a : Act} {w : World} {o : Oper} (hgd : o.guard = none) (ty : TypeId) (x y : Operand) (ho : o.op = .store ty x y) (g : Nat) (t : TypeId) (pre old post cs : List Value) (hx : a.eval x = .pointer (some ⟨g, pre.length, none⟩)) (hy : a.eval y = .agg cs.toArray)
    (hb : Blk w g t (pre ++ old ++ post).toArray) (hlen : old.length = cs.length) (hi : (P.info? ty).map (·.size) = some cs.length) (h1 : ∀ v ∈ cs, v.oneCell' = true)
    (h : ∀ w', Blk w' g t (pre ++ cs ++ post).toArray → Upd w w' g → wpList P ops Q rest (a.put o.dst undef) w') : wpList P ops Q (o :: rest) a w :=
  wpList_plain hgd fun _K hK => wp_store_all ty x y ho g t pre old post cs hx hy hb hlen hi h1 fun w' h2 h3 => hK _ _ (h w' h2 h3)
end Go.Proofs.YtplommmegkdhdaaGreatDoor
/- A whole element of a list of the call's own stored: the world behind as a letter. -/
namespace Go.Proofs.YtplommmegkdhdaaGreatDoor
open Go.RowKit

theorem wp_store_el {P : Program} {α : Type} {w : World} {o : Oper} {a : Act} {K : Act → World → Prop} {Q : Exit → Act → World → Prop} (ty : TypeId) (x y : Operand) (ho : o.op = .store ty x y)
    {B : Nat} {T : TypeId} {size : Nat} {enc : α → List Value} {g n cap : Nat} {xs : List α} (hO : Own w B T size enc (.slice (some ⟨g, 0, none⟩) n cap) xs) (he : ∀ x, (enc x).length = size) (hn : xs.length = n) {k : Nat} {z : α} (hz : xs[k]? = some z) (v : α)
    (hx : a.eval x = .pointer (some ⟨g, k * size, none⟩)) (hy : a.eval y = .agg (enc v).toArray) (hi : (P.info? ty).map (·.size) = some size) (h1 : ∀ u ∈ enc v, u.oneCell' = true)
    (h : ∀ w', Own w' B T size enc (.slice (some ⟨g, 0, none⟩) n cap) (xs.set k v) → Upd w w' g → K (a.put o.dst undef) w') : o.wp P a w K Q := by
  refine wp_store_mid ty x y ho g (k * size) (enc v).toArray hx hy ?_ (by simpa [he] using hi) (all_oneCell_toArray h1) ?_
  · simpa [he] using hO.there he hn hz (j := 0) (c := size) (by omega)
  · rw [List.toList_toArray]
    refine h _ ?_ (Upd.setCells (enc v) (k * size) w (Upd.refl w g))
    have := hO.setPart he hn hz (j := 0) (y := v) (vs := enc v) (by rw [he]; omega) (by
      have e : ∀ (vs l : List Value), l.length = vs.length → setL l 0 vs = vs := by
        intro vs l hl
        have key : ∀ (vs pre l : List Value), l.length = vs.length → setL (pre ++ l) pre.length vs = pre ++ vs := by
          intro vs
          induction vs with
          | nil => intro pre l hl; obtain rfl := List.eq_nil_of_length_eq_zero hl; rfl
          | cons u vs ih =>
            intro pre l hl
            cases l with
            | nil => simp at hl
            | cons r l =>
              simp only [setL]
              have := ih (pre ++ [u]) l (by simpa using hl)
              simp only [List.length_append, List.length_cons, List.length_nil, List.append_assoc, List.cons_append, List.nil_append] at this
              rw [← this]; congr 1
              simp
        simpa using key vs [] l hl
      rw [e _ _ (by rw [he, he])])
    simpa using this
theorem wpList_store_el {P : Program} {α : Type} {w : World} {ops : Array Oper} {rest : List Oper} {Q : Exit → Act → World → Prop} {o : Oper} {a : Act} (hgd : o.guard = none) (ty : TypeId) (x y : Operand) (ho : o.op = .store ty x y)
    {B : Nat} {T : TypeId} {size : Nat} {enc : α → List Value} {g n cap : Nat} {xs : List α} (hO : Own w B T size enc (.slice (some ⟨g, 0, none⟩) n cap) xs) (he : ∀ x, (enc x).length = size) (hn : xs.length = n) {k : Nat} {z : α} (hz : xs[k]? = some z) (v : α)
    (hx : a.eval x = .pointer (some ⟨g, k * size, none⟩)) (hy : a.eval y = .agg (enc v).toArray) (hi : (P.info? ty).map (·.size) = some size) (h1 : ∀ u ∈ enc v, u.oneCell' = true)
    (h : ∀ w', Own w' B T size enc (.slice (some ⟨g, 0, none⟩) n cap) (xs.set k v) → Upd w w' g → wpList P ops Q rest (a.put o.dst undef) w') : wpList P ops Q (o :: rest) a w :=
  wpList_plain hgd fun _K hK => wp_store_el ty x y ho hO he hn hz v hx hy hi h1 fun w' h2 h3 => hK _ _ (h w' h2 h3)
end Go.Proofs.YtplommmegkdhdaaGreatDoor
