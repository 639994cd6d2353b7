/- The walks of package cascade: isParty, laterDue. A portfolio in memory. -/
import Derived.Test.YteoicnhnpailiaaWk
import Derived.Test.YteoicnhnpailiaaCa4
namespace Go.Proofs.Yteoicnhnpailiaa
open Go.RowKit Go.Sort

def encA (x : Int × Int) : List Value := [.int .i64 x.1, .int .i64 x.2]
def encG (x : Gu) : List Value := [.int .i64 x.x, .int .i64 x.b, .int .i64 x.t]
def encT (x : Tr) : List Value := [.int .i64 x.p, .int .i64 x.d]
def encB (x : Bool) : List Value := [.bool x]
theorem segA {w : World} {B : Nat} {A : Option Addr} {l : List (Int × Int)} {k : Nat} {x : Int × Int} (h : Seg w B 2 encA A l) (hx : l[k]? = some x) :
    ∃ b off, A = some ⟨b, off, none⟩ ∧ b < B ∧ w.cell? ⟨b, off + k * 2, none⟩ = some (.int .i64 x.1) ∧ w.cell? ⟨b, off + k * 2 + 1, none⟩ = some (.int .i64 x.2) := by
  obtain ⟨b, off, e, hb, hc⟩ := h k x hx
  exact ⟨b, off, e, hb, hc 0 _ rfl, hc 1 _ rfl⟩
theorem segG {w : World} {B : Nat} {A : Option Addr} {l : List Gu} {k : Nat} {x : Gu} (h : Seg w B 3 encG A l) (hx : l[k]? = some x) :
    ∃ b off, A = some ⟨b, off, none⟩ ∧ b < B ∧ w.cell? ⟨b, off + k * 3, none⟩ = some (.int .i64 x.x) ∧ w.cell? ⟨b, off + k * 3 + 1, none⟩ = some (.int .i64 x.b) ∧ w.cell? ⟨b, off + k * 3 + 2, none⟩ = some (.int .i64 x.t) := by
  obtain ⟨b, off, e, hb, hc⟩ := h k x hx
  exact ⟨b, off, e, hb, hc 0 _ rfl, hc 1 _ rfl, hc 2 _ rfl⟩
theorem segT {w : World} {B : Nat} {A : Option Addr} {l : List Tr} {k : Nat} {x : Tr} (h : Seg w B 2 encT A l) (hx : l[k]? = some x) :
    ∃ b off, A = some ⟨b, off, none⟩ ∧ b < B ∧ w.cell? ⟨b, off + k * 2, none⟩ = some (.int .i64 x.p) ∧ w.cell? ⟨b, off + k * 2 + 1, none⟩ = some (.int .i64 x.d) := by
  obtain ⟨b, off, e, hb, hc⟩ := h k x hx
  exact ⟨b, off, e, hb, hc 0 _ rfl, hc 1 _ rfl⟩
theorem segB {w : World} {B : Nat} {A : Option Addr} {l : List Bool} {k : Nat} {x : Bool} (h : Seg w B 1 encB A l) (hx : l[k]? = some x) :
    ∃ b off, A = some ⟨b, off, none⟩ ∧ b < B ∧ w.cell? ⟨b, off + k, none⟩ = some (.bool x) := by
  obtain ⟨b, off, e, hb, hc⟩ := h k x hx
  exact ⟨b, off, e, hb, by simpa using hc 0 _ rfl⟩
/-- where the lists of a portfolio lie -/
structure Ms where
  a1 : Option Addr
  c1 : Nat
  a2 : Option Addr
  c2 : Nat
  a3 : Option Addr
  c3 : Nat
  a4 : Option Addr
  c4 : Nat
  a5 : Option Addr
  c5 : Nat
abbrev pfA (p : Pf) (m : Ms) : Array Value := #[.int .i64 p.n, .slice m.a1 p.as.length m.c1, .slice m.a2 p.du.length m.c2, .slice m.a3 p.la.length m.c3, .slice m.a4 p.gu.length m.c4, .slice m.a5 p.tr.length m.c5]
structure Pm (w : World) (p : Pf) (m : Ms) : Prop where
  s1 : Seg w w.heap.size 2 encA m.a1 p.as
  s2 : Seg w w.heap.size 4 encD m.a2 p.du
  s3 : Seg w w.heap.size 4 encD m.a3 p.la
  s4 : Seg w w.heap.size 3 encG m.a4 p.gu
  s5 : Seg w w.heap.size 2 encT m.a5 p.tr
theorem Pm.then_ {w w' : World} {p : Pf} {m : Ms} (h : Pm w p m) (hb : Below w.heap.size w w') : Pm w' p m :=
  ⟨(h.s1.below hb).more hb.size, (h.s2.below hb).more hb.size, (h.s3.below hb).more hb.size, (h.s4.below hb).more hb.size, (h.s5.below hb).more hb.size⟩
theorem pfCells {X : World} {g : Nat} {p : Pf} {m : Ms} (h : Blk X g 27 (pfA p m)) :
    X.cell? ⟨g, 0, none⟩ = some (.int .i64 p.n) ∧ X.cell? ⟨g, 1, none⟩ = some (.slice m.a1 p.as.length m.c1) ∧ X.cell? ⟨g, 2, none⟩ = some (.slice m.a2 p.du.length m.c2) ∧ X.cell? ⟨g, 3, none⟩ = some (.slice m.a3 p.la.length m.c3) ∧ X.cell? ⟨g, 4, none⟩ = some (.slice m.a4 p.gu.length m.c4) ∧ X.cell? ⟨g, 5, none⟩ = some (.slice m.a5 p.tr.length m.c5) :=
  ⟨h.cell 0, h.cell 1, h.cell 2, h.cell 3, h.cell 4, h.cell 5⟩
/-- a set as a value -/
def setA (S : List Bool) : Array Value := (S.map Value.bool).toArray
theorem setA_get {S : List Bool} (hs : S.length = 12) {i : Int} (h0 : 0 ≤ i) (h1 : i < 12) : (setA S)[i.toNat]? = some (.bool (has S i)) := by
  simp only [setA, List.getElem?_toArray, List.getElem?_map, has, List.getD_eq_getElem?_getD]
  rw [List.getElem?_eq_getElem (by omega)]
  rfl
theorem party_any (p : Pf) (m : Ms) (i : Int) (w : World) :
    Calls Try.prog 34 #[.agg (pfA p m), .int .i64 i] w fun e w' => e = .returned (.bool (okP p.n i)) ∧ Below w.heap.size w w' := by
  have hc : (i < 0 ∧ okP p.n i = false) ∨ (0 ≤ i ∧ i < p.n ∧ okP p.n i = true) ∨ (0 ≤ i ∧ p.n ≤ i ∧ okP p.n i = false) := by
    unfold okP
    rcases Int.lt_or_le i 0 with h | h
    · exact .inl ⟨h, by simp; omega⟩
    · rcases Int.lt_or_le i p.n with h' | h'
      · exact .inr (.inl ⟨h, h', by simp [h, h']⟩)
      · exact .inr (.inr ⟨h, h', by simp; omega⟩)
  go_enter Try.func34, Try.ntmps34
  go_upto_region 1 with (fail)
  refine name_wp ?_
  intro X hX
  have gX : Blk X w.heap.size 27 (pfA p m) := by rw [hX]; exact Blk.new _ _ _
  have hbX : Below w.heap.size w X := by rw [hX]; exact below_alloc (Below.refl _ _) _
  obtain ⟨e0, _, _, _, _, _⟩ := pfCells gX
  clear hX gX
  rcases hc with ⟨h, hr⟩ | ⟨h, h', hr⟩ | ⟨h, h', hr⟩
  · have HR := Lib.hid hr
    clear hr
    go_wp2
    go_ret
    exact ⟨ret_bool (by rw [HR.out] <;> first | rfl | (simp; omega)), hbX⟩
  · have HR := Lib.hid hr
    clear hr
    go_wp2
    go_ret
    exact ⟨ret_bool (by rw [HR.out] <;> first | rfl | (simp; omega)), hbX⟩
  · have HR := Lib.hid hr
    clear hr
    go_wp2
    go_ret
    exact ⟨ret_bool (by rw [HR.out] <;> first | rfl | (simp; omega)), hbX⟩
theorem take_any {α : Type} {f : α → Bool} {l : List α} {k : Nat} {x : α} (hx : l[k]? = some x) : (l.take (k + 1)).any f = ((l.take k).any f || f x) := by
  obtain ⟨hk, rfl⟩ := List.getElem?_eq_some_iff.1 hx
  rw [List.take_succ_eq_append_getElem hk, List.any_append]; simp
set_option maxRecDepth 100000 in
set_option maxHeartbeats 1600000 in
theorem late_any (p : Pf) (m : Ms) (i : Int) (S : List Bool) (hS : S.length = 12) (w : World) (hv : VP p) (hm : Pm w p m) :
    Calls Try.prog 52 #[.agg (pfA p m), .int .i64 i, .agg (setA S)] w fun e w' => e = .returned (.bool (lat p S i)) ∧ Below w.heap.size w w' := by
  have HM := Lib.hid hm.s5
  have HV := Lib.hid hv.tr
  have HN := Lib.hid hv.n12
  have HG := Lib.hid (fun (i : Int) => @setA_get S hS i)
  have hl : p.tr.length ≤ 400 := hv.ltr
  clear hv hm
  obtain ⟨f, hf⟩ : ∃ f : Tr → Bool, f = fun t => t.d == i && has S t.p := ⟨_, rfl⟩
  have HF : Hid (lat p S i = p.tr.any f) := by rw [Hid, hf]; rfl
  have HFF : Hid (∀ t, f t = (t.d == i && has S t.p)) := by rw [Hid, hf]; exact fun _ => rfl
  clear hf
  go_enter Try.func52, Try.ntmps52
  go_upto_region 1 with (fail)
  refine name_wp ?_
  intro X hX
  have gX : Blk X w.heap.size 27 (pfA p m) := by rw [hX]; exact (Blk.new _ _ _).alloc _
  have gY : Blk X (w.heap.size + 1) 66 (setA S) := by rw [hX, ← size_alloc w (.cells (pfA p m) 27)]; exact Blk.new _ _ _
  have hbX : Below w.heap.size w X := by rw [hX]; exact below_alloc (below_alloc (Below.refl _ _) _) _
  have HX := Lib.hid ((HM.out.below hbX).more hbX.size)
  obtain ⟨_, _, _, _, _, e5⟩ := pfCells gX
  have HGY := Lib.hid gY
  have hgl : w.heap.size + 1 < X.heap.size := gY.lt
  clear hX gX gY HM
  go_upto_region 2 with (fail)
  go_loopw [12] (fun x wr => ∃ k : Nat, k ≤ p.tr.length ∧ x = .int .i64 k ∧ Hid ((p.tr.take k).any f = false) ∧ Below X.heap.size X wr) (fun x _ => p.tr.length - (intOf x).toNat)
  case atStart => exact ⟨0, by omega, rfl, by simp [Hid], Below.refl _ _⟩
  case round =>
    obtain ⟨k, hk, rfl, hN, hbr⟩ := hrel
    have HR := Lib.hid hbr
    by_cases hlt : k < p.tr.length
    · obtain ⟨x, hx⟩ : ∃ x, p.tr[k]? = some x := ⟨_, List.getElem?_eq_getElem hlt⟩
      obtain ⟨b, off, e, hb, c0, c1⟩ := segT ((HX.out.below hbr).more hbr.size) hx
      obtain ⟨⟨f1, f2⟩, ⟨f3, f4⟩, _⟩ := HV.out x (List.mem_of_getElem? hx)
      have f5 := HN.out
      have HT := Lib.hid (take_any (f := f) hx)
      have hg := HG.out x.p f1 (by omega)
      have gs : wr.cell? ⟨w.heap.size + 1, x.p.toNat, none⟩ = some (.bool (has S x.p)) := by rw [((HGY.out.then_ hbr).cell _)]; exact hg
      have HFX := Lib.hid (HFF.out x)
      have hws : w.heap.size + 1 < wr.heap.size := Nat.lt_of_lt_of_le hgl hbr.size
      clear hx hg hbr
      rw [e]
      clear e
      by_cases hd : x.d = i
      · have hd' : (x.d == i) = true := by simpa using hd
        rcases hbb (has S x.p) with hh | hh
        · rw [hh] at gs HFX
          go_wp2
          go_ret
          refine ⟨ret_bool ?_, below_then hbX (by have := HR.out; (repeat (first | with_reducible assumption | with_reducible exact Below.refl _ _ | with_reducible refine below_drewN ?_ _ | with_reducible refine Below.drew ?_ | with_reducible refine below_alloc ?_ _ | with_reducible refine Below.setCell ?_ (by first | omega | (simp; done) | (simp; omega)) _ | with_reducible refine below_then ?_ (by with_reducible assumption) | (refine below_then (a := World.drew _) ?_ (by with_reducible assumption)))))⟩
          rw [HF.out]
          have h1 := HT.out
          rw [HFX.out, hd'] at h1
          rw [← List.take_append_drop (k + 1) p.tr, List.any_append, h1]
          simp
        · rw [hh] at gs HFX
          go_wp2
          go_roundw
          case rel => exact ⟨k + 1, by omega, by go_num, by rw [Hid, HT.out, hN.out, HFX.out, hd']; rfl, by have := HR.out; (repeat (first | with_reducible assumption | with_reducible exact Below.refl _ _ | with_reducible refine below_drewN ?_ _ | with_reducible refine Below.drew ?_ | with_reducible refine below_alloc ?_ _ | with_reducible refine Below.setCell ?_ (by first | omega | (simp; done) | (simp; omega)) _ | with_reducible refine below_then ?_ (by with_reducible assumption) | (refine below_then (a := World.drew _) ?_ (by with_reducible assumption))))⟩
          case measure => simp [intOf]; omega
      · have hd' : (x.d == i) = false := by simpa using hd
        go_wp2
        go_roundw
        case rel => exact ⟨k + 1, by omega, by go_num, by rw [Hid, HT.out, hN.out, HFX.out, hd']; rfl, by have := HR.out; (repeat (first | with_reducible assumption | with_reducible exact Below.refl _ _ | with_reducible refine below_drewN ?_ _ | with_reducible refine Below.drew ?_ | with_reducible refine below_alloc ?_ _ | with_reducible refine Below.setCell ?_ (by first | omega | (simp; done) | (simp; omega)) _ | with_reducible refine below_then ?_ (by with_reducible assumption) | (refine below_then (a := World.drew _) ?_ (by with_reducible assumption))))⟩
        case measure => simp [intOf]; omega
    · obtain rfl : k = p.tr.length := by omega
      go_wp2
      go_ret
      refine ⟨ret_bool ?_, below_then hbX HR.out⟩
      have := hN.out
      rw [List.take_length] at this
      rw [HF.out, this]
end Go.Proofs.Yteoicnhnpailiaa
