/- The checks byNature, notMoney, onItself at a subject. -/
import Derived.Test.YtcfjehohemdanaaDoorTb5
namespace Go.Proofs.YtcfjehohemdanaaDoor
open Go.RowKit Go.Sort

set_option maxRecDepth 100000 in
set_option maxHeartbeats 1600000 in
theorem byNat_any (s : Sy) (m : Sm) (i : Int) (k : Nat) (a : As) (w : World) (hk : s.ac[k]? = some a) (hs : Seg w w.heap.size 9 encAs m.a s.ac) :
    Calls Tryd.prog 44 #[.agg (sbA s m i), .int .i64 k] w fun e w' => e = .returned (.bool (a.a.kind == 1 && a.a.role == -1)) ∧ Below w.heap.size w w' := by
  obtain ⟨b, o, ea, hb, hc⟩ := segAs hs hk
  have a2 : w.cell? ⟨b, o + k * 9 + 2, none⟩ = some (.int .i64 a.a.kind) := hc 2 _ rfl
  have a3 : w.cell? ⟨b, o + k * 9 + 3, none⟩ = some (.int .i64 a.a.role) := hc 3 _ rfl
  have a4 : w.cell? ⟨b, o + k * 9 + 4, none⟩ = some (.int .i64 a.a.give) := hc 4 _ rfl
  have a5 : w.cell? ⟨b, o + k * 9 + 5, none⟩ = some (.int .i64 a.a.to_) := hc 5 _ rfl
  have a6 : w.cell? ⟨b, o + k * 9 + 6, none⟩ = some (.int .i64 a.a.unit) := hc 6 _ rfl
  have a7 : w.cell? ⟨b, o + k * 9 + 7, none⟩ = some (.int .i64 a.a.lot.1) := hc 7 _ rfl
  have a8 : w.cell? ⟨b, o + k * 9 + 8, none⟩ = some (.int .i64 a.a.lot.2) := hc 8 _ rfl
  have hlt : k < s.ac.length := (List.getElem?_eq_some_iff.1 hk).1
  clear hc hk hs
  unfold sbA
  rw [ea]
  go_enter Tryd.func44, Tryd.ntmps44
  go_wp2
  all_goals go_ret
  all_goals exact ⟨ret_bool (by simp_all), (wa1 _ _).alloc (by simp) _⟩
set_option maxRecDepth 100000 in
set_option maxHeartbeats 1600000 in
theorem notMo_no (s : Sy) (m : Sm) (k : Nat) (x : Cm) (w : World) (hk : m.cs[k]? = some x) (hl : m.cs.length = s.cl.length) (hs : Seg w w.heap.size 24 encCl m.c m.cs) (hu : x.c.c.unit = -1) :
    Calls Tryd.prog 32 #[.agg (sbA s m k)] w fun e w' => e = .returned (.bool false) ∧ Below w.heap.size w w' := by
  obtain ⟨b, o, ea, hb, hc⟩ := segCl hs hk
  have a21 : w.cell? ⟨b, o + k * 24 + 21, none⟩ = some (.int .i64 (-1)) := hu ▸ hc 21 _ rfl
  have hlt : k < s.cl.length := by rw [← hl]; exact (List.getElem?_eq_some_iff.1 hk).1
  clear hc hk hs hl hu
  unfold sbA
  rw [ea]
  go_enter Tryd.func32, Tryd.ntmps32
  go_wp2
  all_goals go_ret
  all_goals exact ⟨rfl, wa1 _ _⟩
theorem segUn {w : World} {B : Nat} {A : Option Addr} {l : List Un} {k : Nat} {x : Un} (h : Seg w B 5 encUn A l) (hx : l[k]? = some x) :
    ∃ b off, A = some ⟨b, off, none⟩ ∧ b < B ∧ ∀ j u, (encUn x)[j]? = some u → w.cell? ⟨b, off + k * 5 + j, none⟩ = some u := h k x hx
set_option maxRecDepth 100000 in
set_option maxHeartbeats 1600000 in
theorem notMo_yes (s : Sy) (m : Sm) (k : Nat) (x : Cm) (u : Nat) (y : Un) (w : World) (hk : m.cs[k]? = some x) (hl : m.cs.length = s.cl.length) (hs : Seg w w.heap.size 24 encCl m.c m.cs) (hu : x.c.c.unit = (u : Int)) (hy : s.un[u]? = some y) (ht : Seg w w.heap.size 5 encUn m.u s.un) :
    Calls Tryd.prog 32 #[.agg (sbA s m k)] w fun e w' => e = .returned (.bool (y.kind != 2)) ∧ Below w.heap.size w w' := by
  obtain ⟨b, o, ea, hb, hc⟩ := segCl hs hk
  obtain ⟨b2, o2, ea2, hb2, hc2⟩ := segUn ht hy
  have a21 : w.cell? ⟨b, o + k * 24 + 21, none⟩ = some (.int .i64 u) := hu ▸ hc 21 _ rfl
  have u1 : w.cell? ⟨b2, o2 + u * 5 + 1, none⟩ = some (.int .i64 y.kind) := hc2 1 _ rfl
  have hlt : k < s.cl.length := by rw [← hl]; exact (List.getElem?_eq_some_iff.1 hk).1
  have hlu : u < s.un.length := (List.getElem?_eq_some_iff.1 hy).1
  clear hc hk hs hl hu hc2 hy ht
  unfold sbA
  rw [ea, ea2]
  go_enter Tryd.func32, Tryd.ntmps32
  go_wp2
  all_goals go_ret
  all_goals exact ⟨ret_bool (by first | (simp_all; done) | (simp_all; omega)), wa1 _ _⟩
theorem segCo {w : World} {B : Nat} {A : Option Addr} {l : List (Int × Int)} {k : Nat} {x : Int × Int} (h : Seg w B 2 encCo A l) (hx : l[k]? = some x) :
    ∃ b off, A = some ⟨b, off, none⟩ ∧ b < B ∧ w.cell? ⟨b, off + k * 2, none⟩ = some (.int .i64 x.1) ∧ w.cell? ⟨b, off + k * 2 + 1, none⟩ = some (.int .i64 x.2) := by
  obtain ⟨b, off, e, hb, hc⟩ := h k x hx
  exact ⟨b, off, e, hb, hc 0 _ rfl, hc 1 _ rfl⟩
set_option maxRecDepth 100000 in
set_option maxHeartbeats 1600000 in
theorem onIt_any (s : Sy) (m : Sm) (k : Nat) (x : Cm) (w : World) (hk : m.cs[k]? = some x) (hl : m.cs.length = s.cl.length) (hlen : x.c.c.start.length ≤ 1000000) (hs : Seg w w.heap.size 24 encCl m.c m.cs) (ht : Seg w w.heap.size 2 encCo x.A x.c.c.start) :
    Calls Tryd.prog 30 #[.agg (sbA s m k)] w fun e w' => e = .returned (.bool (x.c.c.start.any fun y => y.1 == (k : Int))) ∧ Below w.heap.size w w' := by
  obtain ⟨b, o, ea, hb, hc⟩ := segCl hs hk
  have a12 : w.cell? ⟨b, o + k * 24 + 12, none⟩ = some (.slice x.A x.c.c.start.length x.cap) := hc 12 _ rfl
  have hlt : k < s.cl.length := by rw [← hl]; exact (List.getElem?_eq_some_iff.1 hk).1
  obtain ⟨l, hL⟩ : ∃ l, x.c.c.start = l := ⟨_, rfl⟩
  rw [hL] at ht a12 hlen ⊢
  have HT := Lib.hid ht
  clear hc hk hs hl ht hL
  unfold sbA
  rw [ea]
  go_enter Tryd.func30, Tryd.ntmps30
  go_upto_region 2 with (fail)
  refine name_wp ?_
  intro X hX
  have s18 : X.cell? ⟨w.heap.size, 18, none⟩ = some (.int .i64 k) := by rw [hX]; exact (Blk.new _ _ _).cell 18
  have hbX : Below w.heap.size w X := by rw [hX]; exact wa1 _ _
  have sz := block_lt_of_cell s18
  obtain ⟨B0, hB0⟩ : ∃ B0, w.heap.size = B0 := ⟨_, rfl⟩
  have HB0 := Lib.hid hB0
  have HBX := Lib.hid hbX
  rw [hB0] at s18 sz
  rw [hB0]
  clear hX hbX hB0 a12 hb
  go_loopw [15] (fun y WR => ∃ j : Nat, j ≤ l.length ∧ y = .int .i64 j ∧ Hid ((l.take j).any (fun y => y.1 == (k : Int)) = false) ∧ Below X.heap.size X WR) (fun y _ => 2000000 - (intOf y).toNat)
  case atStart => exact ⟨0, by omega, rfl, rfl, Below.refl _ _⟩
  case round =>
    obtain ⟨j, hj, rfl, hN, hbr⟩ := hrel
    have HBR := Lib.hid hbr
    by_cases hlt2 : j < l.length
    · obtain ⟨y, hy⟩ : ∃ y, l[j]? = some y := ⟨_, List.getElem?_eq_getElem hlt2⟩
      obtain ⟨b1, o1, ec, hb1, y0, y1⟩ := segCo ((HT.out.below HBX.out).below (hbr.mono HBX.out.size)) hy
      have k18 := (hbr.cell (p := ⟨B0, 18, none⟩) sz).trans s18
      have hB1 : b1 < wr.heap.size := Nat.lt_of_lt_of_le hb1 (Nat.le_trans HBX.out.size hbr.size)
      have hB2 : B0 < wr.heap.size := Nat.lt_of_lt_of_le sz hbr.size
      have htk : Hid ((l.take (j + 1)).any (fun y => y.1 == (k : Int)) = (y.1 == (k : Int))) := by
        unfold Hid
        obtain ⟨h1, rfl⟩ := List.getElem?_eq_some_iff.1 hy
        rw [List.take_succ_eq_append_getElem h1, List.any_append, hN.out]
        simp
      rw [ec]
      clear hbr hy s18
      by_cases hq : y.1 = (k : Int)
      · have hqq : (y.1 == (k : Int)) = true := by simpa using hq
        have hf : Hid (l.any (fun y => y.1 == (k : Int)) = true) := by
          unfold Hid
          rw [← List.take_append_drop (j + 1) l, List.any_append, htk.out, hqq, Bool.true_or]
        go_wp2
        go_ret
        exact ⟨ret_bool hf.out.symm, HB0.out ▸ below_then HBX.out (below_alloc HBR.out _)⟩
      · have hqq : (y.1 == (k : Int)) = false := by simpa using hq
        have hf : Hid ((l.take (j + 1)).any (fun y => y.1 == (k : Int)) = false) := by unfold Hid; rw [htk.out, hqq]
        go_wp2
        go_roundw
        case rel => exact ⟨j + 1, by omega, by go_num, hf, below_alloc HBR.out _⟩
        case measure => simp [intOf]; omega
    · have hf : Hid (l.any (fun y => y.1 == (k : Int)) = false) := by
        have := hN.out
        rwa [List.take_of_length_le (by omega)] at this
      clear hbr
      go_wp2
      go_ret
      exact ⟨ret_bool hf.out.symm, HB0.out ▸ below_then HBX.out HBR.out⟩
end Go.Proofs.YtcfjehohemdanaaDoor
