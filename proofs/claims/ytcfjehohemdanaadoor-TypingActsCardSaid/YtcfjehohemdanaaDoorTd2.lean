/- estoppellaw11.without and estoppelref11.Small. -/
import Derived.Test.YtcfjehohemdanaaDoorTd1
namespace Go.Proofs.YtcfjehohemdanaaDoor
open Go.RowKit Go.Sort

def wout (l : List (Int × Int)) (p : Int) : List (Int × Int) := l.filter fun x => x.2 != p
theorem wout_yes {l : List (Int × Int)} {k : Nat} {x : Int × Int} {p : Int} (hx : l[k]? = some x) (h : x.2 ≠ p) : wout (l.take (k + 1)) p = wout (l.take k) p ++ [x] := by
  obtain ⟨h1, rfl⟩ := List.getElem?_eq_some_iff.1 hx
  unfold wout; rw [List.take_succ_eq_append_getElem h1, List.filter_append]; simp [h]
theorem wout_no {l : List (Int × Int)} {k : Nat} {x : Int × Int} {p : Int} (hx : l[k]? = some x) (h : x.2 = p) : wout (l.take (k + 1)) p = wout (l.take k) p := by
  obtain ⟨h1, rfl⟩ := List.getElem?_eq_some_iff.1 hx
  unfold wout; rw [List.take_succ_eq_append_getElem h1, List.filter_append]; simp [h]
theorem wout_len (l : List (Int × Int)) (p : Int) : (wout l p).length ≤ l.length := List.length_filter_le _ _
set_option maxRecDepth 100000 in
set_option maxHeartbeats 1600000 in
theorem without_any (A : Option Addr) (c : Nat) (l : List (Int × Int)) (p : Int) (w : World) (hl : l.length ≤ 100000) (hA : Seg w w.heap.size 2 encF A l) :
    Calls Tryd.prog 14 #[.slice A l.length c, .int .i64 p] w fun e w' => ∃ v, e = .returned v ∧ Below w.heap.size w w' ∧ Own w' w.heap.size 42 2 encF v (wout l p) := by
  obtain ⟨ri, hin, hz0, hz1, hz2⟩ := info_parts (show (Tryd.prog.info? 42).map (fun i => (i.zero, i.size, i.bytes)) = some (some (.agg #[.int .i64 0, .int .i64 0]), 2, 16) by kernel_rfl)
  have HA := Lib.hid hA
  clear hA
  go_enter Tryd.func14, Tryd.ntmps14
  go_upto_region 3 with (fail)
  go_loopw [5, 6] (fun v x wr => ∃ k : Nat, k ≤ l.length ∧ x = .int .i64 k ∧ Below w.heap.size w wr ∧ Own wr w.heap.size 42 2 encF v (wout (l.take k) p)) (fun _ x _ => 2000000 - (intOf x).toNat)
  case atStart => exact ⟨0, by omega, rfl, Below.refl _ _, Own.nil _ _ _ _ _⟩
  case round =>
    obtain ⟨k, hk, rfl, hbr, hO⟩ := hrel
    have HBR := Lib.hid hbr
    have HO := Lib.hid hO
    clear hO
    by_cases hlt : k < l.length
    · obtain ⟨x, hx⟩ : ∃ x, l[k]? = some x := ⟨_, List.getElem?_eq_getElem hlt⟩
      obtain ⟨b1, o1, ea, hb1, c1, c1'⟩ := segF (HA.out.below hbr) hx
      have hbl1 : b1 < wr.heap.size := Nat.lt_of_lt_of_le hb1 hbr.size
      have HX := Lib.hid hx
      have hlx : (wout (l.take k) p).length ≤ 1000000 := by have := wout_len (l.take k) p; rw [List.length_take] at this; omega
      have hsz : w.heap.size ≤ wr.heap.size := hbr.size
      rw [ea]
      clear hx ea hbr
      by_cases h1 : x.2 = p
      · have h1' : (x.2 == p) = true := by simpa using h1
        have h1'' : (p == p) = true := by simp
        rw [h1] at c1'
        go_wp2
        go_roundw
        case rel => exact ⟨k + 1, by omega, by go_num, HBR.out, by rw [wout_no HX.out h1]; exact HO.out⟩
        case measure => simp [intOf]; omega
      · have h1' : (x.2 == p) = false := by simpa using h1
        go_wp2_with (at_builtin; go_loud (refine wpList_app _ rfl (.tmp 20) (.tmp 25) _ rfl w.heap.size 42 ri _ 2 16 Tryd.underlying37 hin hz0 hz1 hz2 rfl (by omega) (by omega) encF encF_len (fun u => by intro v hv; simp [encF] at hv; rcases hv with rfl | rfl <;> rfl) _ (wout (l.take k) p) rfl (HO.out.alloc _) hlx wr.heap.size 1 x rfl (Blk.new _ _ _) (by simp; omega) ?_); intro v8 V8 hO8 hb8 _; have HO8 := Lib.hid hO8; have HB8 := Lib.hid hb8; clear hO8 hb8)
        go_roundw
        case rel => exact ⟨k + 1, by omega, by go_num, (below_alloc HBR.out _).trans HB8.out, by rw [wout_yes HX.out h1]; exact HO8.out⟩
        case measure => simp [intOf]; omega
    · obtain rfl : k = l.length := by omega
      have HO2 : Hid (Own wr w.heap.size 42 2 encF u5 (wout l p)) := by have h := HO.out; rwa [List.take_length] at h
      go_wp2
      go_ret
      exact ⟨_, rfl, HBR.out, HO2.out⟩
def small (s : Sy) : Bool := decide (s.par.length ≤ 30) && decide (s.ro.length ≤ 30) && decide (s.un.length ≤ 30) && decide (s.ac.length ≤ 70) && decide (s.cl.length ≤ 60) && decide (s.hol.length ≤ 450) && s.cl.all fun c => decide (c.c.start.length ≤ 20)
def small0 (s : Sy) : Bool := decide (s.par.length ≤ 30) && decide (s.ro.length ≤ 30) && decide (s.un.length ≤ 30) && decide (s.ac.length ≤ 70) && decide (s.cl.length ≤ 60) && decide (s.hol.length ≤ 450)
/-- symbols in memory as an argument brings them: their lists may be of any length -/
structure Smw (w : World) (s : Sy) (m : Sm) : Prop where
  y : Sym w s m
  cu : s.un.length ≤ m.uc
  bu : ∀ u ∈ s.un, b64 u.f.1 ∧ b64 u.f.2
  ba : ∀ a ∈ s.ac, b64 a.a.lot.1 ∧ b64 a.a.lot.2
  bc : ∀ c ∈ s.cl, b64 c.c.v.1 ∧ b64 c.c.v.2
theorem Smw.then_ {w w' : World} {s : Sy} {m : Sm} (h : Smw w s m) (hb : Below w.heap.size w w') : Smw w' s m := { h with y := h.y.then_ hb }
theorem Smw.len {w : World} {s : Sy} {m : Sm} (h : Smw w s m) : m.cs.length = s.cl.length := by rw [← h.y.e]; simp
theorem Smw.cl {w : World} {s : Sy} {m : Sm} (h : Smw w s m) {k : Nat} {x : Cm} (hx : m.cs[k]? = some x) : s.cl[k]? = some x.c := by rw [← h.y.e, List.getElem?_map, hx]; rfl
theorem Smw.smb {w : World} {s : Sy} {m : Sm} (h : Smw w s m) (hs : small s = true) : Smb w s m := by
  simp only [small, Bool.and_eq_true, decide_eq_true_eq, List.all_eq_true] at hs
  obtain ⟨⟨⟨⟨⟨⟨h1, h2⟩, h3⟩, h4⟩, h5⟩, h6⟩, h7⟩ := hs
  exact ⟨h.y, h.cu, by omega, by omega, by omega, by omega, by omega, by omega, fun c hc => by have := h7 c hc; omega, h.bu, h.ba, h.bc⟩
set_option maxRecDepth 100000 in
set_option maxHeartbeats 3200000 in
theorem small_any (s : Sy) (m : Sm) (w : World) (hm : Smw w s m) : Calls Tryd.prog 10 #[.agg (syA s m)] w fun e w' => e = .returned (.bool (small s)) ∧ Below w.heap.size w w' := by
  have HM := Lib.hid hm
  clear hm
  have HS : Hid (small s = (small0 s && s.cl.all fun c => decide (c.c.start.length ≤ 20))) := rfl
  cases h0 : small0 s with
  | false =>
    have hf : Hid (small s = false) := by unfold Hid; rw [HS.out, h0]; rfl
    simp only [small0, Bool.and_eq_false_iff, decide_eq_false_iff_not] at h0
    go_enter Tryd.func10, Tryd.ntmps10
    go_wp2
    all_goals first | (go_ret; exact ⟨ret_bool hf.out.symm, wa1 _ _⟩) | skip
  | true =>
    have hs : Hid (small s = (s.cl.all fun c => decide (c.c.start.length ≤ 20))) := by unfold Hid; rw [HS.out, h0]; rfl
    simp only [small0, Bool.and_eq_true, decide_eq_true_eq] at h0
    obtain ⟨⟨⟨⟨⟨h1, h2⟩, h3⟩, h4⟩, h5⟩, h6⟩ := h0
    go_enter Tryd.func10, Tryd.ntmps10
    go_upto_region 4 with (fail)
    refine name_wp ?_
    intro X hX
    have gX : Blk X w.heap.size 34 (syA s m) := by rw [hX]; exact Blk.new _ _ _
    have hbX : Below w.heap.size w X := by rw [hX]; exact wa1 _ _
    have GX := Lib.hid gX
    have HBX := Lib.hid hbX
    have hlc : s.cl.length ≤ 1000000 := by omega
    clear gX hbX hX h1 h2 h3 h4 h6
    go_loopw [3] (fun x wr => ∃ k : Nat, k ≤ s.cl.length ∧ x = .int .i64 k ∧ Hid ((s.cl.take k).all (fun c => decide (c.c.start.length ≤ 20)) = true) ∧ wr = X) (fun x _ => 2000000 - (intOf x).toNat)
    case atStart => exact ⟨0, by omega, rfl, rfl, rfl⟩
    case round =>
      obtain ⟨k, hk, rfl, hN, rfl⟩ := hrel
      have c17 : wr.cell? ⟨w.heap.size, 17, none⟩ = some (.slice m.c s.cl.length m.cc) := GX.out.cell 17
      have lX := GX.out.lt
      by_cases hlt : k < s.cl.length
      · have HMR := Lib.hid (HM.out.then_ HBX.out)
        obtain ⟨x, hx⟩ : ∃ x, m.cs[k]? = some x := ⟨_, List.getElem?_eq_getElem (by rw [HMR.out.len]; exact hlt)⟩
        have hcx := HMR.out.cl hx
        obtain ⟨b1, o1, ec, hb1, hc1⟩ := segCl HMR.out.y.c hx
        have a12 : wr.cell? ⟨b1, o1 + k * 24 + 12, none⟩ = some (.slice x.A x.c.c.start.length x.cap) := hc1 12 _ rfl
        have htk := Lib.hid (all_take (p := fun c : Cs => decide (c.c.start.length ≤ 20)) hcx hN.out)
        have hno := Lib.hid (all_no (p := fun c : Cs => decide (c.c.start.length ≤ 20)) hcx)
        rw [ec] at c17
        clear hx hcx hc1 ec
        by_cases h9 : x.c.c.start.length ≤ 20
        · go_wp2
          go_roundw
          case rel => exact ⟨k + 1, by omega, by go_num, by unfold Hid; rw [htk.out]; exact decide_eq_true h9, by first | rfl | trivial⟩
          case measure => simp [intOf]; omega
        · have hf : Hid (small s = false) := by unfold Hid; rw [hs.out]; exact hno.out (decide_eq_false h9)
          go_wp2
          go_ret
          exact ⟨ret_bool hf.out.symm, HBX.out⟩
      · have hall := all_end hlt hN.out
        have hf : Hid (small s = true) := by unfold Hid; rw [hs.out]; exact hall
        clear hall
        go_wp2
        go_ret
        exact ⟨ret_bool hf.out.symm, HBX.out⟩
end Go.Proofs.YtcfjehohemdanaaDoor
