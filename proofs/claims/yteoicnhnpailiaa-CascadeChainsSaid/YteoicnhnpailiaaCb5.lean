/- The walk of cascade.validDebts. -/
import Derived.Test.YteoicnhnpailiaaCb1
namespace Go.Proofs.Yteoicnhnpailiaa
open Go.RowKit Go.Sort

theorem party_yes (p : Pf) (m : Ms) (i : Int) (w : World) (h : 0 ≤ i ∧ i < p.n) : Calls Try.prog 34 #[.agg (pfA p m), .int .i64 i] w fun e w' => e = .returned (.bool true) ∧ Below w.heap.size w w' := by
  have := party_any p m i w
  rwa [show okP p.n i = true from decide_eq_true h] at this
theorem party_no (p : Pf) (m : Ms) (i : Int) (w : World) (h : ¬ (0 ≤ i ∧ i < p.n)) : Calls Try.prog 34 #[.agg (pfA p m), .int .i64 i] w fun e w' => e = .returned (.bool false) ∧ Below w.heap.size w w' := by
  have := party_any p m i w
  rwa [show okP p.n i = false from decide_eq_false h] at this
theorem all_no {α : Type} {f : α → Bool} {l : List α} {k : Nat} {x : α} (hx : l[k]? = some x) (h : f x = false) : l.all f = false := by
  rw [List.all_eq_false]; exact ⟨x, List.mem_of_getElem? hx, by simp [h]⟩
theorem take_allF {α : Type} {f : α → Bool} {l : List α} {k : Nat} {x : α} (hx : l[k]? = some x) (h : (l.take k).all f = true) (h1 : f x = true) : (l.take (k + 1)).all f = true := by
  obtain ⟨hk, rfl⟩ := List.getElem?_eq_some_iff.1 hx
  rw [List.take_succ_eq_append_getElem hk, List.all_append, h]
  simp [h1]
theorem pf_keep {w w1 : World} {g : Nat} {p : Pf} {m : Ms} (h : Blk w g 27 (pfA p m)) (hb : Below w.heap.size w w1) : Blk w1 g 27 (pfA p m) := h.then_ hb
set_option maxRecDepth 100000 in
set_option maxHeartbeats 1600000 in
theorem vdebts_any (p : Pf) (m : Ms) (A : Option Addr) (c : Nat) (l : List Db) (w : World) (hl : l.length ≤ 1000000) (hf : ∀ x ∈ l, fitD x) (hm : Seg w w.heap.size 4 encD A l) :
    Calls Try.prog 33 #[.agg (pfA p m), .slice A l.length c] w fun e w' => e = .returned (.bool (l.all (okD p.n))) ∧ Below w.heap.size w w' := by
  have HM := Lib.hid (And.intro hf hm)
  clear hf hm
  go_enter Try.func33, Try.ntmps33
  go_upto_region 1 with (fail)
  refine name_wp ?_
  intro X hX
  obtain ⟨bP, e0⟩ : ∃ b, w.heap.size = b := ⟨_, rfl⟩
  have gX : Blk X bP 27 (pfA p m) := by rw [hX, ← e0]; exact Blk.new _ _ _
  have hbX : Below w.heap.size w X := by rw [hX]; exact below_alloc (Below.refl _ _) _
  rw [e0]
  have HX := Lib.hid hbX
  have lP : bP < X.heap.size := gX.lt
  have GX := Lib.hid gX
  clear hX gX hbX e0
  go_upto_region 2 with (fail)
  go_loopw [9] (fun i wr => ∃ k : Nat, k ≤ l.length ∧ i = .int .i64 k ∧ Hid ((l.take k).all (okD p.n) = true) ∧ Below X.heap.size X wr) (fun i _ => l.length - (intOf i).toNat)
  case atStart => exact ⟨0, by omega, rfl, by simp [Hid], Below.refl _ _⟩
  case round =>
    obtain ⟨k, hk, rfl, hall, hB⟩ := hrel
    have HB := Lib.hid hB
    by_cases hlt : k < l.length
    · obtain ⟨x, hx⟩ : ∃ x, l[k]? = some x := ⟨_, List.getElem?_eq_getElem hlt⟩
      have hbw := below_then HX.out hB
      obtain ⟨b, off, ea, hb, c0, c1, c2, c3⟩ := segD (HM.out.2.below hbw) hx
      obtain ⟨⟨f1, f2⟩, ⟨f3, f4⟩, ⟨f5, f6⟩, ⟨f7, f8⟩⟩ := HM.out.1 x (List.mem_of_getElem? hx)
      have hbl : b < wr.heap.size := Nat.lt_of_lt_of_le hb hbw.size
      obtain ⟨k0, k1, k2, k3, k4, k5⟩ := pfCells (GX.out.then_ hB)
      have lPr : bP < wr.heap.size := Nat.lt_of_lt_of_le lP hB.size
      have hy := Lib.hid (Below.refl wr.heap.size wr)
      have HX2 := Lib.hid hx
      rw [ea]
      clear hx hbw ea hB
      by_cases hok : okD p.n x = true
      · have HO := Lib.hid hok
        obtain ⟨⟨a1, a2, a3, a4, a5⟩, a6, a7⟩ := okD_of hok
        have a5' : (x.f == x.t) = false := by simpa using a5
        clear hok a5
        go_wp2_with (first | (go_at_call 34; first | (with_reducible refine (party_yes p m _ _ (by omega)).mono ?_; rintro e w1 ⟨rfl, hb⟩; obtain ⟨hc, hf⟩ := bcell hb; have hz := hb.size; (try simp at hz); (have zl0 : wr.heap.size < w1.heap.size := by omega); (have ze0 : wr.heap.size ≤ w1.heap.size := by omega); have zp : bP < w1.heap.size := (by omega); first | (replace hy := Lib.hid (below_then hy.out hb)) | (replace hy := Lib.hid (below_then (below_alloc hy.out _) hb))) | (with_reducible refine (party_no p m _ _ (by omega)).mono ?_; rintro e w1 ⟨rfl, hb⟩; obtain ⟨hc, hf⟩ := bcell hb; have hz := hb.size; (try simp at hz); (have zl0 : wr.heap.size < w1.heap.size := by omega); (have ze0 : wr.heap.size ≤ w1.heap.size := by omega); have zp : bP < w1.heap.size := (by omega); first | (replace hy := Lib.hid (below_then hy.out hb)) | (replace hy := Lib.hid (below_then (below_alloc hy.out _) hb)))) | (go_at_call 32; refine (valid_any _ _ _ (by omega) (by omega) (by omega) (by omega)).mono ?_; rintro e w1 ⟨rfl, hb⟩; obtain ⟨hc, hf⟩ := bcell hb; have hz := hb.size; (try simp at hz); (have zl0 : wr.heap.size < w1.heap.size := by omega); (have ze0 : wr.heap.size ≤ w1.heap.size := by omega); have zp : bP < w1.heap.size := (by omega); first | (replace hy := Lib.hid (below_then hy.out hb)) | (replace hy := Lib.hid (below_then (below_alloc hy.out _) hb))))
        go_roundw
        case rel => exact ⟨k + 1, by omega, by go_num, take_allF HX2.out hall.out HO.out, below_then HB.out hy.out⟩
        case measure => simp [intOf]; omega
      · have HO := Lib.hid (all_no (f := okD p.n) HX2.out (by simpa using hok))
        have hc := okD_cases (p := p.n) (x := x) (by simpa using hok)
        clear hok
        rcases hc with a1 | ⟨a1, a2⟩ | ⟨a1, a2, a3⟩ | ⟨a1, a2, a3, a4⟩ | ⟨a1, a2, a3, a4, a5⟩ | ⟨a1, a2, a3, a4, a5, a6⟩ | ⟨a1, a2, a3, a4, a5, a6, a7⟩
        all_goals
          go_wp2_with (first | (go_at_call 34; first | (with_reducible refine (party_yes p m _ _ (by omega)).mono ?_; rintro e w1 ⟨rfl, hb⟩; obtain ⟨hc, hf⟩ := bcell hb; have hz := hb.size; (try simp at hz); (have zl0 : wr.heap.size < w1.heap.size := by omega); (have ze0 : wr.heap.size ≤ w1.heap.size := by omega); have zp : bP < w1.heap.size := (by omega); first | (replace hy := Lib.hid (below_then hy.out hb)) | (replace hy := Lib.hid (below_then (below_alloc hy.out _) hb))) | (with_reducible refine (party_no p m _ _ (by omega)).mono ?_; rintro e w1 ⟨rfl, hb⟩; obtain ⟨hc, hf⟩ := bcell hb; have hz := hb.size; (try simp at hz); (have zl0 : wr.heap.size < w1.heap.size := by omega); (have ze0 : wr.heap.size ≤ w1.heap.size := by omega); have zp : bP < w1.heap.size := (by omega); first | (replace hy := Lib.hid (below_then hy.out hb)) | (replace hy := Lib.hid (below_then (below_alloc hy.out _) hb)))) | (go_at_call 32; refine (valid_any _ _ _ (by omega) (by omega) (by omega) (by omega)).mono ?_; rintro e w1 ⟨rfl, hb⟩; obtain ⟨hc, hf⟩ := bcell hb; have hz := hb.size; (try simp at hz); (have zl0 : wr.heap.size < w1.heap.size := by omega); (have ze0 : wr.heap.size ≤ w1.heap.size := by omega); have zp : bP < w1.heap.size := (by omega); first | (replace hy := Lib.hid (below_then hy.out hb)) | (replace hy := Lib.hid (below_then (below_alloc hy.out _) hb))))
          go_ret
          exact ⟨ret_bool HO.out.symm, below_then HX.out (below_then HB.out hy.out)⟩
    · obtain rfl : k = l.length := by omega
      go_wp2
      go_ret
      have := hall.out
      rw [List.take_length] at this
      exact ⟨ret_bool this.symm, below_then HX.out HB.out⟩
end Go.Proofs.Yteoicnhnpailiaa
