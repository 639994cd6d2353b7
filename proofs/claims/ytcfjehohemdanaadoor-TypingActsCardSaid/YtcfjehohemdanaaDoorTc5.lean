/- The walk of first: the first check that holds. -/
import Derived.Test.YtcfjehohemdanaaDoorTc4
namespace Go.Proofs.YtcfjehohemdanaaDoor
open Go.RowKit Go.Sort

def encCk (x : Int × FuncId) : List Value := [.int .i64 x.1, .func (.func x.2) #[] #[]]
theorem fst1_yes {cs : List (Int × FuncId)} {bv : FuncId → Bool} {k : Nat} {x : Int × FuncId} (hx : cs[k]? = some x) (h : (cs.take k).all (fun x => !bv x.2) = true) (hb : bv x.2 = true) : fst1 (cs.map fun x => (x.1, bv x.2)) = x.1 := by
  induction cs generalizing k with
  | nil => simp at hx
  | cons c cs ih =>
    cases k with
    | zero => simp at hx; subst hx; simp [fst1, hb]
    | succ k =>
      simp only [List.take_succ_cons, List.all_cons, Bool.and_eq_true, Bool.not_eq_true'] at h
      simp only [List.map_cons, fst1, h.1]
      simpa using ih (by simpa using hx) h.2
theorem fst1_no {cs : List (Int × FuncId)} {bv : FuncId → Bool} (h : cs.all (fun x => !bv x.2) = true) : fst1 (cs.map fun x => (x.1, bv x.2)) = 0 := by
  induction cs with
  | nil => rfl
  | cons c cs ih =>
    simp only [List.all_cons, Bool.and_eq_true, Bool.not_eq_true'] at h
    simp only [List.map_cons, fst1, h.1]
    simpa using ih h.2
set_option maxRecDepth 100000 in
set_option maxHeartbeats 3200000 in
theorem first_any (s : Sy) (m : Sm) (i : Int) (cs : List (Int × FuncId)) (bv : FuncId → Bool) (A : Option Addr) (c : Nat) (w : World) (hlen : cs.length ≤ 1000) (hs : Seg w w.heap.size 2 encCk A cs)
    (he : ∀ x ∈ cs, ∀ args W, (callFunc x.2 args).run Tryd.prog W = .ok (.enter x.2 args) W) (hf : ∀ x ∈ cs, ∀ W, Below w.heap.size w W → Calls Tryd.prog x.2 #[.agg (sbA s m i)] W fun e w' => e = .returned (.bool (bv x.2)) ∧ Below W.heap.size W w') :
    Calls Tryd.prog 21 #[.slice A cs.length c, .agg (sbA s m i)] w fun e w' => e = .returned (.int .i64 (fst1 (cs.map fun x => (x.1, bv x.2)))) ∧ Below w.heap.size w w' := by
  have hst := fun (f : Fn) (a b : Array Value) (W : World) (x : Addr) => run_store Tryd.prog W x (.func f a b) .plain rfl
  have HS := Lib.hid hs
  have HF := Lib.hid hf
  have HE := Lib.hid he
  clear hs hf he
  go_enter Tryd.func21, Tryd.ntmps21
  go_upto_region 2 with (fail)
  refine name_wp ?_
  intro X hX
  have gX : Blk X w.heap.size 72 (sbA s m i) := by rw [hX]; exact Blk.new _ _ _
  have hbX : Below w.heap.size w X := by rw [hX]; exact wa1 _ _
  obtain ⟨B0, hB0⟩ : ∃ B0, w.heap.size = B0 := ⟨_, rfl⟩
  have HB0 := Lib.hid hB0
  rw [hB0] at gX
  rw [hB0]
  have HBX := Lib.hid hbX
  have GX := Lib.hid gX
  clear hX hbX hB0 gX
  go_loopw [9] (fun y WR => ∃ k : Nat, k ≤ cs.length ∧ y = .int .i64 k ∧ Hid ((cs.take k).all (fun x => !bv x.2) = true) ∧ Below X.heap.size X WR) (fun y _ => 2000000 - (intOf y).toNat)
  case atStart => exact ⟨0, by omega, rfl, rfl, Below.refl _ _⟩
  case round =>
    obtain ⟨k, hk, rfl, hN, hbr⟩ := hrel
    have hbw := below_then HBX.out hbr
    have HBW := Lib.hid hbw
    have HBR := Lib.hid hbr
    by_cases hlt : k < cs.length
    · obtain ⟨x, hx⟩ : ∃ x, cs[k]? = some x := ⟨_, List.getElem?_eq_getElem hlt⟩
      obtain ⟨b1, o1, ec, hb1, hc1⟩ := (HS.out.below hbw) k x hx
      have x0 : wr.cell? ⟨b1, o1 + k * 2, none⟩ = some (.int .i64 x.1) := hc1 0 _ rfl
      have x1 : wr.cell? ⟨b1, o1 + k * 2 + 1, none⟩ = some (.func (.func x.2) #[] #[]) := hc1 1 _ rfl
      have gR := GX.out.then_ hbr
      have lR := gR.lt
      have hl1 : b1 < wr.heap.size := block_lt_of_cell x0
      have HT := Lib.hid (all_take (p := fun x => !bv x.2) hx hN.out)
      have HY := Lib.hid (fst1_yes (bv := bv) hx hN.out)
      have HC := Lib.hid (HF.out x (List.mem_of_getElem? hx))
      rw [ec]
      have gR2 := fun o => gR.alloc o
      have hcf := HE.out x (List.mem_of_getElem? hx)
      obtain ⟨e, f⟩ := x
      obtain ⟨z, hz⟩ : ∃ z, bv f = z := ⟨_, rfl⟩
      have HZ := Lib.hid hz
      simp only at HC HY x0 x1 hcf
      clear hx hc1 ec hbr hbw gR
      rw [hz] at HC
      clear hz
      cases z with
      | true =>
        go_wp2_with (first | (refine wpList_row_w (by rfl) 72 _ rfl B0 rfl 72 _ (gR2 _) ⟨_, Tryd.underlying72⟩ (by kernel_rfl) ?_; simp only [Act.put, List.setIfInBounds_toArray, List.set_cons_succ, List.set_cons_zero]) | ((with_reducible refine (HC.out _ (below_alloc HBW.out _)).mono ?_); rintro e w1 ⟨rfl, hb2⟩; have z0 := (hb2.cell (p := ⟨wr.heap.size, 0, none⟩) (by simp)).trans (World.cell?_alloc_at _ _ _ 0 rfl); have zl := hb2.size))
        go_ret
        exact ⟨ret_int (by rw [HY.out HZ.out]), HB0.out ▸ below_then (below_alloc HBW.out _) hb2⟩
      | false =>
        go_wp2_with (first | (refine wpList_row_w (by rfl) 72 _ rfl B0 rfl 72 _ (gR2 _) ⟨_, Tryd.underlying72⟩ (by kernel_rfl) ?_; simp only [Act.put, List.setIfInBounds_toArray, List.set_cons_succ, List.set_cons_zero]) | ((with_reducible refine (HC.out _ (below_alloc HBW.out _)).mono ?_); rintro e w1 ⟨rfl, hb2⟩; have z0 := (hb2.cell (p := ⟨wr.heap.size, 0, none⟩) (by simp)).trans (World.cell?_alloc_at _ _ _ 0 rfl); have zl := hb2.size))
        go_roundw
        case rel => exact ⟨k + 1, by omega, by go_num, by unfold Hid; rw [HT.out, HZ.out]; rfl, below_then (below_alloc HBR.out _) hb2⟩
        case measure => simp [intOf]; omega
    · have hall := Lib.hid (fst1_no (bv := bv) (all_end hlt hN.out))
      clear hbr hbw
      go_wp2
      go_ret
      exact ⟨ret_int hall.out.symm, HB0.out ▸ HBW.out⟩
end Go.Proofs.YtcfjehohemdanaaDoor
