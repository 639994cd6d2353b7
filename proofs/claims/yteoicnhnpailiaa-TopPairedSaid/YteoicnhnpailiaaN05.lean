/- The walks of package netting and its reference, fifth part: Positions. -/
import Derived.Test.YteoicnhnpailiaaN04
import Derived.Test.YteoicnhnpailiaaOwn
import Derived.Test.YteoicnhnpailiaaNet2
namespace Go.Proofs.Yteoicnhnpailiaa
open Go.RowKit Go.Sort

/-- the cells of a ratio -/
def encR (q : Rat) : List Value := [.int .i64 q.num, .int .i64 q.den]
theorem encR_len (q : Rat) : (encR q).length = 2 := rfl
theorem encR_one (q : Rat) : ∀ u ∈ encR q, u.oneCell' = true := by intro u hu; simp only [encR, List.mem_cons, List.not_mem_nil, or_false] at hu; rcases hu with rfl | rfl <;> rfl
theorem encD_len (x : Db) : (encD x).length = 4 := rfl
theorem encD_one (x : Db) : ∀ u ∈ encD x, u.oneCell' = true := by intro u hu; simp only [encD, List.mem_cons, List.not_mem_nil, or_false] at hu; rcases hu with rfl | rfl | rfl | rfl <;> rfl
theorem infoR : (Try.prog.info? 44).map (fun i => (i.zero, i.size, i.bytes)) = some (some (.agg #[.int .i64 0, .int .i64 0]), 2, 16) := by kernel_rfl
theorem infoD : (Try.prog.info? 55).map (fun i => (i.zero, i.size, i.bytes)) = some (some (.agg #[.int .i64 0, .int .i64 0, .int .i64 0, .int .i64 0]), 4, 32) := by kernel_rfl

/-- what Positions hands back -/
def PosP (o : Option (List Rat)) (w w' : World) (e : Ending) : Prop :=
  match o with
  | some qs => ∃ v, e = .returned (.tuple #[v, .int .i64 0]) ∧ Own w' w.heap.size 44 2 encR v qs
  | none => e = .returned (.tuple #[.slice none 0 0, .int .i64 2])

set_option maxHeartbeats 1600000 in
/-- netting.Positions at valid debts -/
theorem positions_any (p : Nat) (A : Option Addr) (c : Nat) (l : List Db) (w : World) (hv : validD p l = true)
    (hf : ∀ x ∈ l, fitD x) (hm : Seg w w.heap.size 4 encD A l) :
    Calls Try.prog 25 #[.int .i64 p, .slice A l.length c] w fun e w' => PosP (posF l p) w w' e ∧ Below w.heap.size w w' := by
  obtain ⟨i0, hi, hz0, hz1, hz2⟩ := info_parts infoR
  have hp : (1 ≤ p ∧ p ≤ 12 ∧ l.length ≤ 400) ∧ ∀ x ∈ l, okD p x = true := by
    simp only [validD, Bool.and_eq_true, decide_eq_true_eq, List.all_eq_true] at hv
    exact ⟨by omega, hv.2⟩
  obtain ⟨⟨p1, p2, p3⟩, hall⟩ := hp
  have HM := Lib.hid (And.intro hm (fun x hx => (okD_of (hall x hx)).2.1))
  have HV := fun W (hW : Below w.heap.size w W) => nvalid_any p A c l W (by omega) (by omega) (by omega) hf ((hm.below hW).more hW.size)
  simp only [hv] at HV
  have HW := Lib.hid HV
  clear hm hall hf HV hv
  go_enter Try.func25, Try.ntmps25
  go_wp2_with (first | (go_at_call 43; refine (HW.out _ (Below.refl _ _)).mono ?_; rintro e w1 ⟨rfl, hb⟩; obtain ⟨hc, hf⟩ := bcell hb; have hz := hb.size; (try simp at hz)) | (at_make; refine wpList_make_own _ rfl _ _ _ rfl w.heap.size 44 i0 _ 2 Try.underlying22 hi hz0 hz1 .i64 .i64 _ p rfl rfl rfl (by rw [hz2]; omega) (by unfold maxLen; omega) (by omega) ?_; intro w2 hown hgr))
  have hB2 : Below w.heap.size w w2 := hb.grown hgr hz (by simp)
  clear hgr hc hf hz hb
  go_loopw [6, 17] (fun v i wr => ∃ (k : Nat) (qs : List Rat), k ≤ p ∧ i = .int .i64 k ∧ Hid (posF l k = some qs) ∧ Own wr w.heap.size 44 2 encR v qs ∧ Below w.heap.size w wr) (fun _ i _ => p - (intOf i).toNat)
  case atStart => exact ⟨0, [], by omega, rfl, rfl, hown, hB2⟩
  case round =>
    obtain ⟨k, qs, hk, rfl, hP, hO, hB⟩ := hrel
    clear hown hB2
    have hqs := posF_len hP.out
    have hqs' : qs.length ≤ 12 := by omega
    clear hqs
    have hle0 := hB.size
    by_cases hlt : k < p
    · cases ht : totF (sgP k) l with
      | none =>
        have HT := Lib.hid ht
        clear ht
        go_wp2_with (go_at_call 44; refine (total1 A c l _ wr.heap.size k (by simp) (by simp [go_sem]) p3 HM.out.2 ((HM.out.1.below (below_alloc hB _)).more (by simp; omega))).mono ?_; rw [HT.out]; rintro e w3 ⟨he, hb⟩; obtain rfl : e = _ := he; obtain ⟨hc, hf⟩ := bcell hb)
        go_ret2
        refine ⟨?_, by (repeat (first | with_reducible assumption | with_reducible refine below_drewN ?_ _ | with_reducible refine Below.drew ?_ | with_reducible refine below_alloc ?_ _ | with_reducible refine Below.setCell ?_ (by first | omega | (simp; done) | (simp; omega)) _ | with_reducible refine below_then ?_ (by with_reducible assumption)))⟩
        rw [posF_more (posF_none hP.out HT.out) p (by omega)]
        rfl
      | some t =>
        have HT := Lib.hid ht
        clear ht
        go_wp2_with (first | (go_at_call 44; refine (total1 A c l _ wr.heap.size k (by simp) (by simp [go_sem]) p3 HM.out.2 ((HM.out.1.below (below_alloc hB _)).more (by simp; omega))).mono ?_; rw [HT.out]; rintro e w3 ⟨he, hb⟩; obtain rfl : e = _ := he; obtain ⟨hc, hf⟩ := bcell hb; have hle3 : w.heap.size ≤ w3.heap.size := (by have := hb.size; simp at this; omega)) | (at_builtin; go_loud (refine wpList_app _ rfl (.tmp 29) (.tmp 31) _ rfl w.heap.size 44 i0 _ 2 16 Try.underlying22 hi hz0 hz1 hz2 rfl (by omega) (by omega) encR encR_len encR_one _ qs rfl ((((hO.alloc _).below hb).alloc _).alloc _) (by omega) (w3.heap.size + 1) 1 t rfl (blk_new1 _ _ _ _) (by simp; omega) ?_); intro v4 w4 hO4 hb4 _))
        go_roundw
        case rel => exact ⟨k + 1, qs ++ [t], by omega, by go_num, posF_some hP.out HT.out, hO4, (below_alloc (below_alloc (below_then (below_alloc hB _) hb) _) _).trans hb4⟩
        case measure => simp [intOf]; omega
    · go_wp2
      go_ret2
      obtain rfl : k = p := by omega
      exact ⟨by rw [hP.out]; exact ⟨_, rfl, hO⟩, hB⟩
end Go.Proofs.Yteoicnhnpailiaa
