/- The walk of the reference's Pairs. -/
import Derived.Test.YthgbdpiihdhfiaaN07
import Derived.Test.YthgbdpiihdhfiaaN08
namespace Go.Proofs.Ythgbdpiihdhfiaa
open Go.RowKit Go.Sort

/-- what Pairs and Net hand back -/
def LstP (o : Option (List Db)) (w w' : World) (e : Ending) : Prop :=
  match o with
  | some ys => ∃ v, e = .returned (.tuple #[v, .int .i64 0]) ∧ Own w' w.heap.size 38 4 encD v ys
  | none => e = .returned (.tuple #[.slice none 0 0, .int .i64 2])

set_option maxHeartbeats 3200000 in
/-- the reference's Pairs at valid debts -/
theorem rpairs_any (p : Nat) (A : Option Addr) (c : Nat) (l : List Db) (w : World) (hv : validD p l = true)
    (hf : ∀ x ∈ l, fitD x) (hm : Seg w w.heap.size 4 encD A l) :
    Calls Try.prog 13 #[.int .i64 p, .slice A l.length c] w fun e w' => LstP (prF l p p) w w' e ∧ Below w.heap.size w w' := by
  obtain ⟨i0, hi, hz0, hz1, hz2⟩ := info_parts infoD
  have hp : (1 ≤ p ∧ p ≤ 12 ∧ l.length ≤ 400) ∧ ∀ x ∈ l, okD p x = true := by
    simp only [validD, Bool.and_eq_true, decide_eq_true_eq, List.all_eq_true] at hv
    exact ⟨by omega, hv.2⟩
  obtain ⟨⟨p1, p2, p3⟩, hall⟩ := hp
  have HM := Lib.hid (And.intro hm (fun x hx => (okD_of (hall x hx)).2.1))
  have HV := rnvalid_any p A c l w (by omega) (by omega) (by omega) hf hm
  rw [hv] at HV
  have HW := Lib.hid HV
  clear hm hall hf HV hv
  go_enter Try.func13, Try.ntmps13
  go_wp2_with (go_at_call 17; refine HW.out.mono ?_; rintro e w1 ⟨rfl, hb⟩; obtain ⟨hc, hf⟩ := bcell hb; have hz := hb.size; (try simp at hz))
  clear hc hf hz
  go_loopw [6, 7] (fun v i wr => ∃ (a : Nat) (ys : List Db), a ≤ p ∧ i = .int .i64 a ∧ Hid (prF l p a = some ys) ∧ Own wr w.heap.size 38 4 encD v ys ∧ Below w.heap.size w wr) (fun _ i _ => p - (intOf i).toNat)
  case atStart => exact ⟨0, [], by omega, rfl, rfl, Own.nil .., hb⟩
  case round =>
    obtain ⟨a, ys, hk, rfl, hP, hO, hB⟩ := hrel
    clear hb
    obtain ⟨wo, rfl⟩ : ∃ wo : World, wo = wr := ⟨_, rfl⟩
    have hys := prF_len hP.out
    have hys' : ys.length ≤ 144 := Nat.le_trans hys (Nat.mul_le_mul (show a ≤ 12 by omega) p2)
    clear hys
    by_cases hlt : a < p
    · go_wp2
      go_loopw [6, 8] (fun v i wr => ∃ (m : Nat) (zs : List Db), a + 1 + m ≤ p ∧ i = .int .i64 (a + 1 + m : Nat) ∧ Hid (rowF l a m = some zs) ∧ Own wr w.heap.size 38 4 encD v (ys ++ zs) ∧ Below w.heap.size w wr) (fun _ i _ => p - (intOf i).toNat)
      case atStart => exact ⟨0, [], by omega, by go_num, rfl, by rw [List.append_nil]; exact hO, hB⟩
      case round =>
        obtain ⟨m, zs, hm, rfl, hR, hO, hB⟩ := hrel
        have hzs := rowF_len hR.out
        have hyz : (ys ++ zs).length ≤ 400 := by rw [List.length_append]; omega
        clear hzs
        have hle0 := hB.size
        have hab : (a : Int) ≠ (a + 1 + m : Nat) := by omega
        by_cases hlt2 : a + 1 + m < p
        · generalize hbb : a + 1 + m = b at hlt2 hab
          have HB := Lib.hid hbb
          clear hbb hm
          cases ht : totF (sgAB a b) l with
          | none =>
            have HT := Lib.hid ((totF_btw hab l).trans ht)
            have HN := Lib.hid (show rowF l a (m + 1) = none from rowF_none hR.out (by rw [HB.out]; exact ht))
            clear ht hab
            go_wp2_with (first | (go_at_call 31; refine (between_any a b A c l _ p3 ((HM.out.1.below hB).more hle0)).mono ?_; rintro e w3 ⟨⟨v3, rfl, hO3⟩, hb3⟩; obtain ⟨A3, c3, rfl, _, hs3⟩ := hO3.seg encD_len) | (go_at_call 28; refine (posn_any A3 c3 _ _ b (Nat.le_trans (btw_len _ _ _) p3) (fun x hx => HM.out.2 x (btw_mem hx)) hs3).mono ?_; rw [HT.out]; rintro e w4 ⟨he, hb4⟩; obtain rfl : e = _ := he))
            go_ret2
            refine ⟨?_, by (repeat (first | with_reducible assumption | with_reducible refine below_drewN ?_ _ | with_reducible refine Below.drew ?_ | with_reducible refine below_alloc ?_ _ | with_reducible refine Below.setCell ?_ (by first | omega | (simp; done) | (simp; omega)) _ | with_reducible refine below_then ?_ (by with_reducible assumption)))⟩
            rw [prF_more (prF_none hP.out (rowF_more HN.out _ (by have := HB.out; omega))) p (by omega)]
            rfl
          | some t =>
            have HT := Lib.hid ((totF_btw hab l).trans ht)
            have HN := Lib.hid (show rowF l a (m + 1) = some (zs ++ prD a b t) from by have := rowF_some hR.out (by rw [HB.out]; exact ht); rwa [HB.out] at this)
            have hin := inR_bd (totF_inR ht)
            clear ht hab
            rcases (show 0 < t.num ∨ t.num < 0 ∨ t.num = 0 by omega) with hs | hs | hs
            · have HD := Lib.hid (prD_pos (a := a) (b := b) hs)
              go_wp2_with (first | (go_at_call 31; refine (between_any a b A c l _ p3 ((HM.out.1.below hB).more hle0)).mono ?_; rintro e w3 ⟨⟨v3, rfl, hO3⟩, hb3⟩; obtain ⟨A3, c3, rfl, _, hs3⟩ := hO3.seg encD_len) | (go_at_call 28; refine (posn_any A3 c3 _ _ b (Nat.le_trans (btw_len _ _ _) p3) (fun x hx => HM.out.2 x (btw_mem hx)) hs3).mono ?_; rw [HT.out]; rintro e w4 ⟨he, hb4⟩; obtain rfl : e = _ := he; have hle4 : w.heap.size ≤ w4.heap.size := (by have := hb3.size; have := hb4.size; omega)) | (at_builtin; go_loud (refine wpList_app _ rfl (.tmp 42) (.tmp 47) _ rfl w.heap.size 38 i0 _ 4 32 Try.underlying22 hi hz0 hz1 hz2 rfl (by omega) (by omega) encD encD_len encD_one _ (ys ++ zs) rfl ((((hO.below hb3).below hb4).alloc _).alloc _) (by omega) (w4.heap.size + 1) 1 ⟨a, b, t.num, t.den⟩ rfl (blk_new1 _ _ _ _) (by simp; omega) ?_); intro v5 w5 hO5 hb5 hg5; have hx5 : w5.cell? ⟨w4.heap.size, 0, none⟩ = some (.int .i64 t.num) := (by rw [grown_cell hO hg5 0 (by have := hb3.size; have := hb4.size; omega) (by simp; omega)]; simp [go_sem])))
              go_roundw
              case rel => exact ⟨m + 1, zs ++ prD a b t, by have := HB.out; omega, by have := HB.out; go_num, HN.out, by rw [HD.out, ← List.append_assoc]; exact hO5, (below_alloc (below_alloc (below_then (below_then hB hb3) hb4) _) _).trans hb5⟩
              case measure => simp [intOf]; omega
            · have HD := Lib.hid (prD_neg (a := a) (b := b) hs)
              have hs' : ¬ 0 < t.num := by omega
              go_wp2_with (first | (go_at_call 31; refine (between_any a b A c l _ p3 ((HM.out.1.below hB).more hle0)).mono ?_; rintro e w3 ⟨⟨v3, rfl, hO3⟩, hb3⟩; obtain ⟨A3, c3, rfl, _, hs3⟩ := hO3.seg encD_len) | (go_at_call 28; refine (posn_any A3 c3 _ _ b (Nat.le_trans (btw_len _ _ _) p3) (fun x hx => HM.out.2 x (btw_mem hx)) hs3).mono ?_; rw [HT.out]; rintro e w4 ⟨he, hb4⟩; obtain rfl : e = _ := he; have hle4 : w.heap.size ≤ w4.heap.size := (by have := hb3.size; have := hb4.size; omega)) | (go_at_call 32; refine (minus_any t.num t.den _ (by omega) (by omega)).mono ?_; rintro e w6 ⟨rfl, hb6⟩; have hle6 : w.heap.size ≤ w6.heap.size := (by have := hb6.size; simp at this; omega)) | (at_builtin; go_loud (refine wpList_app _ rfl (.tmp 52) (.tmp 58) _ rfl w.heap.size 38 i0 _ 4 32 Try.underlying22 hi hz0 hz1 hz2 rfl (by omega) (by omega) encD encD_len encD_one _ (ys ++ zs) rfl (((((hO.below hb3).below hb4).alloc _).below hb6).alloc _) (by omega) w6.heap.size 1 ⟨b, a, -t.num, t.den⟩ rfl (Blk.new _ _ _) (by simp; omega) ?_); intro v5 w5 hO5 hb5 _))
              go_roundw
              case rel => exact ⟨m + 1, zs ++ prD a b t, by have := HB.out; omega, by have := HB.out; go_num, HN.out, by rw [HD.out, ← List.append_assoc]; exact hO5, (below_alloc (below_then (below_alloc (below_then (below_then hB hb3) hb4) _) hb6) _).trans hb5⟩
              case measure => simp [intOf]; omega
            · have HD := Lib.hid (prD_zero (a := a) (b := b) hs)
              have hs' : ¬ 0 < t.num := by omega
              have hs2 : ¬ t.num < 0 := by omega
              clear hs
              go_wp2_with (first | (go_at_call 31; refine (between_any a b A c l _ p3 ((HM.out.1.below hB).more hle0)).mono ?_; rintro e w3 ⟨⟨v3, rfl, hO3⟩, hb3⟩; obtain ⟨A3, c3, rfl, _, hs3⟩ := hO3.seg encD_len) | (go_at_call 28; refine (posn_any A3 c3 _ _ b (Nat.le_trans (btw_len _ _ _) p3) (fun x hx => HM.out.2 x (btw_mem hx)) hs3).mono ?_; rw [HT.out]; rintro e w4 ⟨he, hb4⟩; obtain rfl : e = _ := he; have hle4 : w.heap.size ≤ w4.heap.size := (by have := hb3.size; have := hb4.size; omega)))
              go_roundw
              case rel => exact ⟨m + 1, zs ++ prD a b t, by have := HB.out; omega, by have := HB.out; go_num, HN.out, by rw [HD.out, List.append_nil]; exact ((hO.below hb3).below hb4).alloc _, below_alloc (below_then (below_then hB hb3) hb4) _⟩
              case measure => simp [intOf]; omega
        · go_wp2
          go_roundw
          case rel =>
            obtain rfl : m = p - (a + 1) := by omega
            exact ⟨a + 1, ys ++ zs, by omega, by go_num, prF_some hP.out hR.out, hO, hB⟩
          case measure => simp [intOf]; omega
    · go_wp2
      go_ret2
      obtain rfl : a = p := by omega
      exact ⟨by rw [hP.out]; exact ⟨_, rfl, hO⟩, hB⟩
end Go.Proofs.Ythgbdpiihdhfiaa
