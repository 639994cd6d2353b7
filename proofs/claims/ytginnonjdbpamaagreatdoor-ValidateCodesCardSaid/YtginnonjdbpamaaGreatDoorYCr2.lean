/- The reference's split at every text. -/
import Derived.Test.YtginnonjdbpamaaGreatDoorYCr1
import Derived.Test.YtginnonjdbpamaaGreatDoorMc1
set_option maxHeartbeats 3200000
set_option maxRecDepth 100000
namespace Go.Proofs.YtginnonjdbpamaaGreatDoor
open Go.RowKit
def splA (b : UInt8) : List UInt8 → List UInt8 → List (List UInt8)
 | cur, [] => [cur]
 | cur, c :: l => if c = b then cur :: splA b [] l else splA b (cur ++ [c]) l
theorem xIs (b : UInt8) : ∀ (l cur : List UInt8), splA b cur l = match spl b l with | [] => [cur] | p :: ps => (cur ++ p) :: ps
 | [], cur => by simp [splA, spl]
 | c :: l, cur => by
  rw [splA, spl]
  split
  ·rw [xIs b l []]
   cases h : spl b l with
   | nil => exact absurd h (spl_ne b l)
   | cons p ps => simp
  ·rw [xIs b l (cur ++ [c])]
   cases h : spl b l with
   | nil => exact absurd h (spl_ne b l)
   | cons p ps => simp
theorem spl_A (b : UInt8) (t : List UInt8) : spl b t = splA b [] t := by
 rw [xIs]
 cases h : spl b t with
 | nil => exact absurd h (spl_ne b t)
 | cons p ps => simp
def eT (t : List UInt8) : List Value := [.string (tBy t)]
theorem xEp (t : List UInt8) : (eT t).length = 1 := rfl
theorem one_text (y : List UInt8) : ∀ u ∈ eT y, u.oneCell' = true := by
 intro u hu
 rw [eT, List.mem_singleton] at hu
 subst hu; rfl
theorem zero_str : (Tryz.prog.info? 9).map (fun i => (i.zero, i.size, i.bytes)) = some (some (.string ⟨#[]⟩), 1, 16) := by kernel_rfl
theorem take_next {t : List UInt8} {f i : Nat} {c : UInt8} (h : t[i]? = some c) (hf : f ≤ i) : (t.drop f).take (i + 1 - f) = (t.drop f).take (i - f) ++ [c] := by
 rw [show i + 1 - f = (i - f) + 1 by omega, List.take_add_one, List.getElem?_drop, show f + (i - f) = i by omega, h]
 rfl
theorem drop_next {t : List UInt8} {i : Nat} {c : UInt8} (h : t[i]? = some c) : t.drop i = c :: t.drop (i + 1) := by
 obtain ⟨hl, e⟩ := qzM h
 rw [List.drop_eq_getElem_cons hl, e]
theorem xDz (b : UInt8) (t : List UInt8) (w : World) (ht : t.length ≤ 1000000) :
  Calls Tryz.prog 42 #[.string (tBy t), .int .u8 b.toNat] w fun e w' => ∃ A c, e = .returned (.slice A (spl b t).length c) ∧ Own w' w.heap.size 9 1 eT (.slice A (spl b t).length c) (spl b t) ∧ Below w.heap.size w w' := by
 obtain ⟨S, hS⟩ : ∃ S, spl b t = S := ⟨_, rfl⟩
 have HS : Hid (S = splA b [] t) := by unfold Hid; rw [← hS, spl_A]
 rw [hS]
 clear hS
 have hsl := fun (f i : Nat) (h1 : f ≤ i) (h2 : i ≤ t.length) => slice_lh t h1 h2
 have HSL := qzL hsl
 obtain ⟨s, hs⟩ : ∃ s, tBy t = s := ⟨_, rfl⟩
 have hsz : s.size = t.length := by rw [← hs, xBe]
 have HIX : Hid (∀ k (h : k < s.size), t[k]? = some (s[k])) := by subst hs; exact tBy_ix t
 have HSLL : Hid (∀ (f : Nat), f ≤ t.length → ∀ W, (Instr.slice 9 (.string s) (some (.int .i64 (f : Nat))) none none).run Tryz.prog W = .ok (.string (tBy (t.drop f))) W) := by subst hs; exact fun f h => slice_l t h
 rw [hs] at HSL ⊢
 clear hs
 obtain ⟨ri, hi, hz0, hz1, hz2⟩ := info_parts zero_str
 clear hsl
 go_enter Tryz.func42, Tryz.ntmps42
 go_upto_region 4 with (fail)
 go_loopw [5, 6, 7] (fun v f y WR => ∃ (i fr : Nat) (acc : List (List UInt8)), y = .int .i64 i ∧ f = .int .i64 fr ∧ fr ≤ i ∧ i ≤ t.length ∧ Hid (S = acc ++ splA b ((t.drop fr).take (i - fr)) (t.drop i)) ∧ Hid (acc.length ≤ i) ∧ Hid (Own WR w.heap.size 9 1 eT v acc) ∧ Hid (Below w.heap.size w WR)) (fun _ _ y _ => 2000000 - (intOf y).toNat)
 case atStart => exact ⟨0, 0, [], rfl, rfl, by omega, by omega, by unfold Hid; rw [HS.out]; rfl, Nat.le_refl _, Own.nil _ _ _ _ _, Below.refl _ _⟩
 case round =>
  obtain ⟨i, fr, acc, rfl, rfl, hfi, hil, hE, hA, hO, hB⟩ := hrel
  by_cases hlt : i < s.size
  ·have t1 : decide ((i : Int) < (s.size : Int)) = true := qzO (by omega)
   obtain ⟨c, hc⟩ : ∃ c, s[i] = c := ⟨_, rfl⟩
   have hix := HIX.out i hlt
   rw [hc] at hix
   have hdn := drop_next hix
   by_cases hcb : c = b
   ·have t2 : ((c.toNat : Int) == (b.toNat : Int)) = true := by rw [hcb]; exact beq_self_eq_true _
    have hs1 := HSL.out fr i hfi (by omega)
    have hE2 : Hid (S = (acc ++ [(t.drop fr).take (i - fr)]) ++ splA b ((t.drop (i + 1)).take (i + 1 - (i + 1))) (t.drop (i + 1))) := by
     unfold Hid
     rw [hE.out, hdn, splA, if_pos hcb]
     simp
    have hA2 : Hid ((acc ++ [(t.drop fr).take (i - fr)]).length ≤ i + 1) := by unfold Hid; rw [List.length_append, List.length_singleton]; exact Nat.succ_le_succ hA.out
    obtain ⟨pt, hpt⟩ : ∃ x, (t.drop fr).take (i - fr) = x := ⟨_, rfl⟩
    rw [hpt] at hE2 hs1 hA2
    have na : acc.length ≤ 1000000 := by have := hA.out; omega
    have lB := hB.out.size
    clear hE hix hdn hcb hpt
    go_wp2_with (at_builtin; go_loud (refine xA8 _ rfl (.tmp 19) (.tmp 24) _ rfl w.heap.size 9 ri _ 1 16 Tryz.underlying100 hi hz0 hz1 hz2 rfl (by omega) (by omega) eT xEp one_text _ acc rfl (hO.out.alloc _) (by omega) wr.heap.size 1 pt rfl (Blk.new _ _ _) (by simp; omega) ?_); intro v4 w4 hO4 hb4 hg4; have hB4 := qzL ((hB.out.alloc lB (.cells #[.string (tBy pt)] 9)).trans hb4); have hO5 := qzL hO4; clear hO4 hb4 hg4)
    go_roundw
    case rel => exact ⟨i + 1, i + 1, acc ++ [pt], by simp, by simp, by omega, by omega, hE2, hA2, hO5, hB4⟩
    case measure => simp [intOf]; omega
   ·have t2 : ((c.toNat : Int) == (b.toNat : Int)) = false := by rw [beq_eq_false_iff_ne]; intro e; apply hcb; apply UInt8.toNat_inj.1; omega
    have hE2 : Hid (S = acc ++ splA b ((t.drop fr).take (i + 1 - fr)) (t.drop (i + 1))) := by
     unfold Hid
     rw [hE.out, hdn, splA, if_neg hcb, take_next hix hfi]
    have hA2 : Hid (acc.length ≤ i + 1) := Nat.le_succ_of_le hA.out
    clear hE hix hdn hcb hA
    go_wp2
    go_roundw
    case rel => exact ⟨i + 1, fr, acc, by simp, rfl, by omega, by omega, hE2, hA2, hO, hB⟩
    case measure => simp [intOf]; omega
  ·have t1 : decide ((i : Int) < (s.size : Int)) = false := qzN (by omega)
   have hs1 := HSLL.out fr (by omega)
   have hE2 : Hid (S = acc ++ [t.drop fr]) := by
    unfold Hid
    rw [hE.out, List.drop_of_length_le (by omega : t.length ≤ i), splA, List.take_of_length_le (by rw [List.length_drop]; omega)]
   obtain ⟨pt, hpt⟩ : ∃ x, t.drop fr = x := ⟨_, rfl⟩
   rw [hpt] at hE2 hs1
   have na : acc.length ≤ 1000000 := by have := hA.out; omega
   have lB := hB.out.size
   clear hE hpt
   go_wp2_with (at_builtin; go_loud (refine xA8 _ rfl (.tmp 28) (.tmp 32) _ rfl w.heap.size 9 ri _ 1 16 Tryz.underlying100 hi hz0 hz1 hz2 rfl (by omega) (by omega) eT xEp one_text _ acc rfl (hO.out.alloc _) (by omega) wr.heap.size 1 pt rfl (Blk.new _ _ _) (by simp; omega) ?_); intro v4 w4 hO4 hb4 hg4; have hB4 := qzL ((hB.out.alloc lB (.cells #[.string (tBy pt)] 9)).trans hb4); have hO5 := qzL hO4; clear hO4 hb4 hg4)
   go_ret
   obtain ⟨A, c, rfl, _⟩ := hO5.out.seg xEp
   have he := hE2.out
   subst he
   exact ⟨A, c, rfl, hO5.out, hB4.out⟩
end Go.Proofs.YtginnonjdbpamaaGreatDoor
