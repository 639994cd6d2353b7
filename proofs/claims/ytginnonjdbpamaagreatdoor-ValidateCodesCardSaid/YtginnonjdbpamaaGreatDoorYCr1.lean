/- The reference's texts of states: the walks of digits and number at every number and text. -/
import Derived.Test.YtginnonjdbpamaaGreatDoorMc21
import Derived.Test.YtginnonjdbpamaaGreatDoorYVbB
import Derived.Laws.Concat
import Derived.Laws.DeepStrings4
import Derived.Test.YtginnonjdbpamaaGreatDoorMc1
set_option maxHeartbeats 1600000
set_option maxRecDepth 100000
namespace Go.Proofs.YtginnonjdbpamaaGreatDoor
open Go.RowKit
def dB (m : Nat) : UInt8 := UInt8.ofNat (48 + m % 10)
def preD (m : Nat) : List UInt8 := if m < 10 then [] else Lib.decDigits (m / 10)
theorem dec_pre (m : Nat) : Lib.decDigits m = preD m ++ [dB m] := by
 unfold preD dB
 rw [Lib.decDigits]
 split
 ·rename_i h
  rw [Nat.mod_eq_of_lt h]; rfl
 ·rfl
theorem tBy_app (a b : List UInt8) : tBy (a ++ b) = tBy a ++ tBy b := by
 apply ByteArray.ext
 simp [tBy]
def dS (v : Int) : ByteArray := tBy [UInt8.ofNat v.toNat]
theorem dS_size (v : Int) : (dS v).size = 1 := by unfold dS; rw [xBe]; rfl
theorem dS_of (m : Nat) : dS (48 + (m : Int) % 10) = tBy [dB m] := by
 unfold dS dB
 congr 3
theorem str1 (w : World) (v : Int) : (convert 104 9 (.slice (some ⟨w.heap.size, 0, none⟩) 1 1)).run Tryz.prog (w.alloc (.cells #[.int .u8 v] 5)) = .ok (.string (dS v)) (w.alloc (.cells #[.int .u8 v] 5)) := by
 refine run_convert_bytes_arg (P := Tryz.prog) _ 104 5 (by kernel_rfl) (by kernel_rfl) w.heap.size 0 1 1 [v] rfl ?_ 9 (by kernel_rfl)
 intro i hi
 obtain rfl : i = 0 := by omega
 exact (Blk.new w 5 #[.int .u8 v]).cell 0
theorem nd_le : ∀ u k : Nat, u < 10 ^ k → 1 ≤ k → Lib.nDigits u ≤ k := by
 intro u k
 induction k generalizing u with
 | zero => intro _ h; omega
 | succ k ih =>
  intro hu _
  by_cases hs : u < 10
  ·rw [Lib.nDigits_small hs]; omega
  ·rw [Lib.nDigits_big hs]
   rcases Nat.eq_zero_or_pos k with rfl | hk
   ·simp at hu; omega
   ·have := ih (u / 10) (by rw [Nat.pow_succ] at hu; omega) hk
    omega
theorem sadd (a b : List UInt8) (h : a.length + b.length ≤ 100000000) (w : World) : (Op.stringOp .add (tBy a) (tBy b)).run Tryz.prog w = .ok (.string (tBy (a ++ b))) w := by
 rw [tBy_app]
 exact run_string_add_sum w _ _ (by rw [xBe, xBe]; omega)
theorem dig_len {n M : Nat} {x : List UInt8} (h : Lib.decDigits M = preD n ++ x) (hM : M < 18446744073709551616) : x.length ≤ 40 := by
 have h1 := congrArg List.length h
 rw [List.length_append, Lib.decDigits_length] at h1
 have h2 : Lib.nDigits M ≤ 20 := nd_le M 20 (by omega) (by omega)
 omega
theorem xI5 (t : List UInt8) (a b : Nat) : (tBy t).extract a b = tBy ((t.drop a).take (b - a)) := by
 apply ByteArray.ext
 rw [ByteArray.data_extract]
 apply Array.ext'
 simp [tBy, List.extract_eq_take_drop]
theorem slice_lh (t : List UInt8) {f i : Nat} (h1 : f ≤ i) (h2 : i ≤ t.length) (W : World) : (Instr.slice 9 (.string (tBy t)) (some (.int .i64 (f : Nat))) (some (.int .i64 (i : Nat))) none).run Tryz.prog W = .ok (.string (tBy ((t.drop f).take (i - f)))) W := by
 rw [run_slice_string_if _ _ _ _ _ _ _ (by kernel_rfl), if_pos ⟨by omega, by rw [xBe]; omega⟩, if_pos ⟨by omega, by omega⟩]
 simp only [Int.toNat_natCast, xI5]
theorem slice_l (t : List UInt8) {f : Nat} (h1 : f ≤ t.length) (W : World) : (Instr.slice 9 (.string (tBy t)) (some (.int .i64 (f : Nat))) none none).run Tryz.prog W = .ok (.string (tBy (t.drop f))) W := by
 rw [run_slice_string_l W _ _ (by kernel_rfl) _ _ (by omega) (by rw [xBe]; omega)]
 rw [Int.toNat_natCast, xI5, xBe, List.take_of_length_le (by rw [List.length_drop]; omega)]
theorem slice_h (t : List UInt8) {i : Nat} (h1 : i ≤ t.length) (W : World) : (Instr.slice 9 (.string (tBy t)) none (some (.int .i64 (i : Nat))) none).run Tryz.prog W = .ok (.string (tBy (t.take i))) W := by
 rw [run_slice_string_h W _ _ (by kernel_rfl) _ _ (by omega) (by rw [xBe]; omega)]
 rw [Int.toNat_natCast, xI5]
 rfl
theorem xCj (n : Int) (w : World) (hJ : J64 n) :
  Calls Tryz.prog 46 #[.int .i64 n] w fun e w' => e = .returned (.string (tBy (Lib.itoa n))) ∧ Below w.heap.size w w' := by
 obtain ⟨M, hM⟩ : ∃ M, n.natAbs = M := ⟨_, rfl⟩
 have hs1 := fun W v => str1 W v
 have hd1 := dS_size
 have hb1 := xBe
 have hM2 : M < 18446744073709551616 := by unfold J64 at hJ; omega
 have HI : Hid (Lib.itoa n = if n < 0 then 45 :: Lib.decDigits M else Lib.decDigits M) := by
  unfold Hid Lib.itoa
  rw [hM]
  split
  ·rfl
  ·rw [show n.toNat = M by omega]
 obtain ⟨U, hU⟩ : ∃ U, IntKind.u64.wrap n = U := ⟨_, rfl⟩
 obtain ⟨B, hB⟩ : ∃ B, decide (n < 0) = B := ⟨_, rfl⟩
 have HU : Hid ((B = true → IntKind.u64.wrap (-U) = (M : Int)) ∧ (B = false → U = (M : Int))) := by
  subst hU hB
  constructor
  ·intro h
   have h := of_decide_eq_true h
   unfold J64 at hJ; simp [IntKind.wrap, IntKind.bits, IntKind.signed]; omega
  ·intro h
   have h := of_decide_eq_false h
   unfold J64 at hJ; simp [IntKind.wrap, IntKind.bits, IntKind.signed]; omega
 have HI2 : Hid (Lib.itoa n = if B then 45 :: Lib.decDigits M else Lib.decDigits M) := by
  unfold Hid
  subst hB
  rw [HI.out]
  by_cases h : n < 0
  ·rw [if_pos h, qzO h]; rfl
  ·rw [if_neg h, qzN h]; rfl
 have HI := HI2
 clear HI2 hM hJ
 go_enter Tryz.func46, Tryz.ntmps46
 go_upto_if 8 with (fail)
 go_cut [3] from 9 to 10 (fun v W => v = .int .u64 M ∧ w = W)
 case first =>
  cases B with
  | true =>
   have e1 := HU.out.1 rfl
   clear HU HI
   go_wp2
   go_meet
   case rel => exact ⟨rfl, rfl⟩
  | false =>
   have e1 := HU.out.2 rfl
   clear HU HI
   go_wp2
   go_meet
   case rel => exact ⟨by rw [e1], rfl⟩
 case rest =>
  obtain ⟨rfl, rfl⟩ := hcut
  go_upto_region 5 with (fail)
  go_loopw [3, 4] (fun u s WR => ∃ (m : Nat) (x : List UInt8), m ≤ M ∧ u = .int .u64 m ∧ s = .string (tBy x) ∧ Hid (Lib.decDigits M = preD m ++ x) ∧ Below w.heap.size w WR) (fun u _ _ => (intOf u).toNat)
  case atStart =>
   refine ⟨M, [dB M], Nat.le_refl _, rfl, ?_, dec_pre M, xAc (Below.refl _ _) _⟩
   rw [← dS_of]
  case round =>
   obtain ⟨m, x, hm, rfl, rfl, hx, hb⟩ := hrel
   have hl := dig_len hx.out hM2
   by_cases h9 : 9 < m
   ·have t1 : decide ((9 : Int) < m) = true := qzO (by omega)
    go_wp2
    go_roundw
    case rel =>
     refine ⟨m / 10, dB (m / 10) :: x, by omega, by simp, ?_, ?_, xAc hb _⟩
     ·have e := dS_of (m / 10)
      rw [show tBy (dB (m / 10) :: x) = tBy [dB (m / 10)] ++ tBy x from tBy_app [_] x, ← e]
      simp
     ·have e : preD m = Lib.decDigits (m / 10) := by unfold preD; rw [if_neg (by omega)]
      unfold Hid
      rw [hx.out, e, dec_pre (m / 10)]
      simp
    case measure => simp [intOf]; omega
   ·have t1 : decide ((9 : Int) < m) = false := qzN (by omega)
    have e : preD m = [] := by unfold preD; rw [if_pos (by omega)]
    have hx2 : Hid (Lib.decDigits M = x) := by unfold Hid; rw [hx.out, e]; rfl
    cases B with
    | true =>
     have he : Hid (Lib.itoa n = [45] ++ x) := by unfold Hid; rw [HI.out, hx2.out]; rfl
     have hsa := fun W => sadd [45] x (by simp; omega) W
     have hsa : ∀ W, (Op.stringOp .add ⟨#[45]⟩ (tBy x)).run Tryz.prog W = .ok (.string (tBy ([45] ++ x))) W := hsa
     go_wp2
     go_ret
     exact ⟨by rw [he.out]; rfl, hb⟩
    | false =>
     have he : Hid (Lib.itoa n = x) := by unfold Hid; rw [HI.out, hx2.out]; rfl
     go_wp2
     go_ret
     exact ⟨by rw [he.out]; rfl, hb⟩
theorem wrap_w64 (x : Int) : IntKind.i64.wrap x = w64 x := by unfold w64; simp [IntKind.wrap, IntKind.bits, IntKind.signed]; omega
theorem wrap64_w (x : Int) : wrap64 x = w64 x := by unfold wrap64 w64; omega
theorem tBy_ix (t : List UInt8) (k : Nat) (h : k < (tBy t).size) : t[k]? = some ((tBy t)[k]) := by
 rw [qzJ (by rw [← xBe]; exact h)]
 rfl
theorem xBv (t : List UInt8) (w : World) (ht : t.length ≤ 1000000) :
  Calls Tryz.prog 43 #[.string (tBy t)] w fun e w' => e = .returned (.int .i64 (numR t)) ∧ w' = w := by
 obtain ⟨R, hR⟩ : ∃ R, numR t = R := ⟨_, rfl⟩
 have HR : Hid (R = if (t.foldl numS (0, false)).2 then w64 (0 - (t.foldl numS (0, false)).1) else (t.foldl numS (0, false)).1) := hR.symm
 rw [hR]
 clear hR
 obtain ⟨s, hs⟩ : ∃ s, tBy t = s := ⟨_, rfl⟩
 have hlen : s.size = t.length := by rw [← hs, xBe]
 have HIX : Hid (∀ k (h : k < s.size), t[k]? = some (s[k])) := by subst hs; exact tBy_ix t
 rw [hs]
 have HLN := qzL hlen
 have hlim : s.size ≤ 1000000 := by omega
 clear hs hlen ht
 go_enter Tryz.func43, Tryz.ntmps43
 go_upto_region 4 with (fail)
 go_loopw [3, 4, 5] (fun u v y WR => ∃ (m : Int) (mi : Bool) (k : Nat), k ≤ s.size ∧ u = .int .i64 m ∧ v = .bool mi ∧ y = .int .i64 k ∧ Hid ((t.take k).foldl numS (0, false) = (m, mi)) ∧ WR = w) (fun _ _ v _ => s.size - (intOf v).toNat)
 case atStart => exact ⟨0, false, 0, by omega, rfl, rfl, rfl, rfl, rfl⟩
 case round =>
  obtain ⟨m, mi, k, hk, rfl, rfl, rfl, hF, rfl⟩ := hrel
  by_cases hlt : k < s.size
  ·have t1 : decide ((k : Int) < s.size) = true := qzO (by omega)
   obtain ⟨c, hc⟩ : ∃ c, s[k] = c := ⟨_, rfl⟩
   have hix := HIX.out k hlt
   rw [hc] at hix
   have HF2 : Hid ((t.take (k + 1)).foldl numS (0, false) = numS (m, mi) c) := by unfold Hid; rw [List.take_add_one, hix, qzD, List.foldl_append, hF.out]; rfl
   clear hix hF
   by_cases h45 : c = 45
   ·have t2 : ((c.toNat : Int) == 45) = true := by subst h45; rfl
    have HF3 : Hid ((t.take (k + 1)).foldl numS (0, false) = (m, true)) := by unfold Hid; rw [HF2.out, numS, if_pos h45]
    clear HF2 h45
    go_wp2
    go_roundw
    case rel => exact ⟨m, true, k + 1, by omega, rfl, rfl, by simp, HF3, by first | trivial | rfl⟩
    case measure => simp [intOf]; omega
   ·have t2 : ((c.toNat : Int) == 45) = false := by rw [beq_eq_false_iff_ne]; intro e; apply h45; apply UInt8.toNat_inj.1; show c.toNat = 45; omega
    have HF3 : Hid ((t.take (k + 1)).foldl numS (0, false) = (w64 (w64 (w64 (10 * m) + c.toNat) - 48), mi)) := by unfold Hid; rw [HF2.out, numS, if_neg h45]
    have e4 : IntKind.i64.wrap (c.toNat : Int) = (c.toNat : Int) := wrap_small _ (by omega) (by have := c.toNat_lt; omega)
    have hw := wrap_w64
    have hk1 : w64 ((k : Int) + 1) = (k : Int) + 1 := w64_id ⟨by omega, by omega⟩
    clear HF2 h45
    go_wp2
    go_roundw
    case rel => exact ⟨_, mi, k + 1, by omega, rfl, rfl, rfl, HF3, by first | trivial | rfl⟩
    case measure => simp [intOf]; omega
  ·have t1 : decide ((k : Int) < s.size) = false := qzN (by omega)
   have e : Hid (R = if mi then w64 (0 - m) else m) := by
    unfold Hid
    have h := hF.out
    rw [List.take_of_length_le (by have := HLN.out; omega)] at h
    rw [HR.out, h]
   cases mi with
   | true =>
    go_wp2
    go_ret
    exact ⟨by rw [e.out]; simp [wrap64_w], rfl⟩
   | false =>
    go_wp2
    go_ret
    exact ⟨by rw [e.out]; simp, rfl⟩
end Go.Proofs.YtginnonjdbpamaaGreatDoor
