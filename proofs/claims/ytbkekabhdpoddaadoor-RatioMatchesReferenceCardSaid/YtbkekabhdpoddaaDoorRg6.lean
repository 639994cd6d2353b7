/- The reference's decimal digits: the walk of digits at every number. -/
import Derived.Test.YtbkekabhdpoddaaDoorRg1
import Derived.Test.YtbkekabhdpoddaaDoorRt1
namespace Go.Proofs.YtbkekabhdpoddaaDoor
open Go.RowKit

def dB (m : Nat) : UInt8 := UInt8.ofNat (48 + m % 10)
def preD (m : Nat) : List UInt8 := if m < 10 then [] else Lib.decDigits (m / 10)
theorem dec_pre (m : Nat) : Lib.decDigits m = preD m ++ [dB m] := by
  unfold preD dB
  rw [Lib.decDigits]
  split
  · rename_i h
    rw [Nat.mod_eq_of_lt h]; rfl
  · rfl
/-- a text of one byte -/
def dS (v : Int) : ByteArray := bA [UInt8.ofNat v.toNat]
theorem dS_size (v : Int) : (dS v).size = 1 := by unfold dS; rw [bA_size]; rfl
theorem dS_of (m : Nat) : dS (48 + (m : Int) % 10) = bA [dB m] := by
  unfold dS dB
  congr 3
theorem str1 (w : World) (v : Int) : (convert 68 9 (.slice (some ⟨w.heap.size, 0, none⟩) 1 1)).run Tryd.prog (w.alloc (.cells #[.int .u8 v] 5)) = .ok (.string (dS v)) (w.alloc (.cells #[.int .u8 v] 5)) := by
  refine run_convert_bytes_arg (P := Tryd.prog) _ 68 5 (by kernel_rfl) (by kernel_rfl) w.heap.size 0 1 1 [v] rfl ?_ 9 (by kernel_rfl)
  intro i hi
  obtain rfl : i = 0 := by omega
  exact (Blk.new w 5 #[.int .u8 v]).cell 0
theorem nd_le : ∀ u k : Nat, u < 10 ^ k → 1 ≤ k → Lib.nDigits u ≤ k := by
  intro u k
  induction k generalizing u with
  | zero => intro _ h; omega
  | succ k ih =>
    intro hu _
    by_cases hs : u < 10
    · rw [Lib.nDigits_small hs]; omega
    · rw [Lib.nDigits_big hs]
      rcases Nat.eq_zero_or_pos k with rfl | hk
      · simp at hu; omega
      · have := ih (u / 10) (by rw [Nat.pow_succ] at hu; omega) hk
        omega
set_option maxRecDepth 100000 in
set_option maxHeartbeats 1600000 in
theorem digits_any (n : Nat) (w : World) (hn : n < 18446744073709551616) :
    Calls Tryd.prog 54 #[.int .u64 n] w fun e w' => e = .returned (.string (bA (Lib.decDigits n))) ∧ Below w.heap.size w w' := by
  have hs1 := fun W v => str1 W v
  have hd1 := dS_size
  have hb1 := bA_size
  go_enter Tryd.func54, Tryd.ntmps54
  go_upto_region 2 with (fail)
  go_loopw [0, 3] (fun u s WR => ∃ (m : Nat) (x : List UInt8), m ≤ n ∧ u = .int .u64 m ∧ s = .string (bA x) ∧ Hid (Lib.decDigits n = preD m ++ x) ∧ Below w.heap.size w WR) (fun u _ _ => (intOf u).toNat)
  case atStart =>
    refine ⟨n, [dB n], Nat.le_refl _, rfl, ?_, dec_pre n, below_alloc (Below.refl _ _) _⟩
    rw [← dS_of]
  case round =>
    obtain ⟨m, x, hm, rfl, rfl, hx, hb⟩ := hrel
    have hl : x.length ≤ 40 := by
      have h1 := congrArg List.length hx.out
      rw [List.length_append, Lib.decDigits_length] at h1
      have h2 : Lib.nDigits n ≤ 20 := nd_le n 20 (by omega) (by omega)
      omega
    by_cases h9 : 9 < m
    · have t1 : decide ((9 : Int) < m) = true := decide_eq_true (by omega)
      go_wp2
      go_roundw
      case rel =>
        refine ⟨m / 10, dB (m / 10) :: x, by omega, by simp, ?_, ?_, below_alloc hb _⟩
        · have e := dS_of (m / 10)
          rw [show bA (dB (m / 10) :: x) = bA [dB (m / 10)] ++ bA x from by rw [bA_app]; rfl, ← e]
          simp
        · have e : preD m = Lib.decDigits (m / 10) := by unfold preD; rw [if_neg (by omega)]
          unfold Hid
          rw [hx.out, e, dec_pre (m / 10)]
          simp
      case measure => simp [intOf]; omega
    · have t1 : decide ((9 : Int) < m) = false := decide_eq_false (by omega)
      have e : preD m = [] := by unfold preD; rw [if_pos (by omega)]
      have hx2 : Hid (Lib.decDigits n = x) := by unfold Hid; rw [hx.out, e]; rfl
      go_wp2
      go_ret
      exact ⟨by rw [hx2.out]; rfl, hb⟩
end Go.Proofs.YtbkekabhdpoddaaDoor
