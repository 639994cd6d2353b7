/- The walk of the reference's number at every text, and its Text at every ratio. -/
import Derived.Test.YtbkekabhdpoddaaDoorRg7
namespace Go.Proofs.YtbkekabhdpoddaaDoor
open Go.RowKit

def goN (m : Nat) : List UInt8 → Nat
  | [] => m
  | c :: r => if 48 ≤ c.toNat ∧ c.toNat ≤ 57 then goN (10 * m + (c.toNat - 48)) r else 0
def numV (l : List UInt8) : Nat := if 13 < l.length then 0 else goN 0 l
theorem drop_at (s : ByteArray) (k : Nat) (h : k < s.size) : s.data.toList.drop k = s[k] :: s.data.toList.drop (k + 1) := by
  have hl : k < s.data.toList.length := by simpa using h
  rw [List.drop_eq_getElem_cons hl]
  rfl
set_option maxRecDepth 100000 in
theorem num_any (s : ByteArray) (w : World) (hn : s.size ≤ 281474976710656) :
    Calls Tryd.prog 50 #[.string s] w fun e w' => e = .returned (.int .i64 (numV s.data.toList)) ∧ w' = w := by
  have hlen : s.data.toList.length = s.size := Array.length_toList
  go_enter Tryd.func50, Tryd.ntmps50
  go_upto_region 3 with (fail)
  go_loopw [3, 4] (fun u v WR => ∃ (m k : Nat), k ≤ s.size ∧ u = .int .i64 m ∧ v = .int .i64 k ∧ Hid ((13 < s.size → k = 0) ∧ (s.size ≤ 13 → numV s.data.toList = goN m (s.data.toList.drop k))) ∧ m < 10 ^ 14 ∧ Hid (s.size ≤ 13 → m < 10 ^ k) ∧ WR = w) (fun _ v _ => s.size - (intOf v).toNat)
  case atStart => exact ⟨0, 0, by omega, rfl, rfl, ⟨fun _ => rfl, fun h => by unfold numV; rw [if_neg (by omega)]; rfl⟩, by omega, fun _ => by simp, rfl⟩
  case round =>
    obtain ⟨m, k, h1, rfl, rfl, hr, h2, hm, rfl⟩ := hrel
    by_cases hk : k < s.size
    · have t1 : decide ((k : Int) < s.size) = true := decide_eq_true (by omega)
      have hd := drop_at s k hk
      obtain ⟨l, hl⟩ : ∃ l, s.data.toList = l := ⟨_, rfl⟩
      obtain ⟨c, hc⟩ : ∃ c, s[k] = c := ⟨_, rfl⟩
      rw [hl] at hlen hd hr
      rw [hc] at hd
      have HD := Lib.hid hd
      have HL := Lib.hid hl
      have zero : Hid (13 < s.size ∨ ¬ (48 ≤ c.toNat ∧ c.toNat ≤ 57) → numV l = 0) := by
        intro h
        by_cases h13 : 13 < s.size
        · unfold numV; rw [if_pos (by omega)]
        · rw [hr.out.2 (by omega), hd, goN, if_neg (by omega)]
      clear hd
      by_cases q1 : c.toNat < 48
      · have u1 : decide ((c.toNat : Int) < 48) = true := decide_eq_true (by omega)
        have z : Hid (numV l = 0) := zero.out (by omega)
        clear zero hl
        go_wp2
        go_ret
        exact ⟨by rw [HL.out, z.out]; rfl, rfl⟩
      · have u1 : decide ((c.toNat : Int) < 48) = false := decide_eq_false (by omega)
        by_cases q2 : 57 < c.toNat
        · have u2 : decide ((57 : Int) < c.toNat) = true := decide_eq_true (by omega)
          have z : Hid (numV l = 0) := zero.out (by omega)
          clear zero hl
          go_wp2
          go_ret
          exact ⟨by rw [HL.out, z.out]; rfl, rfl⟩
        · have u2 : decide ((57 : Int) < c.toNat) = false := decide_eq_false (by omega)
          by_cases q3 : 13 < s.size
          · have u3 : decide ((13 : Int) < s.size) = true := decide_eq_true (by omega)
            have z : Hid (numV l = 0) := zero.out (by omega)
            clear zero hl
            go_wp2
            go_ret
            exact ⟨by rw [HL.out, z.out]; rfl, rfl⟩
          · have u3 : decide ((13 : Int) < s.size) = false := decide_eq_false (by omega)
            have hm' := hm.out (by omega)
            have h3 : 10 * m + (c.toNat - 48) < 10 ^ (k + 1) := by rw [Nat.pow_succ]; omega
            have h4 : 10 ^ (k + 1) ≤ 10 ^ 13 := Nat.pow_le_pow_right (by omega) (by omega)
            have hr2 := hr.out.2 (by omega)
            have hg : Hid (numV l = goN (10 * m + (c.toNat - 48)) (l.drop (k + 1))) := by unfold Hid; rw [hr2, HD.out, goN, if_pos (by omega)]
            have H3 := Lib.hid h3
            clear zero hl hr2 hr hm h3
            go_wp2
            go_roundw
            case rel => exact ⟨10 * m + (c.toNat - 48), k + 1, by omega, by congr 1; omega, by simp, ⟨fun h => absurd h q3, fun _ => by rw [HL.out]; exact hg.out⟩, by omega, fun _ => H3.out, by first | trivial | rfl⟩
            case measure => simp [intOf]; omega
    · have t1 : decide ((k : Int) < s.size) = false := decide_eq_false (by omega)
      have e : Hid (numV s.data.toList = m) := by
        by_cases h13 : 13 < s.size
        · have := hr.out.1 h13; omega
        · unfold Hid
          rw [hr.out.2 (by omega), List.drop_eq_nil_of_le (by omega)]; rfl
      go_wp2
      go_ret
      exact ⟨by rw [e.out]; rfl, rfl⟩
theorem size_eq (n : Int) (W : World) (h : B64 n) : Calls Tryd.prog 49 #[.int .i64 n] W fun e w' => e = .returned (.int .u64 (n.natAbs : Int)) ∧ w' = W := by
  exact (size_any n W h.1 h.2).mono fun _ _ ⟨a, b⟩ => ⟨a, b.symm⟩
theorem bA_le (u : Nat) (h : u < 18446744073709551616) : (bA (Lib.decDigits u)).size ≤ 40 := by
  rw [bA_size, Lib.decDigits_length]
  have := nd_le u 20 (by omega) (by omega)
  omega
theorem rtext_any (n d : Int) (w : World) (h1 : B64 n) (k1 : B64 d) :
    Calls Tryd.prog 36 #[.agg #[.int .i64 n, .int .i64 d]] w fun e w' => e = .returned (.string (bA (txtO n d))) ∧ Below w.heap.size w w' := by
  have HV := fun W => rvalid_any n d W h1.1 h1.2 k1.1 k1.2
  cases hv : vld n d with
  | false =>
    rw [hv] at HV
    have HV' := Lib.hid HV
    rw [txtO_no hv]
    clear HV hv h1 k1
    go_enter Tryd.func36, Tryd.ntmps36
    go_wp2_with (go_at_call 33; refine (HV'.out _).mono ?_; rintro e w1 ⟨rfl, hb⟩; obtain ⟨hc, hf⟩ := bcell hb; have hz := hb.size; (try simp at hz); (have zl0 : w.heap.size < w1.heap.size := by omega); (have ze0 : w.heap.size ≤ w1.heap.size := by omega))
    go_ret
    exact ⟨rfl, by (repeat (first | exact Below.refl _ _ | refine below_drewN ?_ _ | refine Below.drew ?_ | refine below_alloc ?_ _ | refine Below.setCell ?_ (by first | omega | (simp; done) | (simp; omega)) _ | refine below_then ?_ (by assumption)))⟩
  | true =>
    rw [hv] at HV
    obtain ⟨b1, b2, b3, b4, _⟩ := vld_of hv
    refine rtext_key n d n.natAbs d.natAbs (bA (Lib.decDigits n.natAbs)) (bA (Lib.decDigits d.natAbs)) w HV (fun W => size_eq n W h1) (fun W => size_eq d W k1) (fun W => digits_any n.natAbs W (by omega)) (fun W => digits_any d.natAbs W (by omega)) (bA_le _ (by omega)) (bA_le _ (by omega)) _ ?_
    unfold Hid
    rw [txtO_yes hv]
    have e1 : (if n < 0 then (⟨#[45]⟩ : ByteArray) ++ bA (Lib.decDigits n.natAbs) else bA (Lib.decDigits n.natAbs)) = bA (Lib.itoa n) := by
      unfold Lib.itoa
      split
      · rw [show (⟨#[45]⟩ : ByteArray) = bA [45] from rfl, bA_app]; rfl
      · rw [show n.natAbs = n.toNat by omega]
    have e2 : (if d = 1 then ByteArray.empty else (⟨#[47]⟩ : ByteArray) ++ bA (Lib.decDigits d.natAbs)) = bA (if d = 1 then [] else 47 :: Lib.itoa d) := by
      split
      · rfl
      · rw [show (⟨#[47]⟩ : ByteArray) = bA [47] from rfl, bA_app]
        unfold Lib.itoa
        rw [if_neg (by omega), show d.natAbs = d.toNat by omega]; rfl
    rw [e1, e2, bA_app]
end Go.Proofs.YtbkekabhdpoddaaDoor
