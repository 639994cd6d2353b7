/- The walk of NettingMatchesReference: the functions and their references give the same, at every input. -/
import Derived.Test.YthgbdpiihdhfiaaN17
namespace Go.Proofs.Ythgbdpiihdhfiaa
open Go.RowKit Go.Sort

def GotR (w' : World) (z : Int) (qs : List Rat) (e : Ending) : Prop := ∃ A c, e = .returned (.tuple #[.slice A qs.length c, .int .i64 z]) ∧ Seg w' w'.heap.size 2 encR A qs
def GotL (w' : World) (z : Int) (ys : List Db) (e : Ending) : Prop := ∃ A c, e = .returned (.tuple #[.slice A ys.length c, .int .i64 z]) ∧ Seg w' w'.heap.size 4 encD A ys
/-- what is known of the arguments -/
structure Args (p : Int) (l : List Db) : Prop where
  p1 : -9223372036854775808 ≤ p
  p2 : p ≤ 9223372036854775807
  len : l.length ≤ 4611686018427387904
  fit : ∀ x ∈ l, fitD x
theorem PosP.got {o : Option (List Rat)} {w w' : World} {e : Ending} (h : PosP o w w' e) : GotR w' (if o.isSome then 0 else 2) (o.getD []) e := by
  cases o with
  | none => exact ⟨none, 0, h, Seg.nil _ _ _ _ _⟩
  | some qs =>
    obtain ⟨v, rfl, hO⟩ := h
    obtain ⟨A, c, rfl, _, hs⟩ := hO.seg encR_len
    exact ⟨A, c, rfl, hs⟩
theorem LstP.got {o : Option (List Db)} {w w' : World} {e : Ending} (h : LstP o w w' e) : GotL w' (if o.isSome then 0 else 2) (o.getD []) e := by
  cases o with
  | none => exact ⟨none, 0, h, Seg.nil _ _ _ _ _⟩
  | some qs =>
    obtain ⟨v, rfl, hO⟩ := h
    obtain ⟨A, c, rfl, _, hs⟩ := hO.seg encD_len
    exact ⟨A, c, rfl, hs⟩
theorem bad_gotR {w' : World} {e : Ending} (h : e = badE) : GotR w' 1 [] e := ⟨none, 0, h, Seg.nil _ _ _ _ _⟩
theorem bad_gotL {w' : World} {e : Ending} (h : e = badE) : GotL w' 1 [] e := ⟨none, 0, h, Seg.nil _ _ _ _ _⟩
theorem valid_nat {p : Int} {l : List Db} (h : validD p l = true) : ∃ n : Nat, p = n ∧ 1 ≤ n ∧ n ≤ 12 ∧ l.length ≤ 400 := by
  simp only [validD, Bool.and_eq_true, decide_eq_true_eq] at h
  exact ⟨p.toNat, by omega, by omega, by omega, by omega⟩

/-- the outcomes, at every input: the error and the list -/
def posE (p : Int) (l : List Db) : Int := if validD p l = true then (if (posF l p.toNat).isSome then 0 else 2) else 1
def posL (p : Int) (l : List Db) : List Rat := if validD p l = true then (posF l p.toNat).getD [] else []
def prE (p : Int) (l : List Db) : Int := if validD p l = true then (if (prF l p.toNat p.toNat).isSome then 0 else 2) else 1
def prL (p : Int) (l : List Db) : List Db := if validD p l = true then (prF l p.toNat p.toNat).getD [] else []
def ntE (p : Int) (l : List Db) : Int := if validD p l = true then (if (netL l p.toNat).isSome then 0 else 2) else 1
def ntL (p : Int) (l : List Db) : List Db := if validD p l = true then (netL l p.toNat).getD [] else []
section
variable {p : Int} {l : List Db} (h : Args p l) (A : Option Addr) (c : Nat) (w : World) (hm : Seg w w.heap.size 4 encD A l)
include h hm
theorem positions_got : Calls Try.prog 10 #[.int .i64 p, .slice A l.length c] w fun e w' => GotR w' (posE p l) (posL p l) e ∧ Below w.heap.size w w' := by
  unfold posE posL
  cases hv : validD p l with
  | false => exact (positions_bad p A c l w hv h.p1 h.p2 h.len h.fit hm).mono fun _ _ ⟨a, b⟩ => ⟨bad_gotR a, b⟩
  | true =>
    obtain ⟨n, rfl, _⟩ := valid_nat hv
    exact (positions_any n A c l w hv h.fit hm).mono fun _ _ ⟨a, b⟩ => ⟨by have := a.got; simpa using this, b⟩
theorem rpositions_got : Calls Try.prog 11 #[.int .i64 p, .slice A l.length c] w fun e w' => GotR w' (posE p l) (posL p l) e ∧ Below w.heap.size w w' := by
  unfold posE posL
  cases hv : validD p l with
  | false => exact (rpositions_bad p A c l w hv h.p1 h.p2 h.len h.fit hm).mono fun _ _ ⟨a, b⟩ => ⟨bad_gotR a, b⟩
  | true =>
    obtain ⟨n, rfl, _⟩ := valid_nat hv
    exact (rpositions_any n A c l w hv h.fit hm).mono fun _ _ ⟨a, b⟩ => ⟨by have := a.got; simpa using this, b⟩
theorem pairs_got : Calls Try.prog 12 #[.int .i64 p, .slice A l.length c] w fun e w' => GotL w' (prE p l) (prL p l) e ∧ Below w.heap.size w w' := by
  unfold prE prL
  cases hv : validD p l with
  | false => exact (pairs_bad p A c l w hv h.p1 h.p2 h.len h.fit hm).mono fun _ _ ⟨a, b⟩ => ⟨bad_gotL a, b⟩
  | true =>
    obtain ⟨n, rfl, _⟩ := valid_nat hv
    exact (pairs_any n A c l w hv h.fit hm).mono fun _ _ ⟨a, b⟩ => ⟨by have := a.got; simpa using this, b⟩
theorem rpairs_got : Calls Try.prog 13 #[.int .i64 p, .slice A l.length c] w fun e w' => GotL w' (prE p l) (prL p l) e ∧ Below w.heap.size w w' := by
  unfold prE prL
  cases hv : validD p l with
  | false => exact (rpairs_bad p A c l w hv h.p1 h.p2 h.len h.fit hm).mono fun _ _ ⟨a, b⟩ => ⟨bad_gotL a, b⟩
  | true =>
    obtain ⟨n, rfl, _⟩ := valid_nat hv
    exact (rpairs_any n A c l w hv h.fit hm).mono fun _ _ ⟨a, b⟩ => ⟨by have := a.got; simpa using this, b⟩
theorem net_got : Calls Try.prog 14 #[.int .i64 p, .slice A l.length c] w fun e w' => GotL w' (ntE p l) (ntL p l) e ∧ Below w.heap.size w w' := by
  unfold ntE ntL
  cases hv : validD p l with
  | false => exact (net_bad p A c l w hv h.p1 h.p2 h.len h.fit hm).mono fun _ _ ⟨a, b⟩ => ⟨bad_gotL a, b⟩
  | true =>
    obtain ⟨n, rfl, _⟩ := valid_nat hv
    exact (net_any n A c l w hv h.fit hm).mono fun _ _ ⟨a, b⟩ => ⟨by have := a.got; simpa using this, b⟩
theorem rnet_got : Calls Try.prog 15 #[.int .i64 p, .slice A l.length c] w fun e w' => GotL w' (ntE p l) (ntL p l) e ∧ Below w.heap.size w w' := by
  unfold ntE ntL
  cases hv : validD p l with
  | false => exact (rnet_bad p A c l w hv h.p1 h.p2 h.len h.fit hm).mono fun _ _ ⟨a, b⟩ => ⟨bad_gotL a, b⟩
  | true =>
    obtain ⟨n, rfl, _⟩ := valid_nat hv
    exact (rnet_any n A c l w hv h.fit hm).mono fun _ _ ⟨a, b⟩ => ⟨by have := a.got; simpa using this, b⟩
end
theorem posL_len (p : Int) (l : List Db) : (posL p l).length ≤ 12 := by
  unfold posL
  split
  · rename_i hv
    obtain ⟨n, rfl, _, h2, _⟩ := valid_nat hv
    cases hp : posF l (n : Int).toNat with
    | none => simp
    | some qs => have := posF_len hp; simp at this ⊢; omega
  · simp
theorem prL_len (p : Int) (l : List Db) : (prL p l).length ≤ 144 := by
  unfold prL
  split
  · rename_i hv
    obtain ⟨n, rfl, h1, h2, _⟩ := valid_nat hv
    cases hp : prF l (n : Int).toNat (n : Int).toNat with
    | none => simp
    | some qs =>
      have := prF_len hp
      have h3 : n * n ≤ 12 * 12 := Nat.mul_le_mul h2 h2
      simp at this ⊢; omega
  · simp
theorem netL_some {l : List Db} {n : Nat} {ms : List Db} (h : netL l n = some ms) : ∃ qs, posF l n = some qs ∧ netF (n + 1) qs [] = some ms := by
  unfold netL at h
  cases hp : posF l n with
  | none => rw [hp] at h; cases h
  | some qs => rw [hp] at h; exact ⟨qs, rfl, h⟩
theorem ntL_len (p : Int) (l : List Db) : (ntL p l).length ≤ 144 := by
  unfold ntL
  split
  · rename_i hv
    obtain ⟨n, rfl, h1, h2, _⟩ := valid_nat hv
    cases hp : netL l (n : Int).toNat with
    | none => simp
    | some ms =>
      obtain ⟨qs, hq, hn⟩ := netL_some hp
      have hv' : validD ((n : Int).toNat : Nat) l = true := hv
      have := (net_ok hv' hq hn).few
      have hz := nz_le qs
      have hl := posF_len hq
      simp at hl
      rcases this with rfl | this
      · simp
      · simp; omega
  · simp

set_option maxRecDepth 100000 in
set_option maxHeartbeats 1600000 in
theorem matches_any {p : Int} {l : List Db} (h : Args p l) (A : Option Addr) (c : Nat) (w : World) (hm : Seg w w.heap.size 4 encD A l) :
    Calls Try.prog 3 #[.int .i64 p, .slice A l.length c] w fun e w' => e = .returned (.bool true) ∧ Below w.heap.size w w' := by
  have hlen := h.len
  by_cases hl : l.length ≤ 410
  · have H := Lib.hid h
    have HS := Lib.hid hm
    have g1 := posL_len p l
    have g2 := prL_len p l
    have g3 := ntL_len p l
    have hp1 := h.p1
    have hp2 := h.p2
    clear hm h
    go_enter Try.func3, Try.ntmps3
    go_wp2_with (first | (go_at_call 9; refine (head_any _).mono ?_; rintro e w0 ⟨rfl, b0⟩) | (go_at_call 10; refine (positions_got H.out _ _ _ (by exact seg_of HS.out (by (repeat (first | with_reducible assumption | with_reducible refine below_drewN ?_ _ | with_reducible refine Below.drew ?_ | with_reducible refine below_alloc ?_ _ | with_reducible refine Below.setCell ?_ (by first | omega | (simp; done) | (simp; omega)) _ | with_reducible refine below_then ?_ (by with_reducible assumption) | (refine below_then (a := World.drew _) ?_ (by with_reducible assumption))))))).mono ?_; rintro e v1 ⟨⟨A1, c1, rfl, S1⟩, b1⟩) | (go_at_call 11; refine (rpositions_got H.out _ _ _ (by exact seg_of HS.out (by (repeat (first | with_reducible assumption | with_reducible refine below_drewN ?_ _ | with_reducible refine Below.drew ?_ | with_reducible refine below_alloc ?_ _ | with_reducible refine Below.setCell ?_ (by first | omega | (simp; done) | (simp; omega)) _ | with_reducible refine below_then ?_ (by with_reducible assumption) | (refine below_then (a := World.drew _) ?_ (by with_reducible assumption))))))).mono ?_; rintro e v2 ⟨⟨A2, c2, rfl, S2⟩, b2⟩) | (go_at_call 12; refine (pairs_got H.out _ _ _ (by exact seg_of HS.out (by (repeat (first | with_reducible assumption | with_reducible refine below_drewN ?_ _ | with_reducible refine Below.drew ?_ | with_reducible refine below_alloc ?_ _ | with_reducible refine Below.setCell ?_ (by first | omega | (simp; done) | (simp; omega)) _ | with_reducible refine below_then ?_ (by with_reducible assumption) | (refine below_then (a := World.drew _) ?_ (by with_reducible assumption))))))).mono ?_; rintro e v3 ⟨⟨A3, c3, rfl, S3⟩, b3⟩) | (go_at_call 13; refine (rpairs_got H.out _ _ _ (by exact seg_of HS.out (by (repeat (first | with_reducible assumption | with_reducible refine below_drewN ?_ _ | with_reducible refine Below.drew ?_ | with_reducible refine below_alloc ?_ _ | with_reducible refine Below.setCell ?_ (by first | omega | (simp; done) | (simp; omega)) _ | with_reducible refine below_then ?_ (by with_reducible assumption) | (refine below_then (a := World.drew _) ?_ (by with_reducible assumption))))))).mono ?_; rintro e v4 ⟨⟨A4, c4, rfl, S4⟩, b4⟩) | (go_at_call 14; refine (net_got H.out _ _ _ (by exact seg_of HS.out (by (repeat (first | with_reducible assumption | with_reducible refine below_drewN ?_ _ | with_reducible refine Below.drew ?_ | with_reducible refine below_alloc ?_ _ | with_reducible refine Below.setCell ?_ (by first | omega | (simp; done) | (simp; omega)) _ | with_reducible refine below_then ?_ (by with_reducible assumption) | (refine below_then (a := World.drew _) ?_ (by with_reducible assumption))))))).mono ?_; rintro e v5 ⟨⟨A5, c5, rfl, S5⟩, b5⟩) | (go_at_call 15; refine (rnet_got H.out _ _ _ (by exact seg_of HS.out (by (repeat (first | with_reducible assumption | with_reducible refine below_drewN ?_ _ | with_reducible refine Below.drew ?_ | with_reducible refine below_alloc ?_ _ | with_reducible refine Below.setCell ?_ (by first | omega | (simp; done) | (simp; omega)) _ | with_reducible refine below_then ?_ (by with_reducible assumption) | (refine below_then (a := World.drew _) ?_ (by with_reducible assumption))))))).mono ?_; rintro e v6 ⟨⟨A6, c6, rfl, S6⟩, b6⟩) | (go_at_call 16; refine (nvalid_any p _ _ l _ hp1 hp2 hlen H.out.fit (by exact seg_of HS.out (by (repeat (first | with_reducible assumption | with_reducible refine below_drewN ?_ _ | with_reducible refine Below.drew ?_ | with_reducible refine below_alloc ?_ _ | with_reducible refine Below.setCell ?_ (by first | omega | (simp; done) | (simp; omega)) _ | with_reducible refine below_then ?_ (by with_reducible assumption) | (refine below_then (a := World.drew _) ?_ (by with_reducible assumption))))))).mono ?_; rintro e v7 ⟨rfl, b7⟩) | (go_at_call 17; refine (rnvalid_any p _ _ l _ hp1 hp2 hlen H.out.fit (by exact seg_of HS.out (by (repeat (first | with_reducible assumption | with_reducible refine below_drewN ?_ _ | with_reducible refine Below.drew ?_ | with_reducible refine below_alloc ?_ _ | with_reducible refine Below.setCell ?_ (by first | omega | (simp; done) | (simp; omega)) _ | with_reducible refine below_then ?_ (by with_reducible assumption) | (refine below_then (a := World.drew _) ?_ (by with_reducible assumption))))))).mono ?_; rintro e v8 ⟨rfl, b8⟩) | (go_at_call 18; refine (ratios_eq _ _ _ _ (posL p l) _ (by omega) (by exact seg_of S1 (by (repeat (first | with_reducible assumption | with_reducible refine below_drewN ?_ _ | with_reducible refine Below.drew ?_ | with_reducible refine below_alloc ?_ _ | with_reducible refine Below.setCell ?_ (by first | omega | (simp; done) | (simp; omega)) _ | with_reducible refine below_then ?_ (by with_reducible assumption) | (refine below_then (a := World.drew _) ?_ (by with_reducible assumption)))))) (by exact seg_of S2 (by (repeat (first | with_reducible assumption | with_reducible refine below_drewN ?_ _ | with_reducible refine Below.drew ?_ | with_reducible refine below_alloc ?_ _ | with_reducible refine Below.setCell ?_ (by first | omega | (simp; done) | (simp; omega)) _ | with_reducible refine below_then ?_ (by with_reducible assumption) | (refine below_then (a := World.drew _) ?_ (by with_reducible assumption))))))).mono ?_; rintro e v9 ⟨rfl, b9⟩) | (go_at_call_of 19 (Value.slice A3 (prL p l).length c3); refine (same_eq _ _ _ _ (prL p l) _ (by omega) (by exact seg_of S3 (by (repeat (first | with_reducible assumption | with_reducible refine below_drewN ?_ _ | with_reducible refine Below.drew ?_ | with_reducible refine below_alloc ?_ _ | with_reducible refine Below.setCell ?_ (by first | omega | (simp; done) | (simp; omega)) _ | with_reducible refine below_then ?_ (by with_reducible assumption) | (refine below_then (a := World.drew _) ?_ (by with_reducible assumption)))))) (by exact seg_of S4 (by (repeat (first | with_reducible assumption | with_reducible refine below_drewN ?_ _ | with_reducible refine Below.drew ?_ | with_reducible refine below_alloc ?_ _ | with_reducible refine Below.setCell ?_ (by first | omega | (simp; done) | (simp; omega)) _ | with_reducible refine below_then ?_ (by with_reducible assumption) | (refine below_then (a := World.drew _) ?_ (by with_reducible assumption))))))).mono ?_; rintro e v10 ⟨rfl, b10⟩) | (go_at_call_of 19 (Value.slice A5 (ntL p l).length c5); refine (same_eq _ _ _ _ (ntL p l) _ (by omega) (by exact seg_of S5 (by (repeat (first | with_reducible assumption | with_reducible refine below_drewN ?_ _ | with_reducible refine Below.drew ?_ | with_reducible refine below_alloc ?_ _ | with_reducible refine Below.setCell ?_ (by first | omega | (simp; done) | (simp; omega)) _ | with_reducible refine below_then ?_ (by with_reducible assumption) | (refine below_then (a := World.drew _) ?_ (by with_reducible assumption)))))) (by exact seg_of S6 (by (repeat (first | with_reducible assumption | with_reducible refine below_drewN ?_ _ | with_reducible refine Below.drew ?_ | with_reducible refine below_alloc ?_ _ | with_reducible refine Below.setCell ?_ (by first | omega | (simp; done) | (simp; omega)) _ | with_reducible refine below_then ?_ (by with_reducible assumption) | (refine below_then (a := World.drew _) ?_ (by with_reducible assumption))))))).mono ?_; rintro e v11 ⟨rfl, b11⟩))
    go_ret
    exact ⟨rfl, by (repeat (first | with_reducible assumption | with_reducible refine below_drewN ?_ _ | with_reducible refine Below.drew ?_ | with_reducible refine below_alloc ?_ _ | with_reducible refine Below.setCell ?_ (by first | omega | (simp; done) | (simp; omega)) _ | with_reducible refine below_then ?_ (by with_reducible assumption) | (refine below_then (a := World.drew _) ?_ (by with_reducible assumption))))⟩
  · go_enter Try.func3, Try.ntmps3
    go_wp2_with (go_at_call 9; refine (head_any _).mono ?_; rintro e w0 ⟨rfl, b0⟩)
    go_ret
    exact ⟨rfl, b0⟩
end Go.Proofs.Ythgbdpiihdhfiaa
