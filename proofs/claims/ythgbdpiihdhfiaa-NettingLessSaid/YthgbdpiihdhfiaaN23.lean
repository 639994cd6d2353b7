/- The walk of NettingLess: the nets are half of all positions and not more than the debts. -/
import Derived.Test.YthgbdpiihdhfiaaN19
namespace Go.Proofs.Ythgbdpiihdhfiaa
open Go.RowKit Go.Sort

def GotQ (w' : World) (qs : List Rat) (e : Ending) : Prop := ∃ A c, e = .returned (.slice A qs.length c) ∧ Seg w' w'.heap.size 2 encR A qs
theorem amounts_got (A : Option Addr) (c : Nat) (l : List Db) (w : World) (hl : l.length ≤ 400) (hv : ∀ x ∈ l, vld x.n x.d = true) (hm : Seg w w.heap.size 4 encD A l) :
    Calls Try.prog 22 #[.slice A l.length c] w fun e w' => GotQ w' (l.map qOf) e ∧ Below w.heap.size w w' :=
  (amounts_any A c l w hl hv hm).mono fun _ _ ⟨⟨v, he, hO⟩, hb⟩ => by
    obtain ⟨A', c', rfl, _, hs⟩ := hO.seg encR_len
    exact ⟨⟨A', c', he, hs⟩, hb⟩
theorem div_of {n1 d1 n2 d2 : Int} (q r : Rat) (w : World) (hq : inR q = true) (hr : inR r = true) (h0 : r.num ≠ 0) (e1 : q.num = n1) (e2 : (q.den : Int) = d1) (e3 : r.num = n2) (e4 : (r.den : Int) = d2) :
    Calls Try.prog 23 #[.agg #[.int .i64 n1, .int .i64 d1], .agg #[.int .i64 n2, .int .i64 d2]] w fun e w' =>
      e = .returned (.tuple #[.agg #[.int .i64 (oN (q / r)), .int .i64 (oD (q / r))], .int .i64 (oE (q / r))]) ∧ Below w.heap.size w w' := by
  subst e1 e2 e3 e4; exact div_any q r w hq hr h0
theorem cmp_le0 {q r : Rat} (h : q ≤ r) : cmpN q r ≤ 0 := by
  unfold cmpN
  split
  · omega
  · rw [if_neg (Rat.not_lt.2 h)]; omega
theorem posE_of_ntE {p : Int} {l : List Db} (h : ntE p l = 0) : posE p l = 0 := (keep_net h).1
theorem less_half {p : Int} {l : List Db} {t u : Rat} (h : ntE p l = 0) (ht : totA ((ntL p l).map qOf) = some t) (hu : totA (posL p l) = some u) : t = u / 2 := by
  obtain ⟨n, rfl, hv, qs, ms, hq, hf, hn, hL⟩ := ntE_zero h
  rw [hL] at ht
  rw [posL_val hv, hq] at hu
  exact net_halves hv hq hf ht hu
theorem less_le {p : Int} {l : List Db} {t b : Rat} (h : ntE p l = 0) (ht : totA ((ntL p l).map qOf) = some t) (hb : totA (l.map qOf) = some b) : cmpN t b ≤ 0 := by
  obtain ⟨n, rfl, hv, qs, ms, hq, hf, hn, hL⟩ := ntE_zero h
  rw [hL] at ht
  exact cmp_le0 (net_less hv hq hf ht hb)
theorem valid_of_ntE {p : Int} {l : List Db} (h : ntE p l = 0) : l.length ≤ 400 ∧ ∀ x ∈ l, vld x.n x.d = true := by
  obtain ⟨n, rfl, hv, _⟩ := ntE_zero h
  exact ⟨(validD_of hv).2.2, fun x hx => (okD_of (validD_mem hv x hx)).2.1⟩

def TotR (n d : Int) (b : Bool) : Ending := .returned (.tuple #[.agg #[.int .i64 n, .int .i64 d], .bool b])
set_option maxRecDepth 100000 in
set_option maxHeartbeats 6400000 in
/-- the walk, what the functions return being given -/
theorem less_walk {p : Int} {l ms : List Db} {X1 X2 X3 : List Rat} (A : Option Addr) (c : Nat) (w : World) (hl : l.length ≤ 400) (b1 b2 b3 : Bool) (n1 d1 n2 d2 n3 d3 hn hd g cc : Int)
    (H1 : Hid (∀ W, Below w.heap.size w W → Calls Try.prog 10 #[.int .i64 p, .slice A l.length c] W fun e w' => GotR w' 0 X2 e ∧ Below W.heap.size W w'))
    (H2 : Hid (∀ W, Below w.heap.size w W → Calls Try.prog 14 #[.int .i64 p, .slice A l.length c] W fun e w' => GotL w' 0 ms e ∧ Below W.heap.size W w'))
    (H3 : Hid (∀ A' c' W, Seg W W.heap.size 4 encD A' ms → Calls Try.prog 22 #[.slice A' ms.length c'] W fun e w' => GotQ w' X1 e ∧ Below W.heap.size W w'))
    (H4 : Hid (∀ W, Below w.heap.size w W → Calls Try.prog 22 #[.slice A l.length c] W fun e w' => GotQ w' X3 e ∧ Below W.heap.size W w'))
    (K1 : Hid (∀ A' c' W, Seg W W.heap.size 2 encR A' X1 → Calls Try.prog 21 #[.slice A' X1.length c'] W fun e w' => e = TotR n1 d1 b1 ∧ Below W.heap.size W w'))
    (K2 : Hid (∀ A' c' W, Seg W W.heap.size 2 encR A' X2 → Calls Try.prog 21 #[.slice A' X2.length c'] W fun e w' => e = TotR n2 d2 b2 ∧ Below W.heap.size W w'))
    (K3 : Hid (∀ A' c' W, Seg W W.heap.size 2 encR A' X3 → Calls Try.prog 21 #[.slice A' X3.length c'] W fun e w' => e = TotR n3 d3 b3 ∧ Below W.heap.size W w'))
    (K4 : Hid (∀ W, Calls Try.prog 23 #[.agg #[.int .i64 n2, .int .i64 d2], .agg #[.int .i64 2, .int .i64 1]] W fun e w' => e = .returned (.tuple #[.agg #[.int .i64 hn, .int .i64 hd], .int .i64 g]) ∧ Below W.heap.size W w'))
    (K5 : b1 = true → b3 = true → cc ≤ 0 ∧ ∀ W, Calls Try.prog 24 #[.agg #[.int .i64 n1, .int .i64 d1], .agg #[.int .i64 n3, .int .i64 d3]] W fun e w' => e = .returned (.int .i64 cc) ∧ Below W.heap.size W w')
    (K6 : b1 = true → b2 = true → g = 0 ∧ hn = n1 ∧ hd = d1) :
    Calls Try.prog 8 #[.int .i64 p, .slice A l.length c] w fun e w' => e = .returned (.bool true) ∧ Below w.heap.size w w' := by
  unfold TotR at K1 K2 K3
  go_enter Try.func8, Try.ntmps8
  go_upto_region 9 with (first | (go_at_call 9; refine (head_any _).mono ?_; rintro e w0 ⟨rfl, hb0⟩) | (go_at_call 10; refine (H1.out _ (by (repeat (first | with_reducible assumption | with_reducible exact Below.refl _ _ | with_reducible refine below_drewN ?_ _ | with_reducible refine Below.drew ?_ | with_reducible refine below_alloc ?_ _ | with_reducible refine Below.setCell ?_ (by first | omega | (simp; done) | (simp; omega)) _ | with_reducible refine below_then ?_ (by with_reducible assumption) | (refine below_then (a := World.drew _) ?_ (by with_reducible assumption)))))).mono ?_; rintro e v1 ⟨⟨A1, c1, rfl, S1⟩, hb1⟩) | (go_at_call 14; refine (H2.out _ (by (repeat (first | with_reducible assumption | with_reducible exact Below.refl _ _ | with_reducible refine below_drewN ?_ _ | with_reducible refine Below.drew ?_ | with_reducible refine below_alloc ?_ _ | with_reducible refine Below.setCell ?_ (by first | omega | (simp; done) | (simp; omega)) _ | with_reducible refine below_then ?_ (by with_reducible assumption) | (refine below_then (a := World.drew _) ?_ (by with_reducible assumption)))))).mono ?_; rintro e v2 ⟨⟨A2, c2, rfl, S2⟩, hb2⟩) | (go_at_call 22; refine (H3.out _ _ _ (by exact seg_of S2 (by (repeat (first | with_reducible assumption | with_reducible exact Below.refl _ _ | with_reducible refine below_drewN ?_ _ | with_reducible refine Below.drew ?_ | with_reducible refine below_alloc ?_ _ | with_reducible refine Below.setCell ?_ (by first | omega | (simp; done) | (simp; omega)) _ | with_reducible refine below_then ?_ (by with_reducible assumption) | (refine below_then (a := World.drew _) ?_ (by with_reducible assumption))))))).mono ?_; rintro e v3 ⟨⟨A3, c3, rfl, S3⟩, hb3⟩) | (go_at_call 21; refine (K1.out _ _ _ (by exact seg_of S3 (by (repeat (first | with_reducible assumption | with_reducible exact Below.refl _ _ | with_reducible refine below_drewN ?_ _ | with_reducible refine Below.drew ?_ | with_reducible refine below_alloc ?_ _ | with_reducible refine Below.setCell ?_ (by first | omega | (simp; done) | (simp; omega)) _ | with_reducible refine below_then ?_ (by with_reducible assumption) | (refine below_then (a := World.drew _) ?_ (by with_reducible assumption))))))).mono ?_; rintro e v4 ⟨rfl, hb4⟩))
  refine name_wp ?_
  intro W1 hW1
  have Bb1 : Below w.heap.size w W1 := by rw [hW1]; (repeat (first | with_reducible assumption | with_reducible exact Below.refl _ _ | with_reducible refine below_drewN ?_ _ | with_reducible refine Below.drew ?_ | with_reducible refine below_alloc ?_ _ | with_reducible refine Below.setCell ?_ (by first | omega | (simp; done) | (simp; omega)) _ | with_reducible refine below_then ?_ (by with_reducible assumption) | (refine below_then (a := World.drew _) ?_ (by with_reducible assumption))))
  have G1 : Blk W1 v4.heap.size 34 #[.int .i64 n1, .int .i64 d1] := by rw [hW1]; exact Blk.new _ _ _
  have S1' : Seg W1 W1.heap.size 2 encR A1 X2 := seg_of S1 (by rw [hW1]; (repeat (first | with_reducible assumption | with_reducible exact Below.refl _ _ | with_reducible refine below_drewN ?_ _ | with_reducible refine Below.drew ?_ | with_reducible refine below_alloc ?_ _ | with_reducible refine Below.setCell ?_ (by first | omega | (simp; done) | (simp; omega)) _ | with_reducible refine below_then ?_ (by with_reducible assumption) | (refine below_then (a := World.drew _) ?_ (by with_reducible assumption)))))
  clear hW1 S1 S2 S3 H1 H2 H3 K1
  go_upto_region 10 with (go_at_call 21; refine (K2.out _ _ _ (by exact seg_of S1' (by (repeat (first | with_reducible assumption | with_reducible exact Below.refl _ _ | with_reducible refine below_drewN ?_ _ | with_reducible refine Below.drew ?_ | with_reducible refine below_alloc ?_ _ | with_reducible refine Below.setCell ?_ (by first | omega | (simp; done) | (simp; omega)) _ | with_reducible refine below_then ?_ (by with_reducible assumption) | (refine below_then (a := World.drew _) ?_ (by with_reducible assumption))))))).mono ?_; rintro e v5 ⟨rfl, hb5⟩)
  refine name_wp ?_
  intro W2 hW2
  have Bb2 : Below W1.heap.size W1 W2 := by rw [hW2]; (repeat (first | with_reducible assumption | with_reducible exact Below.refl _ _ | with_reducible refine below_drewN ?_ _ | with_reducible refine Below.drew ?_ | with_reducible refine below_alloc ?_ _ | with_reducible refine Below.setCell ?_ (by first | omega | (simp; done) | (simp; omega)) _ | with_reducible refine below_then ?_ (by with_reducible assumption) | (refine below_then (a := World.drew _) ?_ (by with_reducible assumption))))
  have G2 : Blk W2 v5.heap.size 34 #[.int .i64 n2, .int .i64 d2] := by rw [hW2]; exact Blk.new _ _ _
  clear hW2 S1' K2
  go_upto_region 11 with (first | (go_at_call 22; refine (H4.out _ (by exact below_then Bb1 (by (repeat (first | with_reducible assumption | with_reducible exact Below.refl _ _ | with_reducible refine below_drewN ?_ _ | with_reducible refine Below.drew ?_ | with_reducible refine below_alloc ?_ _ | with_reducible refine Below.setCell ?_ (by first | omega | (simp; done) | (simp; omega)) _ | with_reducible refine below_then ?_ (by with_reducible assumption) | (refine below_then (a := World.drew _) ?_ (by with_reducible assumption))))))).mono ?_; rintro e v6 ⟨⟨A4, c4, rfl, S4⟩, hb6⟩) | (go_at_call 21; refine (K3.out _ _ _ (by exact seg_of S4 (by (repeat (first | with_reducible assumption | with_reducible exact Below.refl _ _ | with_reducible refine below_drewN ?_ _ | with_reducible refine Below.drew ?_ | with_reducible refine below_alloc ?_ _ | with_reducible refine Below.setCell ?_ (by first | omega | (simp; done) | (simp; omega)) _ | with_reducible refine below_then ?_ (by with_reducible assumption) | (refine below_then (a := World.drew _) ?_ (by with_reducible assumption))))))).mono ?_; rintro e v7 ⟨rfl, hb7⟩))
  refine name_wp ?_
  intro W3 hW3
  have Bb3 : Below W2.heap.size W2 W3 := by rw [hW3]; (repeat (first | with_reducible assumption | with_reducible exact Below.refl _ _ | with_reducible refine below_drewN ?_ _ | with_reducible refine Below.drew ?_ | with_reducible refine below_alloc ?_ _ | with_reducible refine Below.setCell ?_ (by first | omega | (simp; done) | (simp; omega)) _ | with_reducible refine below_then ?_ (by with_reducible assumption) | (refine below_then (a := World.drew _) ?_ (by with_reducible assumption))))
  have G3 : Blk W3 v7.heap.size 34 #[.int .i64 n3, .int .i64 d3] := by rw [hW3]; exact Blk.new _ _ _
  obtain ⟨k0, k1, _, _⟩ := (G2.then_ Bb3).two
  clear hW3 S4 H4 K3
  go_upto_region 12 with (go_at_call 23; refine (K4.out _).mono ?_; rintro e v8 ⟨rfl, hb8⟩)
  refine name_wp ?_
  intro W4 hW4
  have Bb4 : Below W3.heap.size W3 W4 := by rw [hW4]; (repeat (first | with_reducible assumption | with_reducible exact Below.refl _ _ | with_reducible refine below_drewN ?_ _ | with_reducible refine Below.drew ?_ | with_reducible refine below_alloc ?_ _ | with_reducible refine Below.setCell ?_ (by first | omega | (simp; done) | (simp; omega)) _ | with_reducible refine below_then ?_ (by with_reducible assumption) | (refine below_then (a := World.drew _) ?_ (by with_reducible assumption))))
  have G4 : Blk W4 v8.heap.size 34 #[.int .i64 hn, .int .i64 hd] := by rw [hW4]; exact Blk.new _ _ _
  clear hW4 K4 k0 k1
  obtain ⟨p0, p1, _, _⟩ := (((G1.then_ Bb2).then_ Bb3).then_ Bb4).two
  obtain ⟨q0, q1, _, _⟩ := (G3.then_ Bb4).two
  obtain ⟨r0, r1, _, _⟩ := G4.two
  have BW := Lib.hid (below_then (below_then (below_then Bb1 Bb2) Bb3) Bb4)
  clear Bb1 Bb2 Bb3 Bb4 G1 G2 G3 G4
  cases b1
  · clear K5 K6
    cases b2 <;> cases b3
    all_goals
      go_wp2_with fail
      go_ret
      exact ⟨rfl, BW.out⟩
  · cases b2 <;> cases b3
    · clear K5 K6
      go_wp2_with fail
      go_ret
      exact ⟨rfl, BW.out⟩
    · obtain ⟨hc, K5⟩ := K5 rfl rfl
      have K7 := Lib.hid K5
      clear K5 K6
      go_wp2_with (go_at_call 24; refine (K7.out _).mono ?_; rintro e v9 ⟨rfl, hb9⟩)
      go_ret
      exact ⟨rfl, below_then BW.out hb9⟩
    · obtain ⟨rfl, rfl, rfl⟩ := K6 rfl rfl
      clear K5 K6
      go_wp2_with fail
      go_ret
      exact ⟨rfl, BW.out⟩
    · obtain ⟨rfl, rfl, rfl⟩ := K6 rfl rfl
      obtain ⟨hc, K5⟩ := K5 rfl rfl
      have K7 := Lib.hid K5
      clear K5 K6
      go_wp2_with (go_at_call 24; refine (K7.out _).mono ?_; rintro e v9 ⟨rfl, hb9⟩)
      go_ret
      exact ⟨rfl, below_then BW.out hb9⟩

def tN (o : Option Rat) : Int := match o with | some s => s.num | none => 0
def tD (o : Option Rat) : Int := match o with | some s => s.den | none => 0
theorem TotB.is {o : Option Rat} {e : Ending} (h : TotB o e) : e = TotR (tN o) (tD o) o.isSome := by cases o <;> exact h
theorem less_any {p : Int} {l : List Db} (h : Args p l) (A : Option Addr) (c : Nat) (w : World) (hm : Seg w w.heap.size 4 encD A l) :
    Calls Try.prog 8 #[.int .i64 p, .slice A l.length c] w fun e w' => e = .returned (.bool true) ∧ Below w.heap.size w w' := by
  by_cases hl : l.length ≤ 400
  · have R1 := fun W (hW : Below w.heap.size w W) => positions_got h A c W (seg_of hm hW)
    have R2 := fun W (hW : Below w.heap.size w W) => net_got h A c W (seg_of hm hW)
    have g1 := posL_len p l
    have g3 := ntL_len p l
    by_cases hz : posE p l = 0 ∧ ntE p l = 0
    · obtain ⟨hz1, hz2⟩ := hz
      simp only [hz1] at R1
      simp only [hz2] at R2
      obtain ⟨_, hv⟩ := valid_of_ntE hz2
      have hin := (net_codes hz1).2.2.2.2
      have T1 := fun A' c' W hs => (total_any A' c' ((ntL p l).map qOf) W (by simp; omega) (fun q hq => by
        obtain ⟨x, hx, rfl⟩ := List.mem_map.1 hq
        exact (qOf_vld (okD_of (ntL_ok x hx)).2.1).2.2) hs).mono fun e w' ⟨he, hb⟩ => (⟨he.is, hb⟩ : e = TotR _ _ _ ∧ Below W.heap.size W w')
      have T2 := fun A' c' W hs => (total_any A' c' (posL p l) W (by omega) hin hs).mono fun e w' ⟨he, hb⟩ => (⟨he.is, hb⟩ : e = TotR _ _ _ ∧ Below W.heap.size W w')
      have T3 := fun A' c' W hs => (total_any A' c' (l.map qOf) W (by simp; omega) (fun q hq => by
        obtain ⟨x, hx, rfl⟩ := List.mem_map.1 hq
        exact (qOf_vld (hv x hx)).2.2) hs).mono fun e w' ⟨he, hb⟩ => (⟨he.is, hb⟩ : e = TotR _ _ _ ∧ Below W.heap.size W w')
      have R3 := fun A' c' W hs => amounts_got A' c' (ntL p l) W (by omega) (fun x hx => (okD_of (ntL_ok x hx)).2.1) hs
      have R4 := fun W (hW : Below w.heap.size w W) => amounts_got A c l W hl hv (seg_of hm hW)
      have K5 : ∃ cc : Int, (totA ((ntL p l).map qOf)).isSome = true → (totA (l.map qOf)).isSome = true → cc ≤ 0 ∧ ∀ W, Calls Try.prog 24 #[.agg #[.int .i64 (tN (totA ((ntL p l).map qOf))), .int .i64 (tD (totA ((ntL p l).map qOf)))], .agg #[.int .i64 (tN (totA (l.map qOf))), .int .i64 (tD (totA (l.map qOf)))]] W fun e w' => e = .returned (.int .i64 cc) ∧ Below W.heap.size W w' := by
        cases ht : totA ((ntL p l).map qOf) with
        | none => exact ⟨0, fun h => by cases h⟩
        | some t =>
          cases hb : totA (l.map qOf) with
          | none => exact ⟨0, fun _ h => by cases h⟩
          | some b => exact ⟨_, fun _ _ => ⟨less_le hz2 ht hb, fun W => cmp_any t b W (totA_inR' ht) (totA_inR' hb)⟩⟩
      obtain ⟨cc, K5⟩ := K5
      have K4 : ∃ hn hd g : Int, (∀ W, Calls Try.prog 23 #[.agg #[.int .i64 (tN (totA (posL p l))), .int .i64 (tD (totA (posL p l)))], .agg #[.int .i64 2, .int .i64 1]] W fun e w' => e = .returned (.tuple #[.agg #[.int .i64 hn, .int .i64 hd], .int .i64 g]) ∧ Below W.heap.size W w') ∧
          ((totA ((ntL p l).map qOf)).isSome = true → (totA (posL p l)).isSome = true → g = 0 ∧ hn = tN (totA ((ntL p l).map qOf)) ∧ hd = tD (totA ((ntL p l).map qOf))) := by
        cases hu : totA (posL p l) with
        | none => exact ⟨0, 0, 1, fun W => div_bad 0 0 2 1 W (by decide) (by omega) (by omega), fun _ h => by cases h⟩
        | some u =>
          refine ⟨_, _, _, fun W => div_of u 2 W (totA_inR' hu) (by decide) (by decide) rfl rfl rfl rfl, fun h1 _ => ?_⟩
          cases ht : totA ((ntL p l).map qOf) with
          | none => rw [ht] at h1; cases h1
          | some t =>
            have e := less_half hz2 ht hu
            have it := totA_inR' ht
            rw [← e]
            exact ⟨oE_yes it, oN_yes it, oD_yes it⟩
      obtain ⟨hn, hd, g, K4, K6⟩ := K4
      exact less_walk A c w hl _ _ _ _ _ _ _ _ _ hn hd g cc (Lib.hid R1) (Lib.hid R2) (Lib.hid R3) (Lib.hid R4) (Lib.hid T1) (Lib.hid T2) (Lib.hid T3) (Lib.hid K4) K5 K6
    · have hc : (posE p l != 0) = true ∨ ((posE p l != 0) = false ∧ (ntE p l != 0) = true) := by
        by_cases h0 : posE p l = 0
        · right; exact ⟨by simp [h0], by simp; exact fun h1 => hz ⟨h0, h1⟩⟩
        · left; simpa using h0
      have H1 := Lib.hid R1
      have H2 := Lib.hid R2
      clear R1 R2 hz hm h
      generalize posE p l = E at *
      generalize ntE p l = G at *
      rcases hc with hc | ⟨hc, hc'⟩
      all_goals
        go_enter Try.func8, Try.ntmps8
        go_wp2_with (first | (go_at_call 9; refine (head_any _).mono ?_; rintro e w0 ⟨rfl, b0⟩) | (go_at_call 10; refine (H1.out _ (by (repeat (first | with_reducible assumption | with_reducible exact Below.refl _ _ | with_reducible refine below_drewN ?_ _ | with_reducible refine Below.drew ?_ | with_reducible refine below_alloc ?_ _ | with_reducible refine Below.setCell ?_ (by first | omega | (simp; done) | (simp; omega)) _ | with_reducible refine below_then ?_ (by with_reducible assumption) | (refine below_then (a := World.drew _) ?_ (by with_reducible assumption)))))).mono ?_; rintro e v1 ⟨⟨A1, c1, rfl, S1⟩, b1⟩) | (go_at_call 14; refine (H2.out _ (by (repeat (first | with_reducible assumption | with_reducible exact Below.refl _ _ | with_reducible refine below_drewN ?_ _ | with_reducible refine Below.drew ?_ | with_reducible refine below_alloc ?_ _ | with_reducible refine Below.setCell ?_ (by first | omega | (simp; done) | (simp; omega)) _ | with_reducible refine below_then ?_ (by with_reducible assumption) | (refine below_then (a := World.drew _) ?_ (by with_reducible assumption)))))).mono ?_; rintro e v2 ⟨⟨A2, c2, rfl, S2⟩, b2⟩))
        go_ret
        exact ⟨rfl, by (repeat (first | with_reducible assumption | with_reducible exact Below.refl _ _ | with_reducible refine below_drewN ?_ _ | with_reducible refine Below.drew ?_ | with_reducible refine below_alloc ?_ _ | with_reducible refine Below.setCell ?_ (by first | omega | (simp; done) | (simp; omega)) _ | with_reducible refine below_then ?_ (by with_reducible assumption) | (refine below_then (a := World.drew _) ?_ (by with_reducible assumption))))⟩
  · have hlen := h.len
    go_enter Try.func8, Try.ntmps8
    go_wp2_with (go_at_call 9; refine (head_any _).mono ?_; rintro e w0 ⟨rfl, b0⟩)
    go_ret
    exact ⟨rfl, b0⟩
end Go.Proofs.Ythgbdpiihdhfiaa
