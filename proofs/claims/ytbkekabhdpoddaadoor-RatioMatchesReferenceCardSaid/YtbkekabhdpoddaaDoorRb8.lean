/- The walk of ratio.Text at every ratio and of ratio.Parse at every text. -/
import Derived.Test.YtbkekabhdpoddaaDoorRb7
import Derived.Test.YtbkekabhdpoddaaDoorPk
namespace Go.Proofs.YtbkekabhdpoddaaDoor
open Go.RowKit

def txtO (n d : Int) : List UInt8 := if vld n d then Lib.itoa n ++ (if d = 1 then [] else 47 :: Lib.itoa d) else []
theorem txtO_rat {q : Rat} (h : inR q = true) : txtO q.num q.den = txt q := by
  unfold txtO txt
  rw [if_pos (inR_vld h)]
  congr 1
  by_cases h1 : q.den = 1
  · rw [if_pos h1, if_pos (by omega)]
  · rw [if_neg h1, if_neg (by omega)]
theorem ftext_any (n d : Int) (w : World) (hL : Lw w) (hn1 : -9223372036854775808 ≤ n) (hn2 : n ≤ 9223372036854775807) (hd1 : -9223372036854775808 ≤ d) (hd2 : d ≤ 9223372036854775807) :
    Calls Tryd.prog 22 #[.agg #[.int .i64 n, .int .i64 d]] w fun e w' => e = .returned (.string (bA (txtO n d))) ∧ Below w.heap.size w w' := by
  cases hv : vld n d with
  | true =>
    obtain ⟨q, hq, rfl, rfl⟩ := rat_of_vld hv
    rw [txtO_rat hq]
    exact text_any q w hL hq
  | false =>
    rw [show txtO n d = [] by unfold txtO; rw [hv]; rfl]
    exact text_no n d w hn1 hn2 hd1 hd2 hv
/-- what Parse returns: a ratio, or nothing -/
def prs (l : List UInt8) : Option (Int × Int) :=
  match Lib.atoiAll (Lib.cut l [47]).1 with
  | .ok n =>
    if (Lib.cut l [47]).2.2 then
      match Lib.atoiAll (Lib.cut l [47]).2.1 with
      | .ok d => if txtO n d = l then some (n, d) else none
      | _ => none
    else if txtO n 1 = l then some (n, 1) else none
  | _ => none
def pN (o : Option (Int × Int)) : Int := (o.getD (0, 0)).1
def pD (o : Option (Int × Int)) : Int := (o.getD (0, 0)).2
def pE (o : Option (Int × Int)) : Int := if o.isSome then 0 else 5
theorem cut_len (l : List UInt8) (sep : List UInt8) : (Lib.cut l sep).1.length ≤ l.length ∧ (Lib.cut l sep).2.1.length ≤ l.length := by
  unfold Lib.cut
  split
  · simp only [List.length_take, List.length_drop]; omega
  · simp
theorem atoi_rng {l : List UInt8} {v : Int} (h : Lib.atoiAll l = .ok v) : -9223372036854775808 ≤ v ∧ v ≤ 9223372036854775807 := by
  unfold Lib.atoiAll at h
  split at h
  · cases h
  · simp only at h
    split at h
    · cases h
    · cases h
    · rename_i u hu
      split at h
      · cases h
      · split at h
        · cases h
        · injection h with h
          rename_i h1 h2
          split at h <;> omega
set_option maxRecDepth 100000 in
set_option maxHeartbeats 3200000 in
/-- ratio.Parse at every text -/
theorem parse_any (s : ByteArray) (w : World) (hL : Lw w) (hs : s.size ≤ 1000000) :
    Calls Tryd.prog 23 #[.string s] w fun e w' => e = .returned (.tuple #[.agg #[.int .i64 (pN (prs s.toList)), .int .i64 (pD (prs s.toList))], .int .i64 (pE (prs s.toList))]) ∧ Below w.heap.size w w' := by
  have hsl : s.toList = s.data.toList := ByteArray.toList_eq s
  have hcl := cut_len s.data.toList [47]
  have hsz : s.data.toList.length = s.size := Array.length_toList
  have HC := Lib.hid (fun W (hb : Below w.heap.size w W) => cut_any s W (hL.below hb) hs)
  have HLW := Lib.hid hL
  obtain ⟨P, hP⟩ : ∃ P, prs s.toList = P := ⟨_, rfl⟩
  have HP := Lib.hid hP
  obtain ⟨A, hA⟩ : ∃ A, (Lib.cut s.data.toList [47]).1 = A := ⟨_, rfl⟩
  obtain ⟨B, hB⟩ : ∃ B, (Lib.cut s.data.toList [47]).2.1 = B := ⟨_, rfl⟩
  obtain ⟨f, hf⟩ : ∃ f, (Lib.cut s.data.toList [47]).2.2 = f := ⟨_, rfl⟩
  have hPP : P = match Lib.atoiAll A with
    | .ok n => if f then (match Lib.atoiAll B with | .ok d => if txtO n d = s.toList then some (n, d) else none | _ => none) else if txtO n 1 = s.toList then some (n, 1) else none
    | _ => none := by rw [← hP, prs, hsl, hA, hB, hf]
  rw [hA, hB, hf] at HC
  rw [hA, hB] at hcl
  have lA : (⟨A.toArray⟩ : ByteArray).size ≤ 281474976710656 := by simp [ByteArray.size]; omega
  have lB : (⟨B.toArray⟩ : ByteArray).size ≤ 281474976710656 := by simp [ByteArray.size]; omega
  have HPP := Lib.hid hPP
  rw [hP]
  clear hP hA hB hf hsl hcl hsz hL hPP hs
  go_enter Tryd.func23, Tryd.ntmps23
  go_upto_region 1 with (fail)
  refine name_wp ?_
  intro X hX
  have gX : Blk X w.heap.size 25 #[.int .i64 0, .int .i64 0] := by rw [hX]; exact Blk.new _ _ _
  have hbX : Below w.heap.size w X := by rw [hX]; exact wa1 _ _
  obtain ⟨R, eR⟩ : ∃ b, w.heap.size = b := ⟨_, rfl⟩
  rw [eR] at gX ⊢
  have HBX := Lib.hid hbX
  have GX := Lib.hid gX
  have ER : Hid (w.heap.size ≤ R) := by unfold Hid; omega
  clear hX hbX gX eR
  by_cases ha : ∃ n, Lib.atoiAll A = .ok n
  · obtain ⟨n, ha⟩ := ha
    have rn := atoi_rng ha
    have HA := Lib.hid (fun W => atoi_ok ⟨A.toArray⟩ n W lA (by simpa using ha))
    rw [ha] at HPP
    clear ha
    go_upto_region 5 with (first | (go_at_call 46; (with_reducible refine (HC.out _ HBX.out).mono ?_); rintro e w1 ⟨rfl, hb1⟩) | (go_at_call 47; (with_reducible refine (HA.out _).mono ?_); rintro e w2 ⟨rfl, hb2⟩))
    go_upto_region 6 with (fail)
    refine name_wp ?_
    intro Y hY
    have rY : Blk Y R 25 #[.int .i64 0, .int .i64 0] := by rw [hY]; exact ((GX.out.then_ hb1).then_ hb2).alloc _
    have gY : Blk Y w2.heap.size 25 #[.int .i64 n, .int .i64 1] := by rw [hY]; exact Blk.new _ _ _
    have HBY : Hid (Below w.heap.size w Y) := by rw [hY]; exact below_alloc (below_then (below_then HBX.out hb1) hb2) _
    have hRa : R < w2.heap.size := ((GX.out.then_ hb1).then_ hb2).lt
    obtain ⟨a2, e2⟩ : ∃ b, w2.heap.size = b := ⟨_, rfl⟩
    rw [e2] at gY hRa ⊢
    clear hY hb1 hb2 e2 HA HC HBX GX
    cases f with
    | false =>
      have HPQ : Hid (P = if txtO n 1 = s.toList then some (n, 1) else none) := HPP.out
      go_upto_region 11 with (fail)
      have gV := gY
      have rV := rY
      have HBV := HBY
      clear gY rY HBY
      have HTX := Lib.hid (fun W (hb : Below w.heap.size w W) => ftext_any n 1 W (HLW.out.below hb) rn.1 rn.2 (by omega) (by omega))
      by_cases hq : txtO n 1 = s.toList
      · have HQ : Hid (P = some (n, 1)) := by unfold Hid; rw [HPQ.out, if_pos hq]
        have tq : ((bA (txtO n 1)).toList == s.toList) = true := by rw [ByteArray.toList_eq (bA (txtO n 1)), ← hq]; simp [bA]
        clear hq
        go_upto_region 13 with (first | (refine wpList_row_w (by rfl) 25 _ rfl a2 rfl 25 #[.int .i64 n, .int .i64 1] gV ⟨_, Tryd.underlying25⟩ (by kernel_rfl) ?_; simp only [Act.put, List.setIfInBounds_toArray, List.set_cons_succ, List.set_cons_zero]) | (go_at_call 22; (with_reducible refine (HTX.out _ HBV.out).mono ?_); rintro e w6 ⟨rfl, hb6⟩))
        refine name_wp ?_
        intro Z hZ
        have gZ : Blk Z R 25 #[.int .i64 0, .int .i64 0] := by rw [hZ]; exact rV.then_ hb6
        have aZ : Blk Z a2 25 #[.int .i64 n, .int .i64 1] := by rw [hZ]; exact gV.then_ hb6
        have HBZ : Hid (Below w.heap.size w Z) := by rw [hZ]; exact below_then HBV.out hb6
        have k0 : Z.cell? ⟨R, 0, none⟩ = some (.int .i64 0) := gZ.cell 0
        have k1 : Z.cell? ⟨R, 1, none⟩ = some (.int .i64 0) := gZ.cell 1
        have z0 : Z.frozen? ⟨R, 0, none⟩ = false := gZ.frozen 0
        have z1 : Z.frozen? ⟨R, 1, none⟩ = false := gZ.frozen 1
        have j0 : Z.cell? ⟨a2, 0, none⟩ = some (.int .i64 n) := aZ.cell 0
        have j1 : Z.cell? ⟨a2, 1, none⟩ = some (.int .i64 1) := aZ.cell 1
        have lZ := gZ.lt
        have lZ2 := aZ.lt
        clear hZ hb6 gV rV
        go_wp2
        refine bodyPost_ret (ret_rat rfl rfl (by (repeat (first | with_reducible assumption | with_reducible refine Blk.alloc ?_ _ | with_reducible refine Blk.drewN ?_ _ | with_reducible apply Blk.setT0 | with_reducible apply Blk.setT1 | with_reducible refine Blk.far ?_ (by first | (simp; done) | omega | (simp; omega)) _ | with_reducible refine Blk.then_ ?_ (by with_reducible assumption))))) rfl ⟨?_, ?_⟩
        · rw [HQ.out]; rfl
        · exact (HBZ.out.setCell (p := ⟨R, 0, none⟩) ER.out _).setCell (p := ⟨R, 1, none⟩) ER.out _
      · have HQ : Hid (P = none) := by unfold Hid; rw [HPQ.out, if_neg hq]
        have tq : ((bA (txtO n 1)).toList == s.toList) = false := by rw [ByteArray.toList_eq (bA (txtO n 1)), beq_eq_false_iff_ne]; intro h; exact hq (by rw [← h]; simp [bA])
        clear hq
        go_upto_region 12 with (first | (refine wpList_row_w (by rfl) 25 _ rfl a2 rfl 25 #[.int .i64 n, .int .i64 1] gV ⟨_, Tryd.underlying25⟩ (by kernel_rfl) ?_; simp only [Act.put, List.setIfInBounds_toArray, List.set_cons_succ, List.set_cons_zero]) | (go_at_call 22; (with_reducible refine (HTX.out _ HBV.out).mono ?_); rintro e w6 ⟨rfl, hb6⟩))
        refine name_wp ?_
        intro Z hZ
        have gZ : Blk Z R 25 #[.int .i64 0, .int .i64 0] := by rw [hZ]; exact rV.then_ hb6
        have HBZ : Hid (Below w.heap.size w Z) := by rw [hZ]; exact below_then HBV.out hb6
        have k0 : Z.cell? ⟨R, 0, none⟩ = some (.int .i64 0) := gZ.cell 0
        have k1 : Z.cell? ⟨R, 1, none⟩ = some (.int .i64 0) := gZ.cell 1
        have z0 : Z.frozen? ⟨R, 0, none⟩ = false := gZ.frozen 0
        have z1 : Z.frozen? ⟨R, 1, none⟩ = false := gZ.frozen 1
        have lZ := gZ.lt
        clear hZ hb6 gV rV
        go_wp2
        refine bodyPost_ret (ret_rat rfl rfl (by (repeat (first | with_reducible assumption | with_reducible refine Blk.alloc ?_ _ | with_reducible refine Blk.drewN ?_ _ | with_reducible apply Blk.setT0 | with_reducible apply Blk.setT1 | with_reducible refine Blk.far ?_ (by first | (simp; done) | omega | (simp; omega)) _ | with_reducible refine Blk.then_ ?_ (by with_reducible assumption))))) rfl ⟨?_, ?_⟩
        · rw [HQ.out]; rfl
        · exact (HBZ.out.setCell (p := ⟨R, 0, none⟩) ER.out _).setCell (p := ⟨R, 1, none⟩) ER.out _
    | true =>
      by_cases hb : ∃ d, Lib.atoiAll B = .ok d
      · obtain ⟨d, hb⟩ := hb
        have rd := atoi_rng hb
        have HPQ : Hid (P = if txtO n d = s.toList then some (n, d) else none) := by have h := HPP.out; rw [hb] at h; exact h
        have HA := Lib.hid (fun W => atoi_ok ⟨B.toArray⟩ d W lB (by simpa using hb))
        clear hb
        go_upto_region 10 with (go_at_call 47; (with_reducible refine (HA.out _).mono ?_); rintro e w4 ⟨rfl, hb4⟩)
        have g4 := gY.then_ hb4
        have j1 : w4.cell? ⟨a2, 1, none⟩ = some (.int .i64 1) := g4.cell 1
        have z1 : w4.frozen? ⟨a2, 1, none⟩ = false := g4.frozen 1
        have l4 := g4.lt
        go_upto_region 11 with (fail)
        refine name_wp ?_
        intro V hV
        have gV : Blk V a2 25 #[.int .i64 n, .int .i64 d] := by rw [hV]; exact g4.set_ 1 _
        have rV : Blk V R 25 #[.int .i64 0, .int .i64 0] := by rw [hV]; exact (rY.then_ hb4).far (p := ⟨a2, 1, none⟩) (show R ≠ a2 by omega) _
        have HBV : Hid (Below w.heap.size w V) := by rw [hV]; exact (below_then HBY.out hb4).setCell (p := ⟨a2, 1, none⟩) (show w.heap.size ≤ a2 by have := ER.out; omega) _
        clear hV hb4 g4 j1 z1 l4 gY rY HBY HA
        have HTX := Lib.hid (fun W (hb : Below w.heap.size w W) => ftext_any n d W (HLW.out.below hb) rn.1 rn.2 rd.1 rd.2)
        by_cases hq : txtO n d = s.toList
        · have HQ : Hid (P = some (n, d)) := by unfold Hid; rw [HPQ.out, if_pos hq]
          have tq : ((bA (txtO n d)).toList == s.toList) = true := by rw [ByteArray.toList_eq (bA (txtO n d)), ← hq]; simp [bA]
          clear hq
          go_upto_region 13 with (first | (refine wpList_row_w (by rfl) 25 _ rfl a2 rfl 25 #[.int .i64 n, .int .i64 d] gV ⟨_, Tryd.underlying25⟩ (by kernel_rfl) ?_; simp only [Act.put, List.setIfInBounds_toArray, List.set_cons_succ, List.set_cons_zero]) | (go_at_call 22; (with_reducible refine (HTX.out _ HBV.out).mono ?_); rintro e w6 ⟨rfl, hb6⟩))
          refine name_wp ?_
          intro Z hZ
          have gZ : Blk Z R 25 #[.int .i64 0, .int .i64 0] := by rw [hZ]; exact rV.then_ hb6
          have aZ : Blk Z a2 25 #[.int .i64 n, .int .i64 d] := by rw [hZ]; exact gV.then_ hb6
          have HBZ : Hid (Below w.heap.size w Z) := by rw [hZ]; exact below_then HBV.out hb6
          have k0 : Z.cell? ⟨R, 0, none⟩ = some (.int .i64 0) := gZ.cell 0
          have k1 : Z.cell? ⟨R, 1, none⟩ = some (.int .i64 0) := gZ.cell 1
          have z0 : Z.frozen? ⟨R, 0, none⟩ = false := gZ.frozen 0
          have z1 : Z.frozen? ⟨R, 1, none⟩ = false := gZ.frozen 1
          have j0 : Z.cell? ⟨a2, 0, none⟩ = some (.int .i64 n) := aZ.cell 0
          have j1 : Z.cell? ⟨a2, 1, none⟩ = some (.int .i64 d) := aZ.cell 1
          have lZ := gZ.lt
          have lZ2 := aZ.lt
          clear hZ hb6 gV rV
          go_wp2
          refine bodyPost_ret (ret_rat rfl rfl (by (repeat (first | with_reducible assumption | with_reducible refine Blk.alloc ?_ _ | with_reducible refine Blk.drewN ?_ _ | with_reducible apply Blk.setT0 | with_reducible apply Blk.setT1 | with_reducible refine Blk.far ?_ (by first | (simp; done) | omega | (simp; omega)) _ | with_reducible refine Blk.then_ ?_ (by with_reducible assumption))))) rfl ⟨?_, ?_⟩
          · rw [HQ.out]; rfl
          · exact (HBZ.out.setCell (p := ⟨R, 0, none⟩) ER.out _).setCell (p := ⟨R, 1, none⟩) ER.out _
        · have HQ : Hid (P = none) := by unfold Hid; rw [HPQ.out, if_neg hq]
          have tq : ((bA (txtO n d)).toList == s.toList) = false := by rw [ByteArray.toList_eq (bA (txtO n d)), beq_eq_false_iff_ne]; intro h; exact hq (by rw [← h]; simp [bA])
          clear hq
          go_upto_region 12 with (first | (refine wpList_row_w (by rfl) 25 _ rfl a2 rfl 25 #[.int .i64 n, .int .i64 d] gV ⟨_, Tryd.underlying25⟩ (by kernel_rfl) ?_; simp only [Act.put, List.setIfInBounds_toArray, List.set_cons_succ, List.set_cons_zero]) | (go_at_call 22; (with_reducible refine (HTX.out _ HBV.out).mono ?_); rintro e w6 ⟨rfl, hb6⟩))
          refine name_wp ?_
          intro Z hZ
          have gZ : Blk Z R 25 #[.int .i64 0, .int .i64 0] := by rw [hZ]; exact rV.then_ hb6
          have HBZ : Hid (Below w.heap.size w Z) := by rw [hZ]; exact below_then HBV.out hb6
          have k0 : Z.cell? ⟨R, 0, none⟩ = some (.int .i64 0) := gZ.cell 0
          have k1 : Z.cell? ⟨R, 1, none⟩ = some (.int .i64 0) := gZ.cell 1
          have z0 : Z.frozen? ⟨R, 0, none⟩ = false := gZ.frozen 0
          have z1 : Z.frozen? ⟨R, 1, none⟩ = false := gZ.frozen 1
          have lZ := gZ.lt
          clear hZ hb6 gV rV
          go_wp2
          refine bodyPost_ret (ret_rat rfl rfl (by (repeat (first | with_reducible assumption | with_reducible refine Blk.alloc ?_ _ | with_reducible refine Blk.drewN ?_ _ | with_reducible apply Blk.setT0 | with_reducible apply Blk.setT1 | with_reducible refine Blk.far ?_ (by first | (simp; done) | omega | (simp; omega)) _ | with_reducible refine Blk.then_ ?_ (by with_reducible assumption))))) rfl ⟨?_, ?_⟩
          · rw [HQ.out]; rfl
          · exact (HBZ.out.setCell (p := ⟨R, 0, none⟩) ER.out _).setCell (p := ⟨R, 1, none⟩) ER.out _
      · have HPn : Hid (P = none) := by
          have h := HPP.out
          cases h2 : Lib.atoiAll B with
          | ok d => exact absurd ⟨d, h2⟩ hb
          | _ => rw [h2] at h; exact h
        have HA := Lib.hid (fun W (h : Below w.heap.size w W) => atoi_no ⟨B.toArray⟩ W (HLW.out.below h) lB (fun v hv => hb ⟨v, by simpa using hv⟩))
        clear hb
        go_upto_region 9 with (go_at_call 47; (with_reducible refine (HA.out _ HBY.out).mono ?_); rintro e w4 ⟨v, ty, p, rfl, hb4⟩)
        refine name_wp ?_
        intro Z hZ
        have gZ : Blk Z R 25 #[.int .i64 0, .int .i64 0] := by rw [hZ]; exact rY.then_ hb4
        have HBZ : Hid (Below w.heap.size w Z) := by rw [hZ]; exact below_then HBY.out hb4
        have k0 : Z.cell? ⟨R, 0, none⟩ = some (.int .i64 0) := gZ.cell 0
        have k1 : Z.cell? ⟨R, 1, none⟩ = some (.int .i64 0) := gZ.cell 1
        have z0 : Z.frozen? ⟨R, 0, none⟩ = false := gZ.frozen 0
        have z1 : Z.frozen? ⟨R, 1, none⟩ = false := gZ.frozen 1
        have lZ := gZ.lt
        clear hZ hb4 gY rY HBY HA
        go_wp2
        refine bodyPost_ret (ret_rat rfl rfl (by (repeat (first | with_reducible assumption | with_reducible refine Blk.alloc ?_ _ | with_reducible refine Blk.drewN ?_ _ | with_reducible apply Blk.setT0 | with_reducible apply Blk.setT1 | with_reducible refine Blk.far ?_ (by first | (simp; done) | omega | (simp; omega)) _ | with_reducible refine Blk.then_ ?_ (by with_reducible assumption))))) rfl ⟨?_, ?_⟩
        · rw [HPn.out]; rfl
        · exact (HBZ.out.setCell (p := ⟨R, 0, none⟩) ER.out _).setCell (p := ⟨R, 1, none⟩) ER.out _
  · have hPn : P = none := by
      rw [HPP.out]
      cases h : Lib.atoiAll A with
      | ok n => exact absurd ⟨n, h⟩ ha
      | _ => rfl
    have HA := Lib.hid (fun W (hb : Below w.heap.size w W) => atoi_no ⟨A.toArray⟩ W (HLW.out.below hb) lA (fun v hv => ha ⟨v, by simpa using hv⟩))
    subst hPn
    clear ha
    go_upto_region 4 with (first | (go_at_call 46; (with_reducible refine (HC.out _ HBX.out).mono ?_); rintro e w1 ⟨rfl, hb1⟩) | (go_at_call 47; (with_reducible refine (HA.out _ (below_then HBX.out hb1)).mono ?_); rintro e w2 ⟨v, ty, p, rfl, hb2⟩))
    refine name_wp ?_
    intro Y hY
    have gY : Blk Y R 25 #[.int .i64 0, .int .i64 0] := by rw [hY]; exact (GX.out.then_ hb1).then_ hb2
    have HBY : Hid (Below w.heap.size w Y) := by rw [hY]; exact below_then (below_then HBX.out hb1) hb2
    have k0 : Y.cell? ⟨R, 0, none⟩ = some (.int .i64 0) := gY.cell 0
    have k1 : Y.cell? ⟨R, 1, none⟩ = some (.int .i64 0) := gY.cell 1
    have z0 : Y.frozen? ⟨R, 0, none⟩ = false := gY.frozen 0
    have z1 : Y.frozen? ⟨R, 1, none⟩ = false := gY.frozen 1
    have lY := gY.lt
    clear hY
    go_wp2
    refine bodyPost_ret (ret_rat rfl rfl (by (repeat (first | with_reducible assumption | with_reducible refine Blk.alloc ?_ _ | with_reducible refine Blk.drewN ?_ _ | with_reducible apply Blk.setT0 | with_reducible apply Blk.setT1 | with_reducible refine Blk.far ?_ (by first | (simp; done) | omega | (simp; omega)) _ | with_reducible refine Blk.then_ ?_ (by with_reducible assumption))))) rfl ⟨?_, ?_⟩
    · rfl
    · exact (HBY.out.setCell (p := ⟨R, 0, none⟩) ER.out _).setCell (p := ⟨R, 1, none⟩) ER.out _
end Go.Proofs.YtbkekabhdpoddaaDoor
