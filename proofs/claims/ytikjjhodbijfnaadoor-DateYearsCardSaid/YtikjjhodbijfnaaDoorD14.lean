/- The walk of the laws' fixed examples: they hold. -/
import Derived.Test.YtikjjhodbijfnaaDoorD13
namespace Go.Proofs.YtikjjhodbijfnaaDoor
open Go.RowKit Go.Sort

theorem kal1 {w : World} {g : Nat} {t : TypeId} {x : Int} (h : Blk w g t #[.int .i64 x]) : Kal w (some ⟨g, 0, none⟩) [x] 1 := by
  refine ⟨by simp, by simp, by simp, ?_⟩
  intro k y hk
  have h0 : k = 0 := by
    have := (List.getElem?_eq_some_iff.1 hk).1
    simp at this; omega
  subst h0
  simp at hk
  subst hk
  refine ⟨g, 0, rfl, h.lt, fun j u hu => ?_⟩
  rw [h.cell]
  have hj : j = 0 := by
    have := (List.getElem?_eq_some_iff.1 hu).1
    simp [encI] at this; omega
  subst hj
  simpa [encI] using hu
theorem kal2 {w : World} {g : Nat} {t : TypeId} {x y : Int} (h : Blk w g t #[.int .i64 x, .int .i64 y]) : Kal w (some ⟨g, 0, none⟩) [x, y] 2 := by
  refine ⟨by simp, by simp, by simp, ?_⟩
  intro k z hk
  refine ⟨g, 0, rfl, h.lt, fun j u hu => ?_⟩
  rw [h.cell]
  have hj : j = 0 := by
    have := (List.getElem?_eq_some_iff.1 hu).1
    simp [encI] at this; omega
  subst hj
  simp [encI] at hu
  subst hu
  rcases k with _ | _ | k
  · simp at hk; subst hk; simp
  · simp at hk; subst hk; simp
  · simp at hk
theorem kal0 (w : World) : Kal w none [] 0 := ⟨by simp, by simp, by simp, fun k x h => by simp at h⟩
abbrev calE (A : Option Addr) (n c : Nat) : Value := .agg (calA false false false false false true true (.slice A n c))
section
variable (A : Option Addr) (c : Nat) (w : World)
theorem hd_wk (n : Nat) : Calls Tryd.prog 19 #[.slice A n c] w fun e w' => e = .returned (calE A n c) ∧ Below w.heap.size w w' := week_any A n c w
theorem hd_x (hk : Kal w A [4] c) : Calls Tryd.prog 14 #[calE A 1 c, .int .i64 4] w fun e w' => e = .returned (.tuple #[.int .i64 7, .int .i64 0]) ∧ Below w.heap.size w w' := by
  have h := next_any false false false false false true true A [4] c w 4 hk
  rwa [hd_next] at h
theorem hd_a1 (hk : Kal w A [4] c) : Calls Tryd.prog 17 #[calE A 1 c, .int .i64 3, .int .i64 1] w fun e w' => e = .returned (.tuple #[.int .i64 7, .int .i64 0]) ∧ Below w.heap.size w w' := by
  have h := add_any false false false false false true true A [4] c w 3 1 hk
  rwa [hd_add] at h
theorem hd_a2 (hk : Kal w A [4] c) : Calls Tryd.prog 17 #[calE A 1 c, .int .i64 3, .int .i64 100000] w fun e w' => e = .returned (.tuple #[.int .i64 0, .int .i64 2]) ∧ Below w.heap.size w w' := by
  have h := add_any false false false false false true true A [4] c w 3 100000 hk
  rwa [hd_add2] at h
theorem hd_co (hk : Kal w A [4] c) : Calls Tryd.prog 18 #[calE A 1 c, .int .i64 0, .int .i64 8] w fun e w' => e = .returned (.tuple #[.int .i64 5, .int .i64 0]) ∧ Below w.heap.size w w' := by
  have h := Count_any false false false false false true true A [4] c w 0 8 hk
  rwa [hd_count] at h
theorem hd_v1 (hk : Kal w A [4] c) : Calls Tryd.prog 20 #[calE A 1 c] w fun e w' => e = .returned (.bool true) ∧ Below w.heap.size w w' := by
  have h := valid_any false false false false false true true A [4] c w hk.hl hk.hm
  rwa [show vldC ⟨[false, false, false, false, false, true, true], [4]⟩ = true by decide] at h
theorem hd_v2 (hk : Kal w A [4, 4] c) : Calls Tryd.prog 20 #[calE A 2 c] w fun e w' => e = .returned (.bool false) ∧ Below w.heap.size w w' := by
  have h := valid_any false false false false false true true A [4, 4] c w hk.hl hk.hm
  rwa [show vldC ⟨[false, false, false, false, false, true, true], [4, 4]⟩ = false by decide] at h
theorem hd_b3 (hk : Kal w A [4] c) : Calls Tryd.prog 16 #[calE A 1 c, .int .i64 3] w fun e w' => e = .returned (.bool true) ∧ Below w.heap.size w w' := by
  have h := business_any false false false false false true true A [4] c w 3 hk
  rwa [show bizF ⟨[false, false, false, false, false, true, true], [4]⟩ 3 = true by decide] at h
theorem hd_b4 (hk : Kal w A [4] c) : Calls Tryd.prog 16 #[calE A 1 c, .int .i64 4] w fun e w' => e = .returned (.bool false) ∧ Below w.heap.size w w' := by
  have h := business_any false false false false false true true A [4] c w 4 hk
  rwa [show bizF ⟨[false, false, false, false, false, true, true], [4]⟩ 4 = false by decide] at h
theorem hd_b5 : Calls Tryd.prog 16 #[calE none 0 0, .int .i64 5] w fun e w' => e = .returned (.bool false) ∧ Below w.heap.size w w' := by
  have h := business_any false false false false false true true none [] 0 w 5 (kal0 w)
  rwa [show bizF ⟨[false, false, false, false, false, true, true], []⟩ 5 = false by decide] at h
end
theorem hd_wd (w : World) : Calls Tryd.prog 12 #[.int .i64 3711] w fun e w' => e = .returned (.tuple #[.int .i64 1, .int .i64 0]) ∧ w = w' := weekday_yes 3711 w (by omega)
set_option maxRecDepth 100000 in
set_option maxHeartbeats 1600000 in
theorem head_any (w : World) (ht : Tb w) : Calls Tryd.prog 9 #[] w fun e w' => e = .returned (.bool true) ∧ Below w.heap.size w w' := by
  have HT := Lib.hid ht
  clear ht
  go_enter Tryd.func9, Tryd.ntmps9
  go_upto_region 2 with (go_at_call 10; with_reducible refine (hd_n1 _ (by exact HT.out)).mono ?_; rintro e v1 ⟨rfl, h1⟩)
  have HT1 := Lib.hid (HT.out.below h1)
  have B1 : Below w.heap.size w v1 := h1
  clear HT h1
  go_upto_region 3 with (go_at_call 10; with_reducible refine (hd_n2 _ (by exact HT1.out)).mono ?_; rintro e v2 ⟨rfl, h1⟩)
  have HT2 := Lib.hid (HT1.out.below h1)
  have B2 : Below w.heap.size w v2 := below_then B1 h1
  clear HT1 h1 B1
  go_upto_region 4 with (go_at_call 11; with_reducible refine (hd_c _ (by exact HT2.out)).mono ?_; rintro e v3 ⟨rfl, h1⟩)
  have HT3 := Lib.hid (HT2.out.below h1)
  have B3 : Below w.heap.size w v3 := below_then B2 h1
  clear HT2 h1 B2
  refine name_wp ?_
  intro X hX
  have gX : Blk X v3.heap.size 23 #[.int .i64 1990, .int .i64 3, .int .i64 1] := by rw [hX]; exact Blk.new _ _ _
  have B4 : Below w.heap.size w X := by rw [hX]; exact below_alloc B3 _
  have HTX := Lib.hid (HT3.out.below (show Below v3.heap.size v3 X by rw [hX]; exact below_alloc (Below.refl _ _) _))
  clear hX B3 HT3
  go_upto_region 5 with (go_at_call 12; with_reducible refine (hd_wd _).mono ?_; rintro e v4 ⟨rfl, rfl⟩)
  go_upto_region 6 with (go_at_call 13; with_reducible refine (hd_m1 _ (by exact HTX.out)).mono ?_; rintro e v5 ⟨rfl, h1⟩)
  have HT5 := Lib.hid (HTX.out.below h1)
  have B5 : Below w.heap.size w v5 := below_then B4 h1
  have g5 := gX.then_ h1
  clear HTX h1 B4 gX
  go_upto_region 7 with (go_at_call 13; with_reducible refine (hd_m2 _ (by exact HT5.out)).mono ?_; rintro e v6 ⟨rfl, h1⟩)
  have B6 : Below w.heap.size w v6 := below_then B5 h1
  have g6 := g5.then_ h1
  clear HT5 h1 B5 g5
  have c0 : v6.cell? ⟨v3.heap.size, 0, none⟩ = some (.int .i64 1990) := g6.cell 0
  have c1 : v6.cell? ⟨v3.heap.size, 1, none⟩ = some (.int .i64 3) := g6.cell 1
  have c2 : v6.cell? ⟨v3.heap.size, 2, none⟩ = some (.int .i64 1) := g6.cell 2
  clear g6
  go_upto_region 8 with (fail)
  refine name_wp ?_
  intro Y hY
  have BY : Below w.heap.size w Y := by rw [hY]; (repeat (first | with_reducible assumption | with_reducible refine below_drewN ?_ _ | with_reducible refine Below.drew ?_ | with_reducible refine below_alloc ?_ _ | with_reducible refine Below.setCell ?_ (by first | omega | (simp; done) | (simp; omega)) _ | with_reducible refine below_then ?_ (by with_reducible assumption) | (refine below_then (a := World.drew _) ?_ (by with_reducible assumption))))
  clear hY c0 c1 c2 B6
  go_upto_region 9 with (first | (go_at_call 19; with_reducible refine (hd_wk _ _ _ _).mono ?_; rintro e v7 ⟨rfl, h7⟩; have k7 := Lib.hid ((kal1 (x := 4) (Blk.new Y 3 #[.int .i64 4])).then_ h7); have B7 : Below Y.heap.size Y v7 := below_then (below_alloc (Below.refl _ _) _) h7; clear h7) | (go_at_call 14; with_reducible refine (hd_x _ _ _ k7.out).mono ?_; rintro e v8 ⟨rfl, h8⟩))
  have B8 : Below w.heap.size w v8 := below_then BY (below_then B7 h8)
  clear BY B7 k7 h8
  go_upto_region 10 with (first | (go_at_call 19; with_reducible refine (hd_wk _ _ _ _).mono ?_; rintro e v9 ⟨rfl, h9⟩; have k9 := Lib.hid ((kal1 (x := 4) (Blk.new v8 3 #[.int .i64 4])).then_ h9); have B9 : Below v8.heap.size v8 v9 := below_then (below_alloc (Below.refl _ _) _) h9; clear h9) | (go_at_call 17; with_reducible refine (hd_a1 _ _ _ k9.out).mono ?_; rintro e v10 ⟨rfl, h10⟩))
  have B10 : Below w.heap.size w v10 := below_then B8 (below_then B9 h10)
  clear B8 B9 k9 h10
  go_upto_region 11 with (first | (go_at_call 19; with_reducible refine (hd_wk _ _ _ _).mono ?_; rintro e v11 ⟨rfl, h11⟩; have k11 := Lib.hid ((kal1 (x := 4) (Blk.new v10 3 #[.int .i64 4])).then_ h11); have B11 : Below v10.heap.size v10 v11 := below_then (below_alloc (Below.refl _ _) _) h11; clear h11) | (go_at_call 18; with_reducible refine (hd_co _ _ _ k11.out).mono ?_; rintro e v12 ⟨rfl, h12⟩))
  have B12 : Below w.heap.size w v12 := below_then B10 (below_then B11 h12)
  clear B10 B11 k11 h12
  go_upto_region 12 with (first | (go_at_call 19; with_reducible refine (hd_wk _ _ _ _).mono ?_; rintro e v13 ⟨rfl, h13⟩; have k13 := Lib.hid ((kal1 (x := 4) (Blk.new v12 3 #[.int .i64 4])).then_ h13); have B13 : Below v12.heap.size v12 v13 := below_then (below_alloc (Below.refl _ _) _) h13; clear h13) | (go_at_call 17; with_reducible refine (hd_a2 _ _ _ k13.out).mono ?_; rintro e v14 ⟨rfl, h14⟩))
  have B14 : Below w.heap.size w v14 := below_then B12 (below_then B13 h14)
  clear B12 B13 k13 h14
  go_upto_region 13 with (fail)
  refine name_wp ?_
  intro Z hZ
  have BZ : Below w.heap.size w Z := by rw [hZ]; (repeat (first | with_reducible assumption | with_reducible refine below_drewN ?_ _ | with_reducible refine Below.drew ?_ | with_reducible refine below_alloc ?_ _ | with_reducible refine Below.setCell ?_ (by first | omega | (simp; done) | (simp; omega)) _ | with_reducible refine below_then ?_ (by with_reducible assumption) | (refine below_then (a := World.drew _) ?_ (by with_reducible assumption))))
  clear hZ B14
  have hz := Lib.hid (Below.refl Z.heap.size Z)
  go_wp2_with (first | (go_at_call 19; with_reducible refine (hd_wk _ _ _ _).mono ?_; rintro e vk ⟨rfl, hk⟩; first | (have kk := Lib.hid (Kal.then_ (kal2 (x := 4) (y := 4) (Blk.new _ 3 #[.int .i64 4, .int .i64 4])) hk); replace hz := Lib.hid (below_then hz.out (below_then (below_alloc (Below.refl _ _) _) hk)); clear hk) | (have kk := Lib.hid (Kal.then_ (kal1 (x := 4) (Blk.new _ 3 #[.int .i64 4])) hk); replace hz := Lib.hid (below_then hz.out (below_then (below_alloc (Below.refl _ _) _) hk)); clear hk) | (replace hz := Lib.hid (below_then hz.out hk); clear hk)) | (go_at_call 20; first | (with_reducible refine (hd_v1 _ _ _ kk.out).mono ?_; rintro e vk ⟨rfl, hk⟩; replace hz := Lib.hid (below_then hz.out hk); clear hk kk) | (with_reducible refine (hd_v2 _ _ _ kk.out).mono ?_; rintro e vk ⟨rfl, hk⟩; replace hz := Lib.hid (below_then hz.out hk); clear hk kk)) | (go_at_call 16; first | (with_reducible refine (hd_b3 _ _ _ kk.out).mono ?_; rintro e vk ⟨rfl, hk⟩; replace hz := Lib.hid (below_then hz.out hk); clear hk kk) | (with_reducible refine (hd_b4 _ _ _ kk.out).mono ?_; rintro e vk ⟨rfl, hk⟩; replace hz := Lib.hid (below_then hz.out hk); clear hk kk) | (with_reducible refine (hd_b5 _).mono ?_; rintro e vk ⟨rfl, hk⟩; replace hz := Lib.hid (below_then hz.out hk); clear hk)))
  go_ret
  exact ⟨rfl, below_then BZ hz.out⟩
end Go.Proofs.YtikjjhodbijfnaaDoor
