/- The walk of the laws' fixed examples: they hold. -/
import Derived.Test.YthgbdpiihdhfiaaN14
import Derived.Test.YthgbdpiihdhfiaaN16
namespace Go.Proofs.Ythgbdpiihdhfiaa
open Go.RowKit Go.Sort

/-- what a block holds reads as a list -/
theorem seg_blk {w : World} {g : Nat} {t : TypeId} {cs : Array Value} (xs : List Db) (h : Blk w g t cs) (e : cs = (xs.flatMap encD).toArray) : Seg w w.heap.size 4 encD (some ⟨g, 0, none⟩) xs := by
  subst e
  intro k x hx
  refine ⟨g, 0, rfl, h.lt, fun j u hu => ?_⟩
  rw [h.cell]
  have hj : j < 4 := (List.getElem?_eq_some_iff.1 hu).1
  have := getElem?_flatMap (enc := encD) encD_len xs k j x hx hj
  simp only [Nat.zero_add, List.getElem?_toArray]
  rw [this]; exact hu
theorem seg_of {α : Type} {w w' : World} {size : Nat} {enc : α → List Value} {A : Option Addr} {xs : List α} (h : Seg w w.heap.size size enc A xs) (hb : Below w.heap.size w w') : Seg w' w'.heap.size size enc A xs := (h.below hb).more hb.size
/-- the slice of a list, as the callers see it -/
def GotD (w' : World) (n : Nat) (z : Int) (ys : List Db) (e : Ending) : Prop := ∃ A c, e = .returned (.tuple #[.slice A n c, .int .i64 z]) ∧ Seg w' w'.heap.size 4 encD A ys
theorem ex_net (l ys : List Db) (hv : validD (3 : Nat) l = true) (hn : netL l 3 = some ys) (hf : ∀ x ∈ l, fitD x) (A : Option Addr) (c : Nat) (W : World) (hm : Seg W W.heap.size 4 encD A l) :
    Calls Try.prog 14 #[.int .i64 (3 : Nat), .slice A l.length c] W fun e w' => GotD w' ys.length 0 ys e ∧ Below W.heap.size W w' := by
  refine (net_any 3 A c l W hv hf hm).mono fun e w' ⟨h1, h2⟩ => ⟨?_, h2⟩
  rw [hn] at h1
  obtain ⟨v, rfl, hO⟩ := h1
  obtain ⟨A', c', rfl, _, hs⟩ := hO.seg encD_len
  exact ⟨A', c', rfl, hs⟩
theorem ex_pairs (l ys : List Db) (hv : validD (3 : Nat) l = true) (hn : prF l 3 3 = some ys) (hf : ∀ x ∈ l, fitD x) (A : Option Addr) (c : Nat) (W : World) (hm : Seg W W.heap.size 4 encD A l) :
    Calls Try.prog 12 #[.int .i64 (3 : Nat), .slice A l.length c] W fun e w' => GotD w' ys.length 0 ys e ∧ Below W.heap.size W w' := by
  refine (pairs_any 3 A c l W hv hf hm).mono fun e w' ⟨h1, h2⟩ => ⟨?_, h2⟩
  rw [hn] at h1
  obtain ⟨v, rfl, hO⟩ := h1
  obtain ⟨A', c', rfl, _, hs⟩ := hO.seg encD_len
  exact ⟨A', c', rfl, hs⟩
theorem fit_x {l : List Db} (h : l.all (fun x => decide (0 ≤ x.f ∧ x.f ≤ 5) && decide (0 ≤ x.t ∧ x.t ≤ 5) && decide (0 ≤ x.n ∧ x.n ≤ 5) && decide (0 ≤ x.d ∧ x.d ≤ 5)) = true) : ∀ x ∈ l, fitD x := by
  intro x hx
  have := List.all_eq_true.1 h x hx
  simp only [Bool.and_eq_true, decide_eq_true_eq] at this
  exact ⟨by omega, by omega, by omega, by omega⟩
section
variable (A : Option Addr) (c : Nat) (W : World)
theorem n1 (hm : Seg W W.heap.size 4 encD A x1) : Calls Try.prog 14 #[.int .i64 3, .slice A 2 c] W fun e w' => GotD w' 1 0 [⟨0, 2, 5, 1⟩] e ∧ Below W.heap.size W w' := ex_net x1 _ x1_v x1_n (fit_x (by decide)) A c W hm
theorem n2 (hm : Seg W W.heap.size 4 encD A x2) : Calls Try.prog 14 #[.int .i64 3, .slice A 3 c] W fun e w' => GotD w' 0 0 [] e ∧ Below W.heap.size W w' := ex_net x2 _ x2_v x2_n (fit_x (by decide)) A c W hm
theorem n3 (hm : Seg W W.heap.size 4 encD A x3) : Calls Try.prog 14 #[.int .i64 3, .slice A 2 c] W fun e w' => GotD w' 1 0 [⟨0, 1, 1, 6⟩] e ∧ Below W.heap.size W w' := ex_net x3 _ x3_v x3_n (fit_x (by decide)) A c W hm
theorem n4 (hm : Seg W W.heap.size 4 encD A x4) : Calls Try.prog 14 #[.int .i64 3, .slice A 2 c] W fun e w' => GotD w' 2 0 [⟨0, 2, 4, 1⟩, ⟨1, 2, 3, 1⟩] e ∧ Below W.heap.size W w' := ex_net x4 _ x4_v x4_n (fit_x (by decide)) A c W hm
theorem n5 (hm : Seg W W.heap.size 4 encD A x5) : Calls Try.prog 12 #[.int .i64 3, .slice A 3 c] W fun e w' => GotD w' 2 0 [⟨1, 0, 1, 6⟩, ⟨1, 2, 5, 1⟩] e ∧ Below W.heap.size W w' := ex_pairs x5 _ x5_v x5_p (fit_x (by decide)) A c W hm
theorem n6 (hm : Seg W W.heap.size 4 encD A x6) : Calls Try.prog 14 #[.int .i64 3, .slice A 1 c] W fun e w' => e = .returned (.tuple #[.slice none 0 0, .int .i64 1]) ∧ Below W.heap.size W w' := net_bad 3 A c x6 W x6_v (by decide) (by decide) (by decide) (fit_x (by decide)) hm
end
theorem same1 (x : Db) (A A' : Option Addr) (c c' : Nat) (w : World) (hm : Seg w w.heap.size 4 encD A [x]) (hm' : Seg w w.heap.size 4 encD A' [x]) :
    Calls Try.prog 19 #[.slice A 1 c, .slice A' 1 c'] w fun e w' => e = .returned (.bool true) ∧ Below w.heap.size w w' := same_eq A A' c c' [x] w (by simp) hm hm'
theorem same2 (x y : Db) (A A' : Option Addr) (c c' : Nat) (w : World) (hm : Seg w w.heap.size 4 encD A [x, y]) (hm' : Seg w w.heap.size 4 encD A' [x, y]) :
    Calls Try.prog 19 #[.slice A 2 c, .slice A' 2 c'] w fun e w' => e = .returned (.bool true) ∧ Below w.heap.size w w' := same_eq A A' c c' [x, y] w (by simp) hm hm'

set_option maxRecDepth 100000 in
set_option maxHeartbeats 1600000 in
theorem head_any (w : World) : Calls Try.prog 9 #[] w fun e w' => e = .returned (.bool true) ∧ Below w.heap.size w w' := by
  go_enter Try.func9, Try.ntmps9
  go_upto_region 2 with (first | (go_at_call 25; refine (debt_any _ _ _ _ _).mono ?_; rintro e wd ⟨rfl, hbd⟩) | (go_at_call 14; refine (n1 _ _ _ (by exact seg_blk x1 (Blk.new _ _ _) rfl)).mono ?_; rintro e v1 ⟨⟨A1, c1, rfl, S1⟩, hbn⟩))
  have B1 : Below w.heap.size w v1 := by (repeat (first | with_reducible assumption | with_reducible refine below_drewN ?_ _ | with_reducible refine Below.drew ?_ | with_reducible refine below_alloc ?_ _ | with_reducible refine Below.setCell ?_ (by first | omega | (simp; done) | (simp; omega)) _ | with_reducible refine below_then ?_ (by with_reducible assumption) | (refine below_then (a := World.drew _) ?_ (by with_reducible assumption))))
  clear hbn hbd
  go_upto_region 3 with (first | (go_at_call 25; refine (debt_any _ _ _ _ _).mono ?_; rintro e wd ⟨rfl, hbd⟩) | (go_at_call 14; refine (n2 _ _ _ (by exact seg_blk x2 (Blk.new _ _ _) rfl)).mono ?_; rintro e v2 ⟨⟨A2, c2, rfl, S2⟩, hbn⟩))
  have B2 : Below v1.heap.size v1 v2 := by (repeat (first | with_reducible assumption | with_reducible refine below_drewN ?_ _ | with_reducible refine Below.drew ?_ | with_reducible refine below_alloc ?_ _ | with_reducible refine Below.setCell ?_ (by first | omega | (simp; done) | (simp; omega)) _ | with_reducible refine below_then ?_ (by with_reducible assumption) | (refine below_then (a := World.drew _) ?_ (by with_reducible assumption))))
  clear hbn hbd
  go_upto_region 4 with (first | (go_at_call 25; refine (debt_any _ _ _ _ _).mono ?_; rintro e wd ⟨rfl, hbd⟩) | (go_at_call 14; refine (n3 _ _ _ (by exact seg_blk x3 (Blk.new _ _ _) rfl)).mono ?_; rintro e v3 ⟨⟨A3, c3, rfl, S3⟩, hbn⟩))
  have B3 : Below v2.heap.size v2 v3 := by (repeat (first | with_reducible assumption | with_reducible refine below_drewN ?_ _ | with_reducible refine Below.drew ?_ | with_reducible refine below_alloc ?_ _ | with_reducible refine Below.setCell ?_ (by first | omega | (simp; done) | (simp; omega)) _ | with_reducible refine below_then ?_ (by with_reducible assumption) | (refine below_then (a := World.drew _) ?_ (by with_reducible assumption))))
  clear hbn hbd
  go_upto_region 5 with (first | (go_at_call 25; refine (debt_any _ _ _ _ _).mono ?_; rintro e wd ⟨rfl, hbd⟩) | (go_at_call 14; refine (n4 _ _ _ (by exact seg_blk x4 (Blk.new _ _ _) rfl)).mono ?_; rintro e v4 ⟨⟨A4, c4, rfl, S4⟩, hbn⟩))
  have B4 : Below v3.heap.size v3 v4 := by (repeat (first | with_reducible assumption | with_reducible refine below_drewN ?_ _ | with_reducible refine Below.drew ?_ | with_reducible refine below_alloc ?_ _ | with_reducible refine Below.setCell ?_ (by first | omega | (simp; done) | (simp; omega)) _ | with_reducible refine below_then ?_ (by with_reducible assumption) | (refine below_then (a := World.drew _) ?_ (by with_reducible assumption))))
  clear hbn hbd
  go_upto_region 6 with (first | (go_at_call 25; refine (debt_any _ _ _ _ _).mono ?_; rintro e wd ⟨rfl, hbd⟩) | (go_at_call 12; refine (n5 _ _ _ (by exact seg_blk x5 (Blk.new _ _ _) rfl)).mono ?_; rintro e v5 ⟨⟨A5, c5, rfl, S5⟩, hbn⟩))
  have B5 : Below v4.heap.size v4 v5 := by (repeat (first | with_reducible assumption | with_reducible refine below_drewN ?_ _ | with_reducible refine Below.drew ?_ | with_reducible refine below_alloc ?_ _ | with_reducible refine Below.setCell ?_ (by first | omega | (simp; done) | (simp; omega)) _ | with_reducible refine below_then ?_ (by with_reducible assumption) | (refine below_then (a := World.drew _) ?_ (by with_reducible assumption))))
  clear hbn hbd
  go_upto_region 7 with (first | (go_at_call 25; refine (debt_any _ _ _ _ _).mono ?_; rintro e wd ⟨rfl, hbd⟩) | (go_at_call 14; refine (n6 _ _ _ (by exact seg_blk x6 (Blk.new _ _ _) rfl)).mono ?_; rintro e v6 ⟨rfl, hbn⟩))
  have B6 : Below v5.heap.size v5 v6 := by (repeat (first | with_reducible assumption | with_reducible refine below_drewN ?_ _ | with_reducible refine Below.drew ?_ | with_reducible refine below_alloc ?_ _ | with_reducible refine Below.setCell ?_ (by first | omega | (simp; done) | (simp; omega)) _ | with_reducible refine below_then ?_ (by with_reducible assumption) | (refine below_then (a := World.drew _) ?_ (by with_reducible assumption))))
  clear hbn hbd
  have T1 := seg_of S1 (below_then B2 (below_then B3 (below_then B4 (below_then B5 B6))))
  have T3 := seg_of S3 (below_then B4 (below_then B5 B6))
  have T4 := seg_of S4 (below_then B5 B6)
  have T5 := seg_of S5 B6
  have BW := below_then B1 (below_then B2 (below_then B3 (below_then B4 (below_then B5 B6))))
  clear S1 S2 S3 S4 S5 B1 B2 B3 B4 B5 B6
  have TT := Lib.hid (And.intro T1 (And.intro T3 (And.intro T4 T5)))
  clear T1 T3 T4 T5
  go_upto_region 8 with (first | (go_at_call 25; refine (debt_any _ _ _ _ _).mono ?_; rintro e wd ⟨rfl, hbd⟩; have hbd' : Below v6.heap.size v6 wd := (by (repeat (first | with_reducible assumption | with_reducible refine below_drewN ?_ _ | with_reducible refine Below.drew ?_ | with_reducible refine below_alloc ?_ _ | with_reducible refine Below.setCell ?_ (by first | omega | (simp; done) | (simp; omega)) _ | with_reducible refine below_then ?_ (by with_reducible assumption) | (refine below_then (a := World.drew _) ?_ (by with_reducible assumption)))))) | (go_at_call_of 19 (Value.slice A1 1 c1); refine (same1 ⟨0, 2, 5, 1⟩ _ _ _ _ _ (by exact seg_of TT.out.1 (below_alloc hbd' _)) (by exact seg_blk [⟨0, 2, 5, 1⟩] (Blk.new _ _ _) rfl)).mono ?_; rintro e ws ⟨rfl, hbs⟩; have hbs' : Below v6.heap.size v6 ws := (by (repeat (first | with_reducible assumption | with_reducible refine below_drewN ?_ _ | with_reducible refine Below.drew ?_ | with_reducible refine below_alloc ?_ _ | with_reducible refine Below.setCell ?_ (by first | omega | (simp; done) | (simp; omega)) _ | with_reducible refine below_then ?_ (by with_reducible assumption) | (refine below_then (a := World.drew _) ?_ (by with_reducible assumption))))); clear hbs hbd' hbd) | (go_at_call_of 19 (Value.slice A3 1 c3); refine (same1 ⟨0, 1, 1, 6⟩ _ _ _ _ _ (by exact seg_of TT.out.2.1 (below_alloc hbd' _)) (by exact seg_blk [⟨0, 1, 1, 6⟩] (Blk.new _ _ _) rfl)).mono ?_; rintro e wt ⟨rfl, hbt⟩; have hbt' : Below v6.heap.size v6 wt := (by (repeat (first | with_reducible assumption | with_reducible refine below_drewN ?_ _ | with_reducible refine Below.drew ?_ | with_reducible refine below_alloc ?_ _ | with_reducible refine Below.setCell ?_ (by first | omega | (simp; done) | (simp; omega)) _ | with_reducible refine below_then ?_ (by with_reducible assumption) | (refine below_then (a := World.drew _) ?_ (by with_reducible assumption))))); clear hbt hbd' hbd))
  have BT : Below v6.heap.size v6 wt := by assumption
  have TT' := Lib.hid (And.intro (seg_of TT.out.2.2.1 BT) (seg_of TT.out.2.2.2 BT))
  have BW' := below_then BW BT
  clear TT BT BW hbs' hbt'
  go_wp2_with (first | (go_at_call 25; refine (debt_any _ _ _ _ _).mono ?_; rintro e wd ⟨rfl, hbd⟩; have hbd' : Below wt.heap.size wt wd := (by (repeat (first | with_reducible assumption | with_reducible refine below_drewN ?_ _ | with_reducible refine Below.drew ?_ | with_reducible refine below_alloc ?_ _ | with_reducible refine Below.setCell ?_ (by first | omega | (simp; done) | (simp; omega)) _ | with_reducible refine below_then ?_ (by with_reducible assumption) | (refine below_then (a := World.drew _) ?_ (by with_reducible assumption)))))) | (go_at_call_of 19 (Value.slice A4 2 c4); refine (same2 ⟨0, 2, 4, 1⟩ ⟨1, 2, 3, 1⟩ _ _ _ _ _ (by exact seg_of TT'.out.1 (below_alloc hbd' _)) (by exact seg_blk [⟨0, 2, 4, 1⟩, ⟨1, 2, 3, 1⟩] (Blk.new _ _ _) rfl)).mono ?_; rintro e wa ⟨rfl, hba⟩; have hba' : Below wt.heap.size wt wa := (by (repeat (first | with_reducible assumption | with_reducible refine below_drewN ?_ _ | with_reducible refine Below.drew ?_ | with_reducible refine below_alloc ?_ _ | with_reducible refine Below.setCell ?_ (by first | omega | (simp; done) | (simp; omega)) _ | with_reducible refine below_then ?_ (by with_reducible assumption) | (refine below_then (a := World.drew _) ?_ (by with_reducible assumption))))); clear hba hbd' hbd) | (go_at_call_of 19 (Value.slice A5 2 c5); refine (same2 ⟨1, 0, 1, 6⟩ ⟨1, 2, 5, 1⟩ _ _ _ _ _ (by exact seg_of TT'.out.2 (below_alloc hbd' _)) (by exact seg_blk [⟨1, 0, 1, 6⟩, ⟨1, 2, 5, 1⟩] (Blk.new _ _ _) rfl)).mono ?_; rintro e wb ⟨rfl, hbb⟩; have hbb' : Below wt.heap.size wt wb := (by (repeat (first | with_reducible assumption | with_reducible refine below_drewN ?_ _ | with_reducible refine Below.drew ?_ | with_reducible refine below_alloc ?_ _ | with_reducible refine Below.setCell ?_ (by first | omega | (simp; done) | (simp; omega)) _ | with_reducible refine below_then ?_ (by with_reducible assumption) | (refine below_then (a := World.drew _) ?_ (by with_reducible assumption))))); clear hbb hbd' hbd))
  go_ret
  exact ⟨rfl, by (repeat (first | with_reducible assumption | with_reducible refine below_drewN ?_ _ | with_reducible refine Below.drew ?_ | with_reducible refine below_alloc ?_ _ | with_reducible refine Below.setCell ?_ (by first | omega | (simp; done) | (simp; omega)) _ | with_reducible refine below_then ?_ (by with_reducible assumption) | (refine below_then (a := World.drew _) ?_ (by with_reducible assumption))))⟩
end Go.Proofs.Ythgbdpiihdhfiaa
