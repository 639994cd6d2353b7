/- The walks of date.search, Business, Add, Next, Count. -/
import Derived.Test.YtikjjhodbijfnaaDoorD08
import Derived.Test.YtikjjhodbijfnaaDoorD04
namespace Go.Proofs.YtikjjhodbijfnaaDoor
open Go.RowKit Go.Sort

theorem size_alloc (w : World) (o : Obj) : (w.alloc o).heap.size = w.heap.size + 1 := by
  show (w.heap.push o).size = _
  simp
set_option maxHeartbeats 1600000 in
theorem search_any (b0 b1 b2 b3 b4 b5 b6 : Bool) (A : Option Addr) (hs : List Int) (c : Nat) (w : World) (a : Nat) (m : Int) (hl : hs.length ≤ 400) (hc : hs.length ≤ c) (hp : hs.Pairwise (· < ·)) (hr : ∀ x ∈ hs, 0 ≤ x ∧ x ≤ 73048)
    (hA : A = none → c = 0) (ha : a ≤ 73049) (hm : Seg w w.heap.size 1 encI A hs) :
    Calls Tryd.prog 26 #[.agg (calA b0 b1 b2 b3 b4 b5 b6 (.slice A hs.length c)), .int .i64 a, .int .i64 m] w fun e w' =>
      (∃ i : Nat, IsNth (bizC ⟨[b0, b1, b2, b3, b4, b5, b6], hs⟩) a m (73049 - a) i ∧ e = .returned (.tuple #[.int .i64 (if i = 73049 - a then 0 else a + i), .int .i64 (if i = 73049 - a then 2 else 0)])) ∧ Below w.heap.size w w' := by
  obtain ⟨F, hF⟩ : ∃ F, F = bizC ⟨[b0, b1, b2, b3, b4, b5, b6], hs⟩ := ⟨_, rfl⟩
  rw [← hF]
  have hmf : ∀ (fn : Fn) (first cap : Array Value) (w : World), (Instr.makeFunc fn first cap).run Tryd.prog w = .ok (.func fn first cap) w := fun _ _ _ _ => rfl
  have HM := Lib.hid hm
  have HP := Lib.hid hp
  have HH := Lib.hid hr
  clear hm hp hr
  go_enter Tryd.func26, Tryd.ntmps26
  go_upto_region 1 with (fail)
  refine name_wp ?_
  intro X hX
  have gC : Blk X w.heap.size 39 (calA b0 b1 b2 b3 b4 b5 b6 (.slice A hs.length c)) := by rw [hX]; exact ((Blk.new _ _ _).alloc _).alloc _
  have gF : Blk X (w.heap.size + 1) 3 #[.int .i64 a] := by rw [hX, ← size_alloc w (.cells (calA b0 b1 b2 b3 b4 b5 b6 (.slice A hs.length c)) 39)]; exact (Blk.new _ _ _).alloc _
  have gN : Blk X (w.heap.size + 1 + 1) 3 #[.int .i64 m] := by
    rw [hX, ← size_alloc w (.cells (calA b0 b1 b2 b3 b4 b5 b6 (.slice A hs.length c)) 39), ← size_alloc (w.alloc _) (.cells #[.int .i64 a] 3)]; exact Blk.new _ _ _
  have hbX : Below w.heap.size w X := by rw [hX]; exact below_alloc (below_alloc (below_alloc (Below.refl _ _) _) _) _
  have HS := Lib.hid ((HM.out.keep (w' := X) (bcell hbX).1).more hbX.size)
  have HC := Lib.hid (ssearch_any b0 b1 b2 b3 b4 b5 b6 A hs c X w.heap.size (w.heap.size + 1) (w.heap.size + 1 + 1) a (73049 - a) m hl hc HP.out HH.out hA (by omega) HS.out ⟨gC, gF, gN⟩)
  rw [← hF] at HC
  have f0 : X.cell? ⟨w.heap.size + 1, 0, none⟩ = some (.int .i64 a) := gF.cell 0
  have FF := Lib.hid gF
  clear hX gC gF gN HM HP HH hF
  obtain ⟨d, hd⟩ : ∃ d : Nat, d = 73049 - a := ⟨_, rfl⟩
  rw [← hd] at HC
  have HD := Lib.hid (show (73049 : Int) - a = (d : Int) by omega)
  have HG := Lib.hid hd
  clear hd
  go_upto_region 2 with (fail)
  rw [HD.out]
  go_upto_region 3 with (go_at_call 33; with_reducible refine HC.out.mono ?_; rintro e w1 ⟨⟨i, rfl, hI⟩, hb1⟩)
  have HI := Lib.hid hI
  have f1 : w1.cell? ⟨w.heap.size + 1, 0, none⟩ = some (.int .i64 a) := (FF.out.then_ hb1).cell 0
  have hid : i ≤ d := hI.1
  have hbw := below_then hbX hb1
  clear hI HC
  by_cases hq : i = d
  · subst hq
    go_wp2
    go_ret2
    exact ⟨⟨i, by rw [← HG.out]; exact HI.out, tup_ii (if_pos HG.out).symm (if_pos HG.out).symm⟩, hbw⟩
  · have hai : (a : Int) + i ≤ 73049 := by have := HG.out; omega
    go_wp2
    go_ret2
    exact ⟨⟨i, by rw [← HG.out]; exact HI.out, tup_ii (if_neg (by rw [← HG.out]; exact hq)).symm (if_neg (by rw [← HG.out]; exact hq)).symm⟩, hbw⟩
/-- the first i below days with the count reached, or days -/
def nthF (f : Int → Bool) (a m : Int) (days : Nat) : Nat := ((List.range days).find? fun i => decide (m ≤ cnt f a (i + 1))).getD days
theorem nthF_is (f : Int → Bool) (a m : Int) (days : Nat) : IsNth f a m days (nthF f a m days) := by
  unfold nthF
  cases h : (List.range days).find? fun i => decide (m ≤ cnt f a (i + 1)) with
  | none =>
    refine ⟨Nat.le_refl _, fun j hj => ?_, fun hd => by simp at hd⟩
    have := List.find?_eq_none.1 h j (List.mem_range.2 (by simpa using hj))
    simp at this; omega
  | some i =>
    obtain ⟨h1, l1, l2, h2, h3⟩ := List.find?_eq_some_iff_append.1 h
    have hi : i < days := List.mem_range.1 (List.mem_of_find?_eq_some h)
    refine ⟨by simp; omega, fun j hj => ?_, fun _ => by simpa using h1⟩
    simp at hj
    have hjm : j ∈ l1 := by
      have hm : j ∈ l1 ++ i :: l2 := by rw [← h2]; exact List.mem_range.2 (by omega)
      rcases List.mem_append.1 hm with hm | hm
      · exact hm
      · rcases List.mem_cons.1 hm with rfl | hm
        · omega
        · have hs := List.pairwise_lt_range (n := days)
          rw [h2] at hs
          have := (List.pairwise_cons.1 (List.pairwise_append.1 hs).2.1).1 j hm
          omega
    have := h3 j hjm
    simp at this; omega
/-- what search gives -/
def srchF (c : Cld) (a m : Int) : Int × Int := let d := (73049 - a).toNat; let i := nthF (bizC c) a m d; if i = d then (0, 2) else (a + i, 0)
def addF (c : Cld) (x n : Int) : Int × Int := if vldC c && (isD x && decide (0 ≤ n)) then (if n = 0 then srchF c x 1 else srchF c (x + 1) n) else (0, 1)
def nextF (c : Cld) (x : Int) : Int × Int := addF c x 0
def countF (c : Cld) (a b : Int) : Int × Int := if vldC c && (isD a && (isD b && decide (a ≤ b))) then (cnt (bizC c) a (b - a).toNat, 0) else (0, 1)
def bizF (c : Cld) (x : Int) : Bool := isD x && (vldC c && bizC c x)
theorem vld_get {c : Cld} (h : vldC c = true) : c.hs.length ≤ 400 ∧ c.hs.Pairwise (· < ·) ∧ ∀ x ∈ c.hs, 0 ≤ x ∧ x ≤ 73048 := by
  simp only [vldC, Bool.and_eq_true, decide_eq_true_eq, List.all_eq_true] at h
  exact ⟨h.2.1, h.2.2.1, fun x hx => by simpa using h.2.2.2 x hx⟩
theorem srchF_any (b0 b1 b2 b3 b4 b5 b6 : Bool) (A : Option Addr) (hs : List Int) (c : Nat) (w : World) (a m : Int) (hv : vldC ⟨[b0, b1, b2, b3, b4, b5, b6], hs⟩ = true) (hc : hs.length ≤ c)
    (hA : A = none → c = 0) (ha0 : 0 ≤ a) (ha : a ≤ 73049) (hm : Seg w w.heap.size 1 encI A hs) :
    Calls Tryd.prog 26 #[.agg (calA b0 b1 b2 b3 b4 b5 b6 (.slice A hs.length c)), .int .i64 a, .int .i64 m] w fun e w' =>
      e = .returned (.tuple #[.int .i64 (srchF ⟨[b0, b1, b2, b3, b4, b5, b6], hs⟩ a m).1, .int .i64 (srchF ⟨[b0, b1, b2, b3, b4, b5, b6], hs⟩ a m).2]) ∧ Below w.heap.size w w' := by
  obtain ⟨n, rfl⟩ := Int.eq_ofNat_of_zero_le ha0
  obtain ⟨v1, v2, v3⟩ := vld_get hv
  refine (search_any b0 b1 b2 b3 b4 b5 b6 A hs c w n m v1 hc v2 v3 hA (by omega) hm).mono ?_
  rintro e w1 ⟨⟨i, hi, rfl⟩, hb⟩
  have e1 : (73049 - (n : Int)).toNat = 73049 - n := by omega
  have e2 : nthF (bizC ⟨[b0, b1, b2, b3, b4, b5, b6], hs⟩) n m (73049 - n) = i := (nthF_is _ _ _ _).uniq hi
  refine ⟨?_, hb⟩
  unfold srchF
  simp only [e1, e2]
  split <;> rfl
end Go.Proofs.YtikjjhodbijfnaaDoor
