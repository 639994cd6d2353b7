/- The walk of cascade.bears: who bears on whom. -/
import Derived.Test.YteoicnhnpailiaaCd1
namespace Go.Proofs.Yteoicnhnpailiaa
open Go.RowKit Go.Sort

theorem any_of {α : Type} {f : α → Bool} {l : List α} {k : Nat} {x : α} (hx : l[k]? = some x) (h : f x = true) : l.any f = true := List.any_eq_true.2 ⟨x, List.mem_of_getElem? hx, h⟩
set_option maxRecDepth 100000 in
set_option maxHeartbeats 1600000 in
theorem bears_any (p : Pf) (m : Ms) (x y : Int) (w : World) (hv : VP p) (hm : Pm w p m) :
    Calls Try.prog 39 #[.agg (pfA p m), .int .i64 x, .int .i64 y] w fun e w' => e = .returned (.bool (bea p x y)) ∧ Below w.heap.size w w' := by
  have HM := Lib.hid hm
  have hlt := hv.ltr
  have hlg := hv.lgu
  clear hv hm
  obtain ⟨f, hf⟩ : ∃ f : Gu → Bool, f = fun g => g.b == y && (g.x == x || trg p x g.x) := ⟨_, rfl⟩
  have HF : Hid (bea p x y = (trg p x y || p.gu.any f)) := by rw [Hid, hf]; rfl
  have HFF : Hid (∀ g, f g = (g.b == y && (g.x == x || trg p x g.x))) := by rw [Hid, hf]; exact fun _ => rfl
  clear hf
  go_enter Try.func39, Try.ntmps39
  go_upto_region 2 with (fail)
  refine name_wp ?_
  intro X hX
  have gP : Blk X w.heap.size 27 (pfA p m) := by rw [hX]; exact (Blk.new _ _ _).alloc _
  have gX : Blk X (w.heap.size + 1) 3 #[.int .i64 x] := by rw [hX]; exact blk_new1 w _ _ _
  have hbX : Below w.heap.size w X := by rw [hX]; exact below_alloc (below_alloc (Below.refl _ _) _) _
  have HX := Lib.hid hbX
  have GP := Lib.hid gP
  have GX := Lib.hid gX
  have HB : Hid (∀ (W : World) (z : Int), Below X.heap.size X W → Calls Try.prog 54 #[.int .i64 z, .pointer (some ⟨w.heap.size, 0, none⟩), .pointer (some ⟨w.heap.size + 1, 0, none⟩)] W fun e w' => e = .returned (.bool (trg p x z)) ∧ Below W.heap.size W w') := fun W z hW => bears1_any p m x z _ _ W hlt ((HM.out.then_ (below_then HX.out hW)).s5) (GP.out.then_ hW) (GX.out.then_ hW)
  have HZ := Lib.hid (Below.refl X.heap.size X)
  clear hX gP gX hbX
  rcases hbb (trg p x y) with ht | ht
  · have HT := Lib.hid ht
    have HB1 : Hid (Calls Try.prog 54 #[.int .i64 y, .pointer (some ⟨w.heap.size, 0, none⟩), .pointer (some ⟨w.heap.size + 1, 0, none⟩)] X fun e w' => e = .returned (.bool true) ∧ Below X.heap.size X w') := by
      have := HB.out X y HZ.out
      rwa [ht] at this
    clear ht
    go_wp2_with (go_at_call 54; (with_reducible refine HB1.out.mono ?_); rintro e w1 ⟨rfl, hk⟩)
    go_ret
    exact ⟨ret_bool (by rw [HF.out, HT.out]; rfl), below_then HX.out hk⟩
  · have HT := Lib.hid ht
    have HB1 : Hid (Calls Try.prog 54 #[.int .i64 y, .pointer (some ⟨w.heap.size, 0, none⟩), .pointer (some ⟨w.heap.size + 1, 0, none⟩)] X fun e w' => e = .returned (.bool false) ∧ Below X.heap.size X w') := by
      have := HB.out X y HZ.out
      rwa [ht] at this
    clear ht
    go_upto_region 4 with (go_at_call 54; (with_reducible refine HB1.out.mono ?_); rintro e w1 ⟨rfl, hk⟩)
    have H1 := Lib.hid hk
    obtain ⟨_, _, _, _, k4, _⟩ := pfCells (GP.out.then_ hk)
    have lP := (GP.out.then_ hk).lt
    clear hk
    go_upto_region 5 with (fail)
    clear k4 lP
    go_loopw [17] (fun v WR => ∃ k : Nat, k ≤ p.gu.length ∧ v = .int .i64 k ∧ Hid ((p.gu.take k).any f = false) ∧ Below X.heap.size X WR) (fun v _ => p.gu.length - (intOf v).toNat)
    case atStart => exact ⟨0, by omega, rfl, by simp [Hid], H1.out⟩
    case round =>
      obtain ⟨k, hk, rfl, hN, hbr⟩ := hrel
      have HBR := Lib.hid hbr
      by_cases hlt' : k < p.gu.length
      · obtain ⟨g, hg⟩ : ∃ g, p.gu[k]? = some g := ⟨_, List.getElem?_eq_getElem hlt'⟩
        obtain ⟨b, off, ea, hb, c0, c1, c2⟩ := segG (HM.out.s4.below (below_then HX.out hbr)) hg
        have hbl : b < wr.heap.size := Nat.lt_of_lt_of_le hb (below_then HX.out hbr).size
        have HTK := Lib.hid (take_any (f := f) hg)
        have HG := Lib.hid hg
        have xr : wr.cell? ⟨w.heap.size + 1, 0, none⟩ = some (.int .i64 x) := (GX.out.then_ hbr).cell 0
        have lx := (GX.out.then_ hbr).lt
        have HBB := Lib.hid (fun o => HB.out _ g.x (below_alloc hbr o))
        rw [ea]
        clear hg ea hbr
        rcases hbb (g.b == y) with h1 | h1
        · rcases hbb (g.x == x) with h2 | h2
          · have HC : Hid (f g = true) := by rw [Hid, HFF.out, h1, h2]; rfl
            go_wp2
            go_ret
            exact ⟨ret_bool (by rw [HF.out, any_of HG.out HC.out]; simp), below_then HX.out (below_alloc HBR.out _)⟩
          · rcases hbb (trg p x g.x) with h3 | h3
            · have HC : Hid (f g = true) := by rw [Hid, HFF.out, h1, h3]; simp
              rw [h3] at HBB
              clear h3
              go_wp2_with (go_at_call 54; (with_reducible refine (HBB.out _).mono ?_); rintro e w6 ⟨rfl, hk6⟩)
              go_ret
              exact ⟨ret_bool (by rw [HF.out, any_of HG.out HC.out]; simp), below_then HX.out (below_then (below_alloc HBR.out _) hk6)⟩
            · have HC : Hid (f g = false) := by rw [Hid, HFF.out, h2, h3]; simp
              rw [h3] at HBB
              clear h3
              go_wp2_with (go_at_call 54; (with_reducible refine (HBB.out _).mono ?_); rintro e w6 ⟨rfl, hk6⟩)
              go_roundw
              case rel => exact ⟨k + 1, by omega, by go_num, by rw [HTK.out, hN.out, HC.out]; rfl, below_then (below_alloc HBR.out _) hk6⟩
              case measure => simp [intOf]; omega
        · have HC : Hid (f g = false) := by rw [Hid, HFF.out, h1]; rfl
          go_wp2
          go_roundw
          case rel => exact ⟨k + 1, by omega, by go_num, by rw [HTK.out, hN.out, HC.out]; rfl, below_alloc HBR.out _⟩
          case measure => simp [intOf]; omega
      · obtain rfl : k = p.gu.length := by omega
        have HC : Hid (p.gu.any f = false) := by
          have := hN.out
          rwa [List.take_length] at this
        go_wp2
        go_ret
        exact ⟨ret_bool (by rw [HF.out, HT.out, HC.out]; rfl), below_then HX.out HBR.out⟩
end Go.Proofs.Yteoicnhnpailiaa
