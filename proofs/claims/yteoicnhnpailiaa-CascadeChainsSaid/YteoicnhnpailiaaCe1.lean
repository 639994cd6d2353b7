/- The walks of the reference's helpers Ints, trigger, Bears, and of 'of'. -/
import Derived.Test.YteoicnhnpailiaaCd2
import Derived.Test.YteoicnhnpailiaaCd3
import Derived.Test.YteoicnhnpailiaaCc4
namespace Go.Proofs.Yteoicnhnpailiaa
open Go.RowKit Go.Sort

theorem segN {w : World} {B : Nat} {A : Option Addr} {l : List Int} {k : Nat} {x : Int} (h : Seg w B 1 encN A l) (hx : l[k]? = some x) :
    ∃ b off, A = some ⟨b, off, none⟩ ∧ b < B ∧ w.cell? ⟨b, off + k, none⟩ = some (.int .i64 x) := by
  obtain ⟨b, off, e, hb, hc⟩ := h k x hx
  exact ⟨b, off, e, hb, by simpa using hc 0 _ rfl⟩
set_option maxRecDepth 100000 in
set_option maxHeartbeats 1600000 in
theorem ints_eq (A B : Option Addr) (c d : Nat) (a : List Int) (w : World) (ha : a.length ≤ 1000) (hA : Seg w w.heap.size 1 encN A a) (hB : Seg w w.heap.size 1 encN B a) :
    Calls Try.prog 29 #[.slice A a.length c, .slice B a.length d] w fun e w' => e = .returned (.bool true) ∧ Below w.heap.size w w' := by
  have HA := Lib.hid hA
  have HB := Lib.hid hB
  clear hA hB
  go_enter Try.func29, Try.ntmps29
  go_upto_region 4 with (fail)
  go_loopw [5] (fun x wr => ∃ k : Nat, k ≤ a.length ∧ x = .int .i64 k ∧ Below w.heap.size w wr) (fun x _ => 2000 - (intOf x).toNat)
  case atStart => exact ⟨0, by omega, rfl, Below.refl _ _⟩
  case round =>
    obtain ⟨k, hk, rfl, hbr⟩ := hrel
    have HBR := Lib.hid hbr
    by_cases hlt : k < a.length
    · obtain ⟨x, hx⟩ : ∃ x, a[k]? = some x := ⟨_, List.getElem?_eq_getElem hlt⟩
      obtain ⟨b1, o1, ea, hb1, c1⟩ := segN (HA.out.below hbr) hx
      obtain ⟨b2, o2, eb, hb2, c2⟩ := segN (HB.out.below hbr) hx
      have hbl1 : b1 < wr.heap.size := Nat.lt_of_lt_of_le hb1 hbr.size
      have hbl2 : b2 < wr.heap.size := Nat.lt_of_lt_of_le hb2 hbr.size
      rw [ea, eb]
      clear hx ea eb hbr
      go_upto_region 6 with (fail)
      have rg0 := cell_regrown c1
      have rg1 := cell_regrown c2
      refine wp_region_qt [0, 1, 2, 3, 4, 5, 6, 7, 8] [] (by kernel_rfl) (by kernel_rfl) (by repeat (first | with_reducible refine panOk_then ?_ | with_reducible refine panOk_block ?_ | exact panOk_body)) ?_
      simp only [opsAt, List.getElem?_toArray, List.getElem?_cons_succ, List.getElem?_cons_zero, Option.toList_some, List.cons_append, List.nil_append]
      repeat (go_big_quiet_step (fail))
      refine wpQuiet_nil ?_
      intro W2 hw2
      have hbW2 := qt_world hw2
      clear hw2 rg0 rg1
      refine wpList_done ?_
      go_wp2
      go_roundw
      case rel => exact ⟨k + 1, by omega, by go_num, HBR.out.trans (hbW2.mono HBR.out.size)⟩
      case measure => simp [intOf]; omega
    · go_wp2
      go_ret
      exact ⟨rfl, HBR.out⟩
set_option maxRecDepth 100000 in
set_option maxHeartbeats 1600000 in
theorem trigger_any (p : Pf) (m : Ms) (x y : Int) (w : World) (hl : p.tr.length ≤ 400) (hm : Pm w p m) :
    Calls Try.prog 41 #[.agg (pfA p m), .int .i64 x, .int .i64 y] w fun e w' => e = .returned (.bool (trg p x y)) ∧ Below w.heap.size w w' := by
  have HM := Lib.hid hm
  clear hm
  obtain ⟨f, hf⟩ : ∃ f : Tr → Bool, f = fun t => t.p == x && t.d == y := ⟨_, rfl⟩
  have HF : Hid (trg p x y = p.tr.any f) := by rw [Hid, hf]; rfl
  have HFF : Hid (∀ t, f t = (t.p == x && t.d == y)) := by rw [Hid, hf]; exact fun _ => rfl
  clear hf
  go_enter Try.func41, Try.ntmps41
  go_upto_region 1 with (fail)
  refine name_wp ?_
  intro X hX
  have gP : Blk X w.heap.size 27 (pfA p m) := by rw [hX]; exact Blk.new _ _ _
  have hbX : Below w.heap.size w X := by rw [hX]; exact wa1 _ _
  have HX := Lib.hid hbX
  have GP := Lib.hid gP
  have HS := Lib.hid ((HM.out.then_ hbX).s5)
  obtain ⟨_, _, _, _, _, k5⟩ := pfCells gP
  have lP := gP.lt
  clear hX gP hbX
  go_upto_region 2 with (fail)
  go_loop [7] (fun v => ∃ k : Nat, k ≤ p.tr.length ∧ v = .int .i64 k ∧ Hid ((p.tr.take k).any f = false)) (fun v => p.tr.length - (intOf v).toNat)
  case atStart => exact ⟨0, by omega, rfl, by simp [Hid]⟩
  case round =>
    obtain ⟨k, hk, rfl, hN⟩ := hrel
    by_cases hlt : k < p.tr.length
    · obtain ⟨t, ht⟩ : ∃ t, p.tr[k]? = some t := ⟨_, List.getElem?_eq_getElem hlt⟩
      obtain ⟨b, off, ea, hb, c0, c1⟩ := segT HS.out ht
      have HTK := Lib.hid (take_any (f := f) ht)
      have HT := Lib.hid ht
      rw [ea] at k5
      clear ht
      rcases hbb (t.p == x) with h1 | h1
      · rcases hbb (t.d == y) with h2 | h2
        · have HC : Hid (f t = true) := by rw [Hid, HFF.out, h1, h2]; rfl
          go_wp2
          go_ret
          exact ⟨ret_bool (by rw [HF.out, any_of HT.out HC.out]), HX.out⟩
        · have HC : Hid (f t = false) := by rw [Hid, HFF.out, h2]; simp
          go_wp2
          go_round
          case rel => exact ⟨k + 1, by omega, by go_num, by rw [HTK.out, hN.out, HC.out]; rfl⟩
          case measure => simp [intOf]; omega
      · have HC : Hid (f t = false) := by rw [Hid, HFF.out, h1]; rfl
        go_wp2
        go_round
        case rel => exact ⟨k + 1, by omega, by go_num, by rw [HTK.out, hN.out, HC.out]; rfl⟩
        case measure => simp [intOf]; omega
    · obtain rfl : k = p.tr.length := by omega
      have HC : Hid (p.tr.any f = false) := by
        have := hN.out
        rwa [List.take_length] at this
      go_wp2
      go_ret
      exact ⟨ret_bool (by rw [HF.out, HC.out]), HX.out⟩
set_option maxRecDepth 100000 in
set_option maxHeartbeats 1600000 in
theorem rbears_any (p : Pf) (m : Ms) (x y : Int) (w : World) (hv : VP p) (hm : Pm w p m) :
    Calls Try.prog 22 #[.agg (pfA p m), .int .i64 x, .int .i64 y] w fun e w' => e = .returned (.bool (bea p x y)) ∧ Below w.heap.size w w' := by
  obtain ⟨m1, n1, m2, n2, m3, n3, m4, n4, m5, n5⟩ := m
  have HM := Lib.hid hm
  have hlt := hv.ltr
  have hlg := hv.lgu
  clear hv hm
  obtain ⟨f, hf⟩ : ∃ f : Gu → Bool, f = fun g => g.b == y && (g.x == x || trg p x g.x) := ⟨_, rfl⟩
  have HF : Hid (bea p x y = (trg p x y || p.gu.any f)) := by rw [Hid, hf]; rfl
  have HFF : Hid (∀ g, f g = (g.b == y && (g.x == x || trg p x g.x))) := by rw [Hid, hf]; exact fun _ => rfl
  clear hf
  go_enter Try.func22, Try.ntmps22
  go_upto_region 1 with (fail)
  refine name_wp ?_
  intro X hX
  have gP : Blk X w.heap.size 27 (pfA p ⟨m1, n1, m2, n2, m3, n3, m4, n4, m5, n5⟩) := by rw [hX]; exact Blk.new _ _ _
  have hbX : Below w.heap.size w X := by rw [hX]; exact wa1 _ _
  have HX := Lib.hid hbX
  have GP := Lib.hid gP
  have HB : Hid (∀ (W : World) (z : Int), Below X.heap.size X W → Calls Try.prog 41 #[.agg (pfA p ⟨m1, n1, m2, n2, m3, n3, m4, n4, m5, n5⟩), .int .i64 x, .int .i64 z] W fun e w' => e = .returned (.bool (trg p x z)) ∧ Below W.heap.size W w') := fun W z hW => trigger_any p ⟨m1, n1, m2, n2, m3, n3, m4, n4, m5, n5⟩ x z W hlt (HM.out.then_ (below_then HX.out hW))
  have HZ := Lib.hid (Below.refl X.heap.size X)
  obtain ⟨k0, k1, k2, k3, k4, k5⟩ := pfCells gP
  have lP := gP.lt
  clear hX gP hbX
  rcases hbb (trg p x y) with ht | ht
  · have HT := Lib.hid ht
    have HB1 : Hid (Calls Try.prog 41 #[.agg (pfA p ⟨m1, n1, m2, n2, m3, n3, m4, n4, m5, n5⟩), .int .i64 x, .int .i64 y] X fun e w' => e = .returned (.bool true) ∧ Below X.heap.size X w') := by
      have := HB.out X y HZ.out
      rwa [ht] at this
    clear ht
    go_wp2_with (go_at_call 41; (with_reducible refine HB1.out.mono ?_); rintro e w1 ⟨rfl, hk⟩)
    go_ret
    exact ⟨ret_bool (by rw [HF.out, HT.out]; rfl), below_then HX.out hk⟩
  · have HT := Lib.hid ht
    have HB1 : Hid (Calls Try.prog 41 #[.agg (pfA p ⟨m1, n1, m2, n2, m3, n3, m4, n4, m5, n5⟩), .int .i64 x, .int .i64 y] X fun e w' => e = .returned (.bool false) ∧ Below X.heap.size X w') := by
      have := HB.out X y HZ.out
      rwa [ht] at this
    clear ht
    go_upto_region 4 with (go_at_call 41; (with_reducible refine HB1.out.mono ?_); rintro e w1 ⟨rfl, hk⟩)
    have H1 := Lib.hid hk
    clear k0 k1 k2 k3 k4 k5 lP hk
    go_loopw [7] (fun v WR => ∃ k : Nat, k ≤ p.gu.length ∧ v = .int .i64 k ∧ Hid ((p.gu.take k).any f = false) ∧ Below X.heap.size X WR) (fun v _ => p.gu.length - (intOf v).toNat)
    case atStart => exact ⟨0, by omega, rfl, by simp [Hid], H1.out⟩
    case round =>
      obtain ⟨k, hk, rfl, hN, hbr⟩ := hrel
      have HBR := Lib.hid hbr
      obtain ⟨k0, k1, k2, k3, k4, k5⟩ := pfCells (GP.out.then_ hbr)
      have lP := (GP.out.then_ hbr).lt
      by_cases hlt' : k < p.gu.length
      · obtain ⟨g, hg⟩ : ∃ g, p.gu[k]? = some g := ⟨_, List.getElem?_eq_getElem hlt'⟩
        obtain ⟨b, off, ea, hb, c0, c1, c2⟩ := segG (HM.out.s4.below (below_then HX.out hbr)) hg
        have hbl : b < wr.heap.size := Nat.lt_of_lt_of_le hb (below_then HX.out hbr).size
        have HTK := Lib.hid (take_any (f := f) hg)
        have HG := Lib.hid hg
        have HBB := Lib.hid (fun o => HB.out _ g.x (below_alloc hbr o))
        obtain rfl : m4 = some ⟨b, off, none⟩ := ea
        clear hg hbr
        rcases hbb (g.b == y) with h1 | h1
        · rcases hbb (g.x == x) with h2 | h2
          · have HC : Hid (f g = true) := by rw [Hid, HFF.out, h1, h2]; rfl
            go_wp2
            go_ret
            exact ⟨ret_bool (by rw [HF.out, any_of HG.out HC.out]; simp), below_then HX.out (below_alloc HBR.out _)⟩
          · rcases hbb (trg p x g.x) with h3 | h3
            · have HC : Hid (f g = true) := by rw [Hid, HFF.out, h1, h3]; simp
              rw [h3] at HBB
              clear h3
              go_wp2_with (go_at_call 41; (with_reducible refine (HBB.out _).mono ?_); rintro e w6 ⟨rfl, hk6⟩)
              go_ret
              exact ⟨ret_bool (by rw [HF.out, any_of HG.out HC.out]; simp), below_then HX.out (below_then (below_alloc HBR.out _) hk6)⟩
            · have HC : Hid (f g = false) := by rw [Hid, HFF.out, h2, h3]; simp
              rw [h3] at HBB
              clear h3
              go_wp2_with (go_at_call 41; (with_reducible refine (HBB.out _).mono ?_); rintro e w6 ⟨rfl, hk6⟩)
              go_roundw
              case rel => exact ⟨k + 1, by omega, by go_num, by rw [HTK.out, hN.out, HC.out]; rfl, below_then (below_alloc HBR.out _) hk6⟩
              case measure => simp [intOf]; omega
        · have HC : Hid (f g = false) := by rw [Hid, HFF.out, h1]; rfl
          go_wp2
          go_roundw
          case rel => exact ⟨k + 1, by omega, by go_num, by rw [HTK.out, hN.out, HC.out]; rfl, below_alloc HBR.out _⟩
          case measure => simp [intOf]; omega
      · obtain rfl : k = p.gu.length := by omega
        have HC : Hid (p.gu.any f = false) := by
          have := hN.out
          rwa [List.take_length] at this
        go_wp2
        go_ret
        exact ⟨ret_bool (by rw [HF.out, HT.out, HC.out]; rfl), below_then HX.out HBR.out⟩
theorem of_any (n : Int) (w : World) : Calls Try.prog 20 #[.int .i64 n] w fun e w' => e = .returned (.agg #[.int .i64 n, .int .i64 1]) ∧ Below w.heap.size w w' := by
  go_enter Try.func20, Try.ntmps20
  go_wp2
  refine bodyPost_ret (ret_rat1 rfl rfl (Blk.new _ _ _)) rfl ⟨rfl, wa1 _ _⟩
end Go.Proofs.Yteoicnhnpailiaa
