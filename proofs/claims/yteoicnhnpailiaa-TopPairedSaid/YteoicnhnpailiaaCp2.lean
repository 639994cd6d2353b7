/- The walk of TopPaired's example: w21Saved is true. -/
import Derived.Test.YteoicnhnpailiaaCp1
import Derived.Test.YteoicnhnpailiaaCa5
namespace Go.Proofs.Yteoicnhnpailiaa
open Go.RowKit Go.Sort Go.Maps

theorem defaults_ok (p : Pf) (m : Ms) (w : World) (hv : VP p) (hm : Pm w p m) {K : Nat} (hK : SpOk p K) :
    Calls Try.prog 13 #[.agg (pfA p m)] w fun e w' => (∃ v, e = .returned (.tuple #[v, .int .i64 0]) ∧ GotB w.heap.size w' (outD p K) v) ∧ Below w.heap.size w w' := by
  refine (defaults_any p m w (vp_fp hv) hm).mono ?_
  rintro e w' ⟨⟨h, _⟩ | ⟨_, K', h, _⟩ | ⟨_, K', v, h, he, hg⟩, hb⟩
  · rw [vldP_mk hv] at h; cases h
  · exact (hK.no h).elim
  · obtain rfl := h.uniq hK
    exact ⟨⟨v, he, hg⟩, hb⟩
theorem defaults_no (p : Pf) (m : Ms) (w : World) (hv : VP p) (hm : Pm w p m) (hK : ¬ ∃ K, SpOk p K) :
    Calls Try.prog 13 #[.agg (pfA p m)] w fun e w' => e = .returned (.tuple #[.slice none 0 0, .int .i64 2]) ∧ Below w.heap.size w w' := by
  refine (defaults_any p m w (vp_fp hv) hm).mono ?_
  rintro e w' ⟨⟨h, _⟩ | ⟨_, K', h, he⟩ | ⟨_, K', v, h, he, hg⟩, hb⟩
  · rw [vldP_mk hv] at h; cases h
  · exact ⟨he, hb⟩
  · exact (hK ⟨K', h⟩).elim
abbrev exP : Pf := ⟨2, [(3, 1), (3, 1)], [⟨0, 1, 5, 1⟩, ⟨1, 0, 4, 1⟩], [], [], []⟩
abbrev exL : List Db := [⟨0, 1, 1, 1⟩]
theorem exP_v : VP exP := vldP_of (by kernel_rfl)
theorem exP_p : prF exP.du 2 2 = some exL := by kernel_rfl
theorem two_cases {i : Int} (h0 : 0 ≤ i) (h1 : i < 2) : i = 0 ∨ i = 1 := by omega
theorem exP_d : Dk exP 1 = [true, true, false, false, false, false, false, false, false, false, false, false] := by kernel_rfl
theorem exP_ok : SpOk exP 1 := by
  refine ⟨⟨fun j hj => ?_, fun j hj => ?_⟩, ?_, ?_⟩
  · obtain rfl : j = 0 := by omega
    intro i h0 h1
    rcases two_cases h0 h1 with rfl | rfl <;> kernel_rfl
  · obtain rfl : j = 0 := by omega
    rw [exP_d]; decide
  · intro i h0 h1
    rcases two_cases h0 h1 with rfl | rfl <;> kernel_rfl
  · kernel_rfl
theorem exQ_ok : SpOk (netP exP exL) 0 := by
  refine ⟨⟨fun j hj => by omega, fun j hj => by omega⟩, ?_, ?_⟩
  · intro i h0 h1
    rcases two_cases h0 h1 with rfl | rfl <;> kernel_rfl
  · kernel_rfl
theorem exQ_v : VP (netP exP exL) := VP.net exP_v rfl exP_p
theorem exP_o : outD exP 1 = [true, true] := by kernel_rfl
theorem exQ_o : outD (netP exP exL) 0 = [false, false] := by kernel_rfl
theorem seg_set {α : Type} {enc : α → List Value} {size : Nat} {w : World} {A : Option Addr} {xs : List α} (h : Seg w w.heap.size size enc A xs) {b o : Nat} (hb : ∀ g off, A = some ⟨g, off, none⟩ → g ≠ b) (u : Value) : Seg (w.setCell ⟨b, o, none⟩ u) (w.setCell ⟨b, o, none⟩ u).heap.size size enc A xs := by
  intro k x hx
  obtain ⟨g, off, e, hl, hc⟩ := h k x hx
  refine ⟨g, off, e, by simpa using hl, fun j v hv => ?_⟩
  have := World.cell?_of_block (a := ⟨g, off + k * size + j, none⟩) (Below.heap_setCell w ⟨b, o, none⟩ u g (hb g off e))
  rw [this]; exact hc j v hv
theorem seg_of_blk {α : Type} {enc : α → List Value} {size : Nat} (he : ∀ x, (enc x).length = size) {w : World} {g : Nat} {t : TypeId} {cs : Array Value} (xs : List α) (h : Blk w g t cs) (e : cs = (xs.flatMap enc).toArray) : Seg w w.heap.size size enc (some ⟨g, 0, none⟩) xs := by
  subst e
  intro k x hx
  refine ⟨g, 0, rfl, h.lt, fun j u hu => ?_⟩
  rw [h.cell]
  have hj : j < size := by rw [← he x]; exact (List.getElem?_eq_some_iff.1 hu).1
  have := getElem?_flatMap (enc := enc) he xs k j x hx hj
  simp only [Nat.zero_add, List.getElem?_toArray]
  rw [this]; exact hu
abbrev exM (a b : Nat) : Ms := ⟨some ⟨a, 0, none⟩, 2, some ⟨b, 0, none⟩, 2, none, 0, none, 0, none, 0⟩
set_option maxRecDepth 100000 in
set_option maxHeartbeats 3200000 in
theorem saved_any (w : World) : Calls Try.prog 23 #[] w fun e w' => e = .returned (.bool true) ∧ Below w.heap.size w w' := by
  go_enter Try.func23, Try.ntmps23
  have hz := Lib.hid (Below.refl w.heap.size w)
  go_upto_region 2 with (first | (go_at_call_of 42 (Value.int IntKind.i64 3); with_reducible refine (w21of_any _ _).mono ?_; rintro e v1 ⟨rfl, h1⟩; replace hz := Lib.hid (below_then hz.out h1); clear h1) | (go_at_call_of 42 (Value.int IntKind.i64 5); with_reducible refine (w21of_any _ _).mono ?_; rintro e v2 ⟨rfl, h2⟩; have ga := Lib.hid ((Blk.new v1 44 #[.int .i64 3, .int .i64 1, .int .i64 3, .int .i64 1]).then_ h2); replace hz := Lib.hid (below_then hz.out (below_then (wa1 _ _) h2)); clear h2) | (go_at_call_of 42 (Value.int IntKind.i64 4); with_reducible refine (w21of_any _ _).mono ?_; rintro e v3 ⟨rfl, h3⟩; replace ga := Lib.hid (ga.out.then_ h3); replace hz := Lib.hid (below_then hz.out h3); clear h3))
  refine name_wp ?_
  intro X hX
  have gA : Blk X v1.heap.size 44 #[.int .i64 3, .int .i64 1, .int .i64 3, .int .i64 1] := by rw [hX]; exact (ga.out.alloc _).alloc _
  have gU : Blk X v3.heap.size 55 #[.int .i64 0, .int .i64 1, .int .i64 5, .int .i64 1, .int .i64 1, .int .i64 0, .int .i64 4, .int .i64 1] := by rw [hX]; exact (Blk.new _ _ _).alloc _
  have gQ : Blk X (v3.heap.size + 1) 27 #[.int .i64 2, .slice (some ⟨v1.heap.size, 0, none⟩) 2 2, .slice (some ⟨v3.heap.size, 0, none⟩) 2 2, .slice none 0 0, .slice none 0 0, .slice none 0 0] := by
    rw [hX]
    exact blk_new1 v3 _ _ _
  have hbX : Below w.heap.size w X := by rw [hX]; exact below_alloc (below_alloc hz.out _) _
  have lw : w.heap.size ≤ v3.heap.size := hz.out.size
  have lA : v1.heap.size < v3.heap.size := ga.out.lt
  clear hX ga hz
  obtain ⟨bA, eA⟩ : ∃ b, v1.heap.size = b := ⟨_, rfl⟩
  rw [eA] at gA gQ ⊢
  obtain ⟨bQ, eQ⟩ : ∃ b, v3.heap.size + 1 = b := ⟨_, rfl⟩
  rw [eQ] at gQ ⊢
  obtain ⟨bU, eU⟩ : ∃ b, v3.heap.size = b := ⟨_, rfl⟩
  rw [eU] at gU gQ ⊢
  have nQ : w.heap.size ≤ bQ := by omega
  have nAQ : bU ≠ bQ := by omega
  have nBQ : bA ≠ bQ := by omega
  have lQ : bQ < X.heap.size := gQ.lt
  clear eA eQ eU lw lA
  have HM : Hid (Pm X exP (exM bA bU)) := ⟨seg_of_blk (enc := encA) (size := 2) (fun _ => rfl) exP.as gA rfl, seg_of_blk (enc := encD) (size := 4) (fun _ => rfl) exP.du gU rfl, Seg.nil _ _ _ _ _, Seg.nil _ _ _ _ _, Seg.nil _ _ _ _ _⟩
  have HD : Hid (Calls Try.prog 13 #[.agg #[.int .i64 2, .slice (some ⟨bA, 0, none⟩) 2 2, .slice (some ⟨bU, 0, none⟩) 2 2, .slice none 0 0, .slice none 0 0, .slice none 0 0]] X fun e w' => (∃ v, e = .returned (.tuple #[v, .int .i64 0]) ∧ GotB X.heap.size w' [true, true] v) ∧ Below X.heap.size X w') := by
    have := defaults_ok exP (exM bA bU) X exP_v HM.out exP_ok
    rw [exP_o] at this
    exact this
  have HX := Lib.hid hbX
  have GQ := Lib.hid gQ
  have k0 : X.cell? ⟨bQ, 0, none⟩ = some (.int .i64 2) := gQ.cell 0
  have k1 : X.cell? ⟨bQ, 1, none⟩ = some (.slice (some ⟨bA, 0, none⟩) 2 2) := gQ.cell 1
  have k2 : X.cell? ⟨bQ, 2, none⟩ = some (.slice (some ⟨bU, 0, none⟩) 2 2) := gQ.cell 2
  have k3 : X.cell? ⟨bQ, 3, none⟩ = some (.slice none 0 0) := gQ.cell 3
  have k4 : X.cell? ⟨bQ, 4, none⟩ = some (.slice none 0 0) := gQ.cell 4
  have k5 : X.cell? ⟨bQ, 5, none⟩ = some (.slice none 0 0) := gQ.cell 5
  clear gA gU gQ hbX
  go_upto_region 3 with (go_at_call 13; with_reducible refine HD.out.mono ?_; rintro e w1 ⟨⟨v, rfl, hg⟩, hk⟩)
  have nA1 := World.ownsRow.lt hg
  obtain ⟨A1, c1, rfl, _, sg1⟩ := hg.seg (size := 1) (enc := encB) encB_len
  have HK1 := Lib.hid hk
  have SG1 := Lib.hid sg1
  have l2 : w1.cell? ⟨bQ, 2, none⟩ = some (.slice (some ⟨bU, 0, none⟩) 2 2) := (GQ.out.then_ hk).cell 2
  have lq : bQ < w1.heap.size := (GQ.out.then_ hk).lt
  have HP : Hid (Calls Try.prog 24 #[.int .i64 2, .slice (some ⟨bU, 0, none⟩) 2 2] w1 fun e w' => LstP (some exL) w1 w' e ∧ Below w1.heap.size w1 w') := by
    have := pairs_any 2 (some ⟨bU, 0, none⟩) 2 exP.du w1 (by kernel_rfl) (vp_fp exP_v).du (HM.out.then_ hk).s2
    rw [exP_p] at this
    exact this
  clear hk sg1 k0 k1 k2 k3 k4 k5
  go_upto_region 4 with (go_at_call 24; (with_reducible refine HP.out.mono ?_); rintro e w2 ⟨⟨v, rfl, hO⟩, hk⟩)
  obtain ⟨A2, c2, rfl, _, sg2⟩ := hO.seg (size := 4) (enc := encD) (fun _ => rfl)
  have HK2 := Lib.hid (below_then HK1.out hk)
  have GQ2 := Lib.hid (GQ.out.then_ HK2.out)
  have SG2 := Lib.hid sg2
  have SG12 := Lib.hid ((SG1.out.below hk).more hk.size)
  have l2 : w2.cell? ⟨bQ, 2, none⟩ = some (.slice (some ⟨bU, 0, none⟩) 2 2) := GQ2.out.cell 2
  have f2 : w2.frozen? ⟨bQ, 2, none⟩ = false := GQ2.out.frozen 2
  have lq2 : bQ < w2.heap.size := GQ2.out.lt
  have nQ2 := (World.ownsRow.lt hO)
  clear hk sg2 SG1
  go_upto_region 5 with (fail)
  refine name_wp ?_
  intro Y hY
  have hgQ : Blk Y bQ 27 #[.int .i64 2, .slice (some ⟨bA, 0, none⟩) 2 2, .slice A2 1 c2, .slice none 0 0, .slice none 0 0, .slice none 0 0] := by rw [hY]; exact GQ2.out.set_ 2 _
  have hbY : Below w.heap.size w Y := by rw [hY]; exact ((below_then HX.out HK2.out).setCell nQ _)
  have h1 := HM.out.then_ HK2.out
  have hpm : Pm Y (netP exP exL) ⟨some ⟨bA, 0, none⟩, 2, A2, c2, none, 0, none, 0, none, 0⟩ := by
    rw [hY]
    exact ⟨seg_set h1.s1 (fun g off e => by cases e; exact nBQ) _, seg_set SG2.out (fun g off e => by
      subst e
      have := (nQ2 g rfl).1
      omega) _, Seg.nil _ _ _ _ _, Seg.nil _ _ _ _ _, Seg.nil _ _ _ _ _⟩
  have hs1 : Seg Y Y.heap.size 1 encB A1 [true, true] := by
    rw [hY]
    exact seg_set SG12.out (fun g off e => by
      subst e
      have := (nA1 g rfl).1
      omega) _
  have HD2 : Hid (Calls Try.prog 13 #[.agg #[.int .i64 2, .slice (some ⟨bA, 0, none⟩) 2 2, .slice A2 1 c2, .slice none 0 0, .slice none 0 0, .slice none 0 0]] Y fun e w' => (∃ v, e = .returned (.tuple #[v, .int .i64 0]) ∧ GotB Y.heap.size w' [false, false] v) ∧ Below Y.heap.size Y w') := by
    have := defaults_ok (netP exP exL) ⟨some ⟨bA, 0, none⟩, 2, A2, c2, none, 0, none, 0, none, 0⟩ Y exQ_v hpm exQ_ok
    rw [exQ_o] at this
    exact this
  have k0 : Y.cell? ⟨bQ, 0, none⟩ = some (.int .i64 2) := hgQ.cell 0
  have k1 : Y.cell? ⟨bQ, 1, none⟩ = some (.slice (some ⟨bA, 0, none⟩) 2 2) := hgQ.cell 1
  have k2 : Y.cell? ⟨bQ, 2, none⟩ = some (.slice A2 1 c2) := hgQ.cell 2
  have k3 : Y.cell? ⟨bQ, 3, none⟩ = some (.slice none 0 0) := hgQ.cell 3
  have k4 : Y.cell? ⟨bQ, 4, none⟩ = some (.slice none 0 0) := hgQ.cell 4
  have k5 : Y.cell? ⟨bQ, 5, none⟩ = some (.slice none 0 0) := hgQ.cell 5
  have HBY := Lib.hid hbY
  have HS1 := Lib.hid hs1
  clear hY hgQ hbY hpm hs1 h1 hO l2 f2 lq2
  go_upto_region 6 with (go_at_call 13; (with_reducible refine HD2.out.mono ?_); rintro e w5 ⟨⟨v5, rfl, hg5⟩, hk5⟩)
  obtain ⟨A5, c5, rfl, _, sg5⟩ := hg5.seg (size := 1) (enc := encB) encB_len
  have HB5 := Lib.hid (below_then HBY.out hk5)
  have S1 := Lib.hid ((HS1.out.below hk5).more hk5.size)
  have S5 := Lib.hid sg5
  clear hk5 sg5 hg5 k0 k1 k2 k3 k4 k5
  have H1 : Hid (∀ (W : World) (b : Nat), Below w5.heap.size w5 W → Blk W b 4 #[.bool true, .bool true] → Calls Try.prog 16 #[.slice A1 2 c1, .slice (some ⟨b, 0, none⟩) 2 2] W fun e w' => e = .returned (.bool true) ∧ Below W.heap.size W w') := fun W b hW hb =>
    bools_any [true, true] [true, true] A1 (some ⟨b, 0, none⟩) c1 2 W (by simp) (by simp) ((S1.out.below hW).more hW.size) (seg_of_blk (enc := encB) (size := 1) encB_len [true, true] hb rfl)
  have H5 : Hid (∀ (W : World) (b : Nat), Below w5.heap.size w5 W → Blk W b 4 #[.bool false, .bool false] → Calls Try.prog 16 #[.slice A5 2 c5, .slice (some ⟨b, 0, none⟩) 2 2] W fun e w' => e = .returned (.bool true) ∧ Below W.heap.size W w') := fun W b hW hb =>
    bools_any [false, false] [false, false] A5 (some ⟨b, 0, none⟩) c5 2 W (by simp) (by simp) ((S5.out.below hW).more hW.size) (seg_of_blk (enc := encB) (size := 1) encB_len [false, false] hb rfl)
  go_wp2_with (go_at_call 16; first | ((with_reducible refine (H1.out _ _ (wa1 _ _) (Blk.new _ _ _)).mono ?_); rintro e w6 ⟨rfl, hk6⟩; have h6 := Lib.hid (below_then (wa1 _ _) hk6)) | ((with_reducible refine (H5.out _ _ (below_alloc h6.out _) (Blk.new _ _ _)).mono ?_); rintro e w7 ⟨rfl, hk7⟩))
  go_ret
  exact ⟨rfl, below_then HB5.out (below_then h6.out (below_then (wa1 _ _) hk7))⟩
end Go.Proofs.Yteoicnhnpailiaa
