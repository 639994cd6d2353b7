/- Contracts of functions and plain laws, joined: Krg, Kbo, Krh, Kri, Krj. -/
import Derived.Test.YtcplneglfbdooaaMb15
import Derived.Test.YtcplneglfbdooaaMb2
import Derived.Test.YtcplneglfbdooaaMb13
/- The walk of estoppelref24.SameContract. -/
namespace Go.Proofs.Ytcplneglfbdooaa
open Go.RowKit

theorem con_eq (a b : Con) : a = b ↔ a.par = b.par ∧ a.days = b.days ∧ a.hold = b.hold ∧ a.off = b.off ∧ a.un = b.un ∧ a.ac = b.ac ∧ a.cl = b.cl := by
  cases a; cases b
  simp only [Con.mk.injEq]
  exact ⟨fun ⟨h1, h2, h3, h4, h5, h6, h7⟩ => ⟨h1, h6, h2, h7, h3, h4, h5⟩, fun ⟨h1, h6, h2, h7, h3, h4, h5⟩ => ⟨h1, h2, h3, h4, h5, h6, h7⟩⟩
set_option maxRecDepth 100000 in
set_option maxHeartbeats 6400000 in
theorem rcon_any (a b : Con) (ma mb : Cm) (w : World) (ha : Cont w a ma) (hb : Cont w b mb) : Calls Try.prog 12 #[.agg (coA a ma), .agg (coA b mb)] w fun e w' => e = .returned (.bool (decide (a = b))) ∧ Below w.heap.size w w' := by
  obtain ⟨R, hR⟩ : ∃ R, decide (a = b) = R := ⟨_, rfl⟩
  rw [hR]
  have HA := Lib.hid ha
  have HB_ := Lib.hid hb
  have HI1 := Lib.hid (fun W (h : Below w.heap.size w W) => ints_any ma.h mb.h ma.hc mb.hc a.hold b.hold W (ha.then_ h).h (hb.then_ h).h ha.nh)
  have HI2 := Lib.hid (fun W (h : Below w.heap.size w W) => ints_any ma.o mb.o ma.oc mb.oc a.off b.off W (ha.then_ h).o (hb.then_ h).o ha.no)
  have nu := ha.nu
  have na := ha.na
  have hka : ma.ks.length = a.cl.length := by have := congrArg List.length ha.e; simpa using this
  have hkb : mb.ks.length = b.cl.length := by have := congrArg List.length hb.e; simpa using this
  obtain ⟨e0, E0⟩ : ∃ x, (a.par != b.par) = x := ⟨_, rfl⟩
  obtain ⟨e1, E1⟩ : ∃ x, (a.days != b.days) = x := ⟨_, rfl⟩
  obtain ⟨e2, E2⟩ : ∃ x, decide (a.hold = b.hold) = x := ⟨_, rfl⟩
  obtain ⟨e3, E3⟩ : ∃ x, decide (a.off = b.off) = x := ⟨_, rfl⟩
  obtain ⟨e4, E4⟩ : ∃ x, ((a.un.length : Int) != (b.un.length : Int)) = x := ⟨_, rfl⟩
  obtain ⟨e5, E5⟩ : ∃ x, ((a.ac.length : Int) != (b.ac.length : Int)) = x := ⟨_, rfl⟩
  have HRR : Hid ((e0 || e1 || !e2 || !e3 || e4 || e5) = false → R = decide (a.un = b.un ∧ a.ac = b.ac ∧ a.cl = b.cl)) := by
    intro h
    rw [← hR]
    simp only [Bool.or_eq_false_iff, Bool.not_eq_false'] at h
    obtain ⟨⟨⟨⟨⟨h0, h1⟩, h2⟩, h3⟩, h4⟩, h5⟩ := h
    rw [← E0] at h0
    rw [← E1] at h1
    rw [← E2] at h2
    rw [← E3] at h3
    simp at h0 h1 h2 h3
    rw [Bool.eq_iff_iff]
    simp only [decide_eq_true_eq]
    rw [con_eq]
    simp [h0, h1, h2, h3]
  have HNO : Hid ((e0 || e1 || !e2 || !e3 || e4 || e5) = true → R = false) := by
    intro h
    rw [← hR]
    refine decide_eq_false fun e => ?_
    subst e
    rw [← E0, ← E1, ← E2, ← E3, ← E4, ← E5] at h
    simp at h
  have HLN : Hid ((e0 || e1 || !e2 || !e3 || e4 || e5) = false → a.un.length = b.un.length ∧ a.ac.length = b.ac.length) := by
    intro h
    simp only [Bool.or_eq_false_iff, Bool.not_eq_false'] at h
    obtain ⟨⟨⟨⟨⟨h0, h1⟩, h2⟩, h3⟩, h4⟩, h5⟩ := h
    rw [← E4] at h4
    rw [← E5] at h5
    simp at h4 h5
    omega
  simp only [E2] at HI1
  simp only [E3] at HI2
  clear hR ha hb E2 E3
  go_enter Try.func12, Try.ntmps12
  go_upto_region 1 with (fail)
  refine name_wp ?_
  intro X hX
  have gba : Blk X w.heap.size 27 (coA a ma) := by rw [hX]; exact (blk_at (by simp)).alloc _
  have gbb : Blk X (w.heap.size + 1) 27 (coA b mb) := by rw [hX]; exact blk_at (by simp)
  have HB : Below w.heap.size w X := by rw [hX]; (repeat (first | with_reducible assumption | with_reducible exact Below.refl _ _ | with_reducible refine below_drewN ?_ _ | with_reducible refine Below.drew ?_ | with_reducible refine below_alloc ?_ _ | with_reducible refine Below.setCell ?_ (by first | omega | (simp; done) | (simp; omega)) _ | with_reducible refine below_then ?_ (by with_reducible assumption) | (refine below_then (a := World.drew _) ?_ (by with_reducible assumption))))
  clear hX
  obtain ⟨bb, ebb⟩ : ∃ b, w.heap.size + 1 = b := ⟨_, rfl⟩
  obtain ⟨ba, eba⟩ : ∃ b, w.heap.size = b := ⟨_, rfl⟩
  have lba : w.heap.size ≤ ba := by omega
  have lbb : w.heap.size ≤ bb := by omega
  have nbabb : ba ≠ bb := by omega
  rw [ebb] at gbb ⊢
  rw [eba] at gba ⊢
  clear eba ebb
  have HBX := Lib.hid HB
  have GA := Lib.hid gba
  have GB := Lib.hid gbb
  clear HB
  go_upto_region 1 with (fail)
  have hz := Below.refl X.heap.size X
  go_cut [52] from 7 to 51 (fun v W => v = .bool (e0 || e1 || !e2 || !e3 || e4 || e5) ∧ Below X.heap.size X W)
  case first =>
    clear HRR HNO HLN
    have p0 : X.cell? ⟨ba, 0, none⟩ = some (.int .i64 a.par) := (gba).cell 0
    have p1 : X.cell? ⟨ba, 1, none⟩ = some (.slice ma.h a.hold.length ma.hc) := (gba).cell 1
    have p5 : X.cell? ⟨ba, 5, none⟩ = some (.int .i64 a.days) := (gba).cell 5
    have q0 : X.cell? ⟨bb, 0, none⟩ = some (.int .i64 b.par) := (gbb).cell 0
    have q1 : X.cell? ⟨bb, 1, none⟩ = some (.slice mb.h b.hold.length mb.hc) := (gbb).cell 1
    have q5 : X.cell? ⟨bb, 5, none⟩ = some (.int .i64 b.days) := (gbb).cell 5
    clear gba gbb
    cases e0
    case true => (go_wp2; go_meet; (case rel => exact ⟨by simp, hz⟩))
    cases e1
    case true => (go_wp2; go_meet; (case rel => exact ⟨by simp, hz⟩))
    cases e2
    case false => (go_wp2_with (go_at_call 30; (with_reducible refine (HI1.out _ HBX.out).mono ?_); rintro e w1 ⟨rfl, hb1⟩; have GA1 := GA.out.then_ hb1; have GB1 := GB.out.then_ hb1; have p2 : w1.cell? ⟨ba, 2, none⟩ = some (.slice ma.u a.un.length ma.uc) := (GA1).cell 2; have p3 : w1.cell? ⟨ba, 3, none⟩ = some (.slice ma.a a.ac.length ma.ac) := (GA1).cell 3; have p6 : w1.cell? ⟨ba, 6, none⟩ = some (.slice ma.o a.off.length ma.oc) := (GA1).cell 6; have q2 : w1.cell? ⟨bb, 2, none⟩ = some (.slice mb.u b.un.length mb.uc) := (GB1).cell 2; have q3 : w1.cell? ⟨bb, 3, none⟩ = some (.slice mb.a b.ac.length mb.ac) := (GB1).cell 3; have q6 : w1.cell? ⟨bb, 6, none⟩ = some (.slice mb.o b.off.length mb.oc) := (GB1).cell 6; clear GA1 GB1); go_meet; (case rel => exact ⟨by simp, hb1⟩))
    cases e3
    case false => (go_wp2_with (first | (go_at_call 30; (with_reducible refine (HI1.out _ HBX.out).mono ?_); rintro e w1 ⟨rfl, hb1⟩; have GA1 := GA.out.then_ hb1; have GB1 := GB.out.then_ hb1; have p2 : w1.cell? ⟨ba, 2, none⟩ = some (.slice ma.u a.un.length ma.uc) := (GA1).cell 2; have p3 : w1.cell? ⟨ba, 3, none⟩ = some (.slice ma.a a.ac.length ma.ac) := (GA1).cell 3; have p6 : w1.cell? ⟨ba, 6, none⟩ = some (.slice ma.o a.off.length ma.oc) := (GA1).cell 6; have q2 : w1.cell? ⟨bb, 2, none⟩ = some (.slice mb.u b.un.length mb.uc) := (GB1).cell 2; have q3 : w1.cell? ⟨bb, 3, none⟩ = some (.slice mb.a b.ac.length mb.ac) := (GB1).cell 3; have q6 : w1.cell? ⟨bb, 6, none⟩ = some (.slice mb.o b.off.length mb.oc) := (GB1).cell 6; clear GA1 GB1) | (go_at_call 30; (with_reducible refine (HI2.out _ (below_then HBX.out hb1)).mono ?_); rintro e w2 ⟨rfl, hb2⟩; have GA1 := GA.out.then_ (below_then hb1 hb2); have GB1 := GB.out.then_ (below_then hb1 hb2); have p2 : w2.cell? ⟨ba, 2, none⟩ = some (.slice ma.u a.un.length ma.uc) := (GA1).cell 2; have p3 : w2.cell? ⟨ba, 3, none⟩ = some (.slice ma.a a.ac.length ma.ac) := (GA1).cell 3; have q2 : w2.cell? ⟨bb, 2, none⟩ = some (.slice mb.u b.un.length mb.uc) := (GB1).cell 2; have q3 : w2.cell? ⟨bb, 3, none⟩ = some (.slice mb.a b.ac.length mb.ac) := (GB1).cell 3; clear GA1 GB1)); go_meet; (case rel => exact ⟨by simp, below_then hb1 hb2⟩))
    cases e4
    case true => (go_wp2_with (first | (go_at_call 30; (with_reducible refine (HI1.out _ HBX.out).mono ?_); rintro e w1 ⟨rfl, hb1⟩; have GA1 := GA.out.then_ hb1; have GB1 := GB.out.then_ hb1; have p2 : w1.cell? ⟨ba, 2, none⟩ = some (.slice ma.u a.un.length ma.uc) := (GA1).cell 2; have p3 : w1.cell? ⟨ba, 3, none⟩ = some (.slice ma.a a.ac.length ma.ac) := (GA1).cell 3; have p6 : w1.cell? ⟨ba, 6, none⟩ = some (.slice ma.o a.off.length ma.oc) := (GA1).cell 6; have q2 : w1.cell? ⟨bb, 2, none⟩ = some (.slice mb.u b.un.length mb.uc) := (GB1).cell 2; have q3 : w1.cell? ⟨bb, 3, none⟩ = some (.slice mb.a b.ac.length mb.ac) := (GB1).cell 3; have q6 : w1.cell? ⟨bb, 6, none⟩ = some (.slice mb.o b.off.length mb.oc) := (GB1).cell 6; clear GA1 GB1) | (go_at_call 30; (with_reducible refine (HI2.out _ (below_then HBX.out hb1)).mono ?_); rintro e w2 ⟨rfl, hb2⟩; have GA1 := GA.out.then_ (below_then hb1 hb2); have GB1 := GB.out.then_ (below_then hb1 hb2); have p2 : w2.cell? ⟨ba, 2, none⟩ = some (.slice ma.u a.un.length ma.uc) := (GA1).cell 2; have p3 : w2.cell? ⟨ba, 3, none⟩ = some (.slice ma.a a.ac.length ma.ac) := (GA1).cell 3; have q2 : w2.cell? ⟨bb, 2, none⟩ = some (.slice mb.u b.un.length mb.uc) := (GB1).cell 2; have q3 : w2.cell? ⟨bb, 3, none⟩ = some (.slice mb.a b.ac.length mb.ac) := (GB1).cell 3; clear GA1 GB1)); go_meet; (case rel => exact ⟨by simp, below_then hb1 hb2⟩))
    cases e5
    case true => (go_wp2_with (first | (go_at_call 30; (with_reducible refine (HI1.out _ HBX.out).mono ?_); rintro e w1 ⟨rfl, hb1⟩; have GA1 := GA.out.then_ hb1; have GB1 := GB.out.then_ hb1; have p2 : w1.cell? ⟨ba, 2, none⟩ = some (.slice ma.u a.un.length ma.uc) := (GA1).cell 2; have p3 : w1.cell? ⟨ba, 3, none⟩ = some (.slice ma.a a.ac.length ma.ac) := (GA1).cell 3; have p6 : w1.cell? ⟨ba, 6, none⟩ = some (.slice ma.o a.off.length ma.oc) := (GA1).cell 6; have q2 : w1.cell? ⟨bb, 2, none⟩ = some (.slice mb.u b.un.length mb.uc) := (GB1).cell 2; have q3 : w1.cell? ⟨bb, 3, none⟩ = some (.slice mb.a b.ac.length mb.ac) := (GB1).cell 3; have q6 : w1.cell? ⟨bb, 6, none⟩ = some (.slice mb.o b.off.length mb.oc) := (GB1).cell 6; clear GA1 GB1) | (go_at_call 30; (with_reducible refine (HI2.out _ (below_then HBX.out hb1)).mono ?_); rintro e w2 ⟨rfl, hb2⟩; have GA1 := GA.out.then_ (below_then hb1 hb2); have GB1 := GB.out.then_ (below_then hb1 hb2); have p2 : w2.cell? ⟨ba, 2, none⟩ = some (.slice ma.u a.un.length ma.uc) := (GA1).cell 2; have p3 : w2.cell? ⟨ba, 3, none⟩ = some (.slice ma.a a.ac.length ma.ac) := (GA1).cell 3; have q2 : w2.cell? ⟨bb, 2, none⟩ = some (.slice mb.u b.un.length mb.uc) := (GB1).cell 2; have q3 : w2.cell? ⟨bb, 3, none⟩ = some (.slice mb.a b.ac.length mb.ac) := (GB1).cell 3; clear GA1 GB1)); go_meet; (case rel => exact ⟨by simp, below_then hb1 hb2⟩))
    case false => (go_wp2_with (first | (go_at_call 30; (with_reducible refine (HI1.out _ HBX.out).mono ?_); rintro e w1 ⟨rfl, hb1⟩; have GA1 := GA.out.then_ hb1; have GB1 := GB.out.then_ hb1; have p2 : w1.cell? ⟨ba, 2, none⟩ = some (.slice ma.u a.un.length ma.uc) := (GA1).cell 2; have p3 : w1.cell? ⟨ba, 3, none⟩ = some (.slice ma.a a.ac.length ma.ac) := (GA1).cell 3; have p6 : w1.cell? ⟨ba, 6, none⟩ = some (.slice ma.o a.off.length ma.oc) := (GA1).cell 6; have q2 : w1.cell? ⟨bb, 2, none⟩ = some (.slice mb.u b.un.length mb.uc) := (GB1).cell 2; have q3 : w1.cell? ⟨bb, 3, none⟩ = some (.slice mb.a b.ac.length mb.ac) := (GB1).cell 3; have q6 : w1.cell? ⟨bb, 6, none⟩ = some (.slice mb.o b.off.length mb.oc) := (GB1).cell 6; clear GA1 GB1) | (go_at_call 30; (with_reducible refine (HI2.out _ (below_then HBX.out hb1)).mono ?_); rintro e w2 ⟨rfl, hb2⟩; have GA1 := GA.out.then_ (below_then hb1 hb2); have GB1 := GB.out.then_ (below_then hb1 hb2); have p2 : w2.cell? ⟨ba, 2, none⟩ = some (.slice ma.u a.un.length ma.uc) := (GA1).cell 2; have p3 : w2.cell? ⟨ba, 3, none⟩ = some (.slice ma.a a.ac.length ma.ac) := (GA1).cell 3; have q2 : w2.cell? ⟨bb, 2, none⟩ = some (.slice mb.u b.un.length mb.uc) := (GB1).cell 2; have q3 : w2.cell? ⟨bb, 3, none⟩ = some (.slice mb.a b.ac.length mb.ac) := (GB1).cell 3; clear GA1 GB1)); go_meet; (case rel => exact ⟨by simp, below_then hb1 hb2⟩))
  obtain ⟨rfl, hbc⟩ := hcut
  cases hb0 : (e0 || e1 || !e2 || !e3 || e4 || e5) with
  | true =>
    have hf : Hid (R = false) := HNO.out hb0
    clear hb0 HRR HNO HLN gba gbb E0 E1 E4 E5
    go_wp2
    go_ret
    exact ⟨ret_bool hf.out.symm, below_then HBX.out hbc⟩
  | false =>
  have HR0 : Hid (R = decide (a.un = b.un ∧ a.ac = b.ac ∧ a.cl = b.cl)) := HRR.out hb0
  have HR1 := HR0
  obtain ⟨hl0, hl1⟩ := HLN.out hb0
  have HL0 := Lib.hid hl0
  have HL1 := Lib.hid hl1
  have HS0 : Hid (Seg X X.heap.size 5 eU ma.u a.un ∧ Seg X X.heap.size 5 eU mb.u b.un) := ⟨(HA.out.then_ HBX.out).u, (HB_.out.then_ HBX.out).u⟩
  have HS1 : Hid (Seg X X.heap.size 7 eA ma.a a.ac ∧ Seg X X.heap.size 7 eA mb.a b.ac) := ⟨(HA.out.then_ HBX.out).a, (HB_.out.then_ HBX.out).a⟩
  clear hb0 HRR HNO HLN gba gbb E0 E1 E4 E5 HI1 HI2 hl0 hl1
  have HX0 := Lib.hid hbc
  clear hbc
  go_upto_region 4 with (fail)
  have HP0 := Lib.hid (Below.refl X.heap.size X)
  go_loopw [5] (fun u WR => ∃ (i : Nat), i ≤ a.un.length ∧ u = .int .i64 i ∧ Hid (∀ j, j < i → a.un[j]? = b.un[j]?) ∧ Hid (Below X.heap.size X WR)) (fun u _ => 2000000 - (intOf u).toNat)
  case atStart => exact ⟨0, by omega, rfl, fun j hj => by omega, HX0⟩
  case round =>
    obtain ⟨i, hi', rfl, hpre, hB⟩ := hrel
    have p2 : wr.cell? ⟨ba, 2, none⟩ = some (.slice ma.u a.un.length ma.uc) := (GA.out.then_ hB.out).cell 2
    have q2 : wr.cell? ⟨bb, 2, none⟩ = some (.slice mb.u b.un.length mb.uc) := (GB.out.then_ hB.out).cell 2
    by_cases hlt : i < a.un.length
    · have tn : decide ((i : Int) < (a.un.length : Int)) = true := decide_eq_true (by omega)
      have hl2 : i < b.un.length := by rw [← HL0.out]; exact hlt
      obtain ⟨x, hx⟩ : ∃ x : Uni, a.un[i]? = some x := ⟨_, List.getElem?_eq_getElem hlt⟩
      obtain ⟨y, hy⟩ : ∃ y : Uni, b.un[i]? = some y := ⟨_, List.getElem?_eq_getElem hl2⟩
      obtain ⟨b1, o1, e1, hb1, hc1⟩ := segAt (HS0.out.1.below hB.out) hx
      obtain ⟨b2, o2, e2, hb2, hc2⟩ := segAt (HS0.out.2.below hB.out) hy
      have x0 : wr.cell? ⟨b1, o1 + i * 5, none⟩ = some (.string x.nm) := by simpa using hc1 0 _ rfl
      have y0 : wr.cell? ⟨b2, o2 + i * 5, none⟩ = some (.string y.nm) := by simpa using hc2 0 _ rfl
      have x1 : wr.cell? ⟨b1, o1 + i * 5 + 1, none⟩ = some (.int .i64 x.kind) := hc1 1 _ rfl
      have y1 : wr.cell? ⟨b2, o2 + i * 5 + 1, none⟩ = some (.int .i64 y.kind) := hc2 1 _ rfl
      have x2 : wr.cell? ⟨b1, o1 + i * 5 + 2, none⟩ = some (.int .i64 x.base) := hc1 2 _ rfl
      have y2 : wr.cell? ⟨b2, o2 + i * 5 + 2, none⟩ = some (.int .i64 y.base) := hc2 2 _ rfl
      have x3 : wr.cell? ⟨b1, o1 + i * 5 + 3, none⟩ = some (.int .i64 x.f.1) := hc1 3 _ rfl
      have y3 : wr.cell? ⟨b2, o2 + i * 5 + 3, none⟩ = some (.int .i64 y.f.1) := hc2 3 _ rfl
      have x4 : wr.cell? ⟨b1, o1 + i * 5 + 4, none⟩ = some (.int .i64 x.f.2) := hc1 4 _ rfl
      have y4 : wr.cell? ⟨b2, o2 + i * 5 + 4, none⟩ = some (.int .i64 y.f.2) := hc2 4 _ rfl
      have hix := fun W => idx_at (t := 23) (size := 5) (cap := ma.uc) (len := a.un.length) e1 hlt (by kernel_rfl) (fun W => by kernel_rfl) W
      have hiy := fun W => idx_at (t := 23) (size := 5) (cap := mb.uc) (len := b.un.length) e2 hl2 (by kernel_rfl) (fun W => by kernel_rfl) W
      have HX := Lib.hid hx
      have HY := Lib.hid hy
      have heqS := fun W => eqvU x.nm y.nm x.kind x.base x.f.1 x.f.2 y.kind y.base y.f.1 y.f.2 W
      have hwr := wrap_small (n := i) (by omega)
      clear hc1 hc2 hx hy e1 e2
      by_cases he : x = y
      · have hd : decide (x.nm = y.nm ∧ x.kind = y.kind ∧ x.base = y.base ∧ x.f.1 = y.f.1 ∧ x.f.2 = y.f.2) = true := decide_eq_true (by rw [he]; simp)
        simp only [hd] at heqS
        have hp2 : Hid (∀ j, j < i + 1 → a.un[j]? = b.un[j]?) := by
          intro j hj
          by_cases q : j = i
          · rw [q, HX.out, HY.out, he]
          · exact hpre.out j (by omega)
        clear hd he hpre
        go_upto_region 6 with (fail)
        have rg0 := cell_regrown p2
        have rg1 := cell_regrown q2
        have rg2 := cell_regrown x0
        have rg3 := cell_regrown y0
        have rg4 := cell_regrown x1
        have rg5 := cell_regrown y1
        have rg6 := cell_regrown x2
        have rg7 := cell_regrown y2
        have rg8 := cell_regrown x3
        have rg9 := cell_regrown y3
        have rg10 := cell_regrown x4
        have rg11 := cell_regrown y4
        refine wp_region_qt [0, 1, 2, 3, 4, 5, 6, 7, 8, 9, 10] [] (by kernel_rfl) (by kernel_rfl) (by repeat (first | with_reducible refine panOk_then ?_ | with_reducible refine panOk_block ?_ | exact panOk_body)) ?_
        simp only [opsAt, List.getElem?_toArray, List.getElem?_cons_succ, List.getElem?_cons_zero, Option.toList_some, List.cons_append, List.nil_append]
        repeat (go_big_quiet_step (fail))
        refine wpQuiet_nil ?_
        intro W2 hw2
        have hbW2 := qt_world hw2
        clear hw2 rg0 rg1 rg2 rg3 rg4 rg5 rg6 rg7 rg8 rg9 rg10 rg11
        refine wpList_done ?_
        clear p2 q2 x0 y0 x1 y1 x2 y2 x3 y3 x4 y4
        go_wp2
        go_roundw
        case rel => exact ⟨i + 1, by omega, by simp, hp2, below_then hB.out hbW2⟩
        case measure => simp [intOf]; omega
      · have hd : decide (x.nm = y.nm ∧ x.kind = y.kind ∧ x.base = y.base ∧ x.f.1 = y.f.1 ∧ x.f.2 = y.f.2) = false := decide_eq_false fun h => he (by
          obtain ⟨z0, z1, z2, ⟨z3, z4⟩⟩ := x
          obtain ⟨t0, t1, t2, ⟨t3, t4⟩⟩ := y
          simp at h
          simp [h])
        simp only [hd] at heqS
        have hf : Hid (R = false) := by
          unfold Hid
          rw [HR0.out]
          refine decide_eq_false fun h => he ?_
          have h1 : a.un = b.un := h.1
          have := HX.out
          rw [h1, HY.out] at this
          exact (Option.some.inj this).symm
        clear hd he hpre
        go_upto_region 6 with (fail)
        have rg0 := cell_regrown p2
        have rg1 := cell_regrown q2
        have rg2 := cell_regrown x0
        have rg3 := cell_regrown y0
        have rg4 := cell_regrown x1
        have rg5 := cell_regrown y1
        have rg6 := cell_regrown x2
        have rg7 := cell_regrown y2
        have rg8 := cell_regrown x3
        have rg9 := cell_regrown y3
        have rg10 := cell_regrown x4
        have rg11 := cell_regrown y4
        refine wp_region_qt [0, 1, 2, 3, 4, 5, 6, 7, 8, 9, 10] [] (by kernel_rfl) (by kernel_rfl) (by repeat (first | with_reducible refine panOk_then ?_ | with_reducible refine panOk_block ?_ | exact panOk_body)) ?_
        simp only [opsAt, List.getElem?_toArray, List.getElem?_cons_succ, List.getElem?_cons_zero, Option.toList_some, List.cons_append, List.nil_append]
        repeat (go_big_quiet_step (fail))
        refine wpQuiet_nil ?_
        intro W2 hw2
        have hbW2 := qt_world hw2
        clear hw2 rg0 rg1 rg2 rg3 rg4 rg5 rg6 rg7 rg8 rg9 rg10 rg11
        refine wpList_done ?_
        clear p2 q2 x0 y0 x1 y1 x2 y2 x3 y3 x4 y4
        go_wp2
        go_ret
        exact ⟨ret_bool hf.out.symm, below_then HBX.out (below_then hB.out hbW2)⟩
    · have tn : decide ((i : Int) < (a.un.length : Int)) = false := decide_eq_false (by omega)
      have hE0 : Hid (a.un = b.un) := by
        refine List.ext_getElem? fun j => ?_
        by_cases hj : j < i
        · exact hpre.out j hj
        · rw [List.getElem?_eq_none (by omega), List.getElem?_eq_none (by have := HL0.out; omega)]
      have HX1 := hB
      clear hpre
      go_upto_region 9 with (fail)
      have HP1 := Lib.hid (Below.refl X.heap.size X)
      go_loopw [6] (fun u WR => ∃ (i : Nat), i ≤ a.ac.length ∧ u = .int .i64 i ∧ Hid (∀ j, j < i → a.ac[j]? = b.ac[j]?) ∧ Hid (Below X.heap.size X WR)) (fun u _ => 2000000 - (intOf u).toNat)
      case atStart => exact ⟨0, by omega, rfl, fun j hj => by omega, HX1⟩
      case round =>
        obtain ⟨i, hi', rfl, hpre, hB⟩ := hrel
        have p3 : wr.cell? ⟨ba, 3, none⟩ = some (.slice ma.a a.ac.length ma.ac) := (GA.out.then_ hB.out).cell 3
        have q3 : wr.cell? ⟨bb, 3, none⟩ = some (.slice mb.a b.ac.length mb.ac) := (GB.out.then_ hB.out).cell 3
        by_cases hlt : i < a.ac.length
        · have tn : decide ((i : Int) < (a.ac.length : Int)) = true := decide_eq_true (by omega)
          have hl2 : i < b.ac.length := by rw [← HL1.out]; exact hlt
          obtain ⟨x, hx⟩ : ∃ x : Atc, a.ac[i]? = some x := ⟨_, List.getElem?_eq_getElem hlt⟩
          obtain ⟨y, hy⟩ : ∃ y : Atc, b.ac[i]? = some y := ⟨_, List.getElem?_eq_getElem hl2⟩
          obtain ⟨b1, o1, e1, hb1, hc1⟩ := segAt (HS1.out.1.below hB.out) hx
          obtain ⟨b2, o2, e2, hb2, hc2⟩ := segAt (HS1.out.2.below hB.out) hy
          have x0 : wr.cell? ⟨b1, o1 + i * 7, none⟩ = some (.int .i64 x.kind) := by simpa using hc1 0 _ rfl
          have y0 : wr.cell? ⟨b2, o2 + i * 7, none⟩ = some (.int .i64 y.kind) := by simpa using hc2 0 _ rfl
          have x1 : wr.cell? ⟨b1, o1 + i * 7 + 1, none⟩ = some (.int .i64 x.role) := hc1 1 _ rfl
          have y1 : wr.cell? ⟨b2, o2 + i * 7 + 1, none⟩ = some (.int .i64 y.role) := hc2 1 _ rfl
          have x2 : wr.cell? ⟨b1, o1 + i * 7 + 2, none⟩ = some (.int .i64 x.give) := hc1 2 _ rfl
          have y2 : wr.cell? ⟨b2, o2 + i * 7 + 2, none⟩ = some (.int .i64 y.give) := hc2 2 _ rfl
          have x3 : wr.cell? ⟨b1, o1 + i * 7 + 3, none⟩ = some (.int .i64 x.to_) := hc1 3 _ rfl
          have y3 : wr.cell? ⟨b2, o2 + i * 7 + 3, none⟩ = some (.int .i64 y.to_) := hc2 3 _ rfl
          have x4 : wr.cell? ⟨b1, o1 + i * 7 + 4, none⟩ = some (.int .i64 x.unit) := hc1 4 _ rfl
          have y4 : wr.cell? ⟨b2, o2 + i * 7 + 4, none⟩ = some (.int .i64 y.unit) := hc2 4 _ rfl
          have x5 : wr.cell? ⟨b1, o1 + i * 7 + 5, none⟩ = some (.int .i64 x.lot.1) := hc1 5 _ rfl
          have y5 : wr.cell? ⟨b2, o2 + i * 7 + 5, none⟩ = some (.int .i64 y.lot.1) := hc2 5 _ rfl
          have x6 : wr.cell? ⟨b1, o1 + i * 7 + 6, none⟩ = some (.int .i64 x.lot.2) := hc1 6 _ rfl
          have y6 : wr.cell? ⟨b2, o2 + i * 7 + 6, none⟩ = some (.int .i64 y.lot.2) := hc2 6 _ rfl
          have hix := fun W => idx_at (t := 24) (size := 7) (cap := ma.ac) (len := a.ac.length) e1 hlt (by kernel_rfl) (fun W => by kernel_rfl) W
          have hiy := fun W => idx_at (t := 24) (size := 7) (cap := mb.ac) (len := b.ac.length) e2 hl2 (by kernel_rfl) (fun W => by kernel_rfl) W
          have HX := Lib.hid hx
          have HY := Lib.hid hy
          have heqS := fun W => eqvA x.kind x.role x.give x.to_ x.unit x.lot.1 x.lot.2 y.kind y.role y.give y.to_ y.unit y.lot.1 y.lot.2 W
          have hwr := wrap_small (n := i) (by omega)
          clear hc1 hc2 hx hy e1 e2
          by_cases he : x = y
          · have hd : decide (x.kind = y.kind ∧ x.role = y.role ∧ x.give = y.give ∧ x.to_ = y.to_ ∧ x.unit = y.unit ∧ x.lot.1 = y.lot.1 ∧ x.lot.2 = y.lot.2) = true := decide_eq_true (by rw [he]; simp)
            simp only [hd] at heqS
            have hp2 : Hid (∀ j, j < i + 1 → a.ac[j]? = b.ac[j]?) := by
              intro j hj
              by_cases q : j = i
              · rw [q, HX.out, HY.out, he]
              · exact hpre.out j (by omega)
            clear hd he hpre
            go_upto_region 11 with (fail)
            have rg0 := cell_regrown p3
            have rg1 := cell_regrown q3
            have rg2 := cell_regrown x0
            have rg3 := cell_regrown y0
            have rg4 := cell_regrown x1
            have rg5 := cell_regrown y1
            have rg6 := cell_regrown x2
            have rg7 := cell_regrown y2
            have rg8 := cell_regrown x3
            have rg9 := cell_regrown y3
            have rg10 := cell_regrown x4
            have rg11 := cell_regrown y4
            have rg12 := cell_regrown x5
            have rg13 := cell_regrown y5
            have rg14 := cell_regrown x6
            have rg15 := cell_regrown y6
            refine wp_region_qt [0, 1, 2, 3, 4, 5, 6, 7, 8, 9, 10] [] (by kernel_rfl) (by kernel_rfl) (by repeat (first | with_reducible refine panOk_then ?_ | with_reducible refine panOk_block ?_ | exact panOk_body)) ?_
            simp only [opsAt, List.getElem?_toArray, List.getElem?_cons_succ, List.getElem?_cons_zero, Option.toList_some, List.cons_append, List.nil_append]
            repeat (go_big_quiet_step (fail))
            refine wpQuiet_nil ?_
            intro W2 hw2
            have hbW2 := qt_world hw2
            clear hw2 rg0 rg1 rg2 rg3 rg4 rg5 rg6 rg7 rg8 rg9 rg10 rg11 rg12 rg13 rg14 rg15
            refine wpList_done ?_
            clear p3 q3 x0 y0 x1 y1 x2 y2 x3 y3 x4 y4 x5 y5 x6 y6
            go_wp2
            go_roundw
            case rel => exact ⟨i + 1, by omega, by simp, hp2, below_then hB.out hbW2⟩
            case measure => simp [intOf]; omega
          · have hd : decide (x.kind = y.kind ∧ x.role = y.role ∧ x.give = y.give ∧ x.to_ = y.to_ ∧ x.unit = y.unit ∧ x.lot.1 = y.lot.1 ∧ x.lot.2 = y.lot.2) = false := decide_eq_false fun h => he (by
              obtain ⟨z0, z1, z2, z3, z4, ⟨z5, z6⟩⟩ := x
              obtain ⟨t0, t1, t2, t3, t4, ⟨t5, t6⟩⟩ := y
              simp at h
              simp [h])
            simp only [hd] at heqS
            have hf : Hid (R = false) := by
              unfold Hid
              rw [HR1.out]
              refine decide_eq_false fun h => he ?_
              have h1 : a.ac = b.ac := h.2.1
              have := HX.out
              rw [h1, HY.out] at this
              exact (Option.some.inj this).symm
            clear hd he hpre
            go_upto_region 11 with (fail)
            have rg0 := cell_regrown p3
            have rg1 := cell_regrown q3
            have rg2 := cell_regrown x0
            have rg3 := cell_regrown y0
            have rg4 := cell_regrown x1
            have rg5 := cell_regrown y1
            have rg6 := cell_regrown x2
            have rg7 := cell_regrown y2
            have rg8 := cell_regrown x3
            have rg9 := cell_regrown y3
            have rg10 := cell_regrown x4
            have rg11 := cell_regrown y4
            have rg12 := cell_regrown x5
            have rg13 := cell_regrown y5
            have rg14 := cell_regrown x6
            have rg15 := cell_regrown y6
            refine wp_region_qt [0, 1, 2, 3, 4, 5, 6, 7, 8, 9, 10] [] (by kernel_rfl) (by kernel_rfl) (by repeat (first | with_reducible refine panOk_then ?_ | with_reducible refine panOk_block ?_ | exact panOk_body)) ?_
            simp only [opsAt, List.getElem?_toArray, List.getElem?_cons_succ, List.getElem?_cons_zero, Option.toList_some, List.cons_append, List.nil_append]
            repeat (go_big_quiet_step (fail))
            refine wpQuiet_nil ?_
            intro W2 hw2
            have hbW2 := qt_world hw2
            clear hw2 rg0 rg1 rg2 rg3 rg4 rg5 rg6 rg7 rg8 rg9 rg10 rg11 rg12 rg13 rg14 rg15
            refine wpList_done ?_
            clear p3 q3 x0 y0 x1 y1 x2 y2 x3 y3 x4 y4 x5 y5 x6 y6
            go_wp2
            go_ret
            exact ⟨ret_bool hf.out.symm, below_then HBX.out (below_then hB.out hbW2)⟩
        · have tn : decide ((i : Int) < (a.ac.length : Int)) = false := decide_eq_false (by omega)
          have hE1 : Hid (a.ac = b.ac) := by
            refine List.ext_getElem? fun j => ?_
            by_cases hj : j < i
            · exact hpre.out j hj
            · rw [List.getElem?_eq_none (by omega), List.getElem?_eq_none (by have := HL1.out; omega)]
          have HX2 := hB
          clear hpre
          have HCL := rclauses_any ma.k mb.k ma.kc mb.kc ma.ks mb.ks wr ((HA.out.k.below (below_then HBX.out hB.out)).more (below_then HBX.out hB.out).size) ((HB_.out.k.below (below_then HBX.out hB.out)).more (below_then HBX.out hB.out).size) (fun x hx => (HA.out.t x hx).then_ (below_then HBX.out hB.out)) (fun x hx => (HB_.out.t x hx).then_ (below_then HBX.out hB.out)) (by rw [hka]; exact HA.out.nk)
          rw [hka, hkb, HA.out.e, HB_.out.e] at HCL
          have hfin : Hid (decide (a.cl = b.cl) = R) := by
            unfold Hid
            rw [HR1.out, hE0.out, hE1.out]
            simp
          rw [hfin.out] at HCL
          have HCL := Lib.hid HCL
          have p4 : wr.cell? ⟨ba, 4, none⟩ = some (.slice ma.k a.cl.length ma.kc) := (GA.out.then_ hB.out).cell 4
          have q4 : wr.cell? ⟨bb, 4, none⟩ = some (.slice mb.k b.cl.length mb.kc) := (GB.out.then_ hB.out).cell 4
          go_wp2_with (go_at_call 31; (with_reducible refine HCL.out.mono ?_); rintro e w9 ⟨rfl, hb9⟩)
          go_ret
          exact ⟨rfl, below_then (below_then HBX.out hB.out) hb9⟩
end Go.Proofs.Ytcplneglfbdooaa
/- The walk of merge.added. -/
namespace Go.Proofs.Ytcplneglfbdooaa
open Go.RowKit

theorem addsN_take_succ {l : List Pat} {i : Nat} {p : Pat} (h : l[i]? = some p) : addsN (l.take (i + 1)) = addsN (l.take i) + (if p.kind = 1 then 1 else 0) := by
  have e : l.take (i + 1) = l.take i ++ [p] := by rw [List.take_add_one, h]; rfl
  unfold addsN
  rw [e, List.filter_append, List.length_append]
  by_cases hk : p.kind = 1 <;> simp [hk]
theorem addsN_le (l : List Pat) : addsN l ≤ l.length := List.length_filter_le _ _
set_option maxRecDepth 100000 in
set_option maxHeartbeats 3200000 in
theorem added_any (L : List Pk) (A : Option Addr) (cap : Nat) (w : World) (hs : Seg w w.heap.size 19 eP A L) (hn : L.length ≤ 1000000) :
    Calls Try.prog 32 #[.slice A L.length cap] w fun e w' => e = .returned (.int .i64 (addsN (pats L) : Nat)) ∧ Below w.heap.size w w' := by
  have HS := Lib.hid hs
  clear hs
  go_enter Try.func32, Try.ntmps32
  go_upto_region 3 with (fail)
  go_loopw [3, 8] (fun v y WR => ∃ (i n : Nat), i ≤ L.length ∧ y = .int .i64 i ∧ v = .int .i64 n ∧ n ≤ i ∧ Hid (n = addsN ((pats L).take i)) ∧ Hid (Below w.heap.size w WR)) (fun _ y _ => 2000000 - (intOf y).toNat)
  case atStart => exact ⟨0, 0, by omega, rfl, rfl, by omega, rfl, Below.refl _ _⟩
  case round =>
    obtain ⟨i, n, hi', rfl, rfl, hni, hN, hB⟩ := hrel
    by_cases hlt : i < L.length
    · have tn : decide ((i : Int) < (L.length : Int)) = true := decide_eq_true (by omega)
      obtain ⟨x, hx⟩ : ∃ x, L[i]? = some x := ⟨_, List.getElem?_eq_getElem hlt⟩
      obtain ⟨b0, o0, eA0, hb0, hc0⟩ := segAt (HS.out.below hB.out) hx
      have hrg : wr.rangeAt b0 (o0 + i * 19) (eP x) := fun j v hv => hc0 j v hv
      have hix := fun W => idx_at (t := 28) (size := 19) (cap := cap) (len := L.length) eA0 hlt (by kernel_rfl) (fun W => by kernel_rfl) W
      have HT : Hid (addsN ((pats L).take (i + 1)) = n + (if x.p.kind = 1 then 1 else 0)) := by unfold Hid; rw [addsN_take_succ (by rw [List.getElem?_map, hx]; rfl), hN.out]
      clear hc0 hx eA0
      go_upto_region 5 with (refine wpList_elem 49 el19 _ _ _ rfl rfl rfl rfl rfl rfl rfl rfl rfl b0 _ rfl (eP x) rfl hrg (by simp [Value.oneCell']) (by decide) (by simp) (by simp) ?_; simp only [Act.put, List.setIfInBounds_toArray, List.set_cons_succ, List.set_cons_zero])
      refine name_wp ?_
      intro Y hY
      have gx : Blk Y wr.heap.size 49 (pL x.p x.m) := by rw [hY]; exact Blk.new _ _ _
      have HBY : Hid (Below w.heap.size w Y) := below_then hB.out (by rw [hY]; exact wa1 _ _)
      clear hY hrg hix
      obtain ⟨bx, ex⟩ : ∃ b, wr.heap.size = b := ⟨_, rfl⟩
      rw [ex] at gx ⊢
      have x0 : Y.cell? ⟨bx, 0, none⟩ = some (.int .i64 x.p.kind) := gx.cell 0
      have hwr := wrap_small (n := n) (by omega)
      clear ex gx
      by_cases hk : x.p.kind = 1
      · have t1 : (x.p.kind == 1) = true := by simp [hk]
        rw [if_pos hk] at HT
        clear hk
        go_wp2
        go_roundw
        case rel => exact ⟨i + 1, n + 1, by omega, by simp, by simp, by omega, HT.out.symm, HBY.out⟩
        case measure => simp [intOf]; omega
      · have t1 : (x.p.kind == 1) = false := by simp [hk]
        rw [if_neg hk] at HT
        clear hk
        go_wp2
        go_roundw
        case rel => exact ⟨i + 1, n, by omega, by simp, rfl, by omega, HT.out.symm, HBY.out⟩
        case measure => simp [intOf]; omega
    · have tn : decide ((i : Int) < (L.length : Int)) = false := decide_eq_false (by omega)
      obtain rfl : i = L.length := by omega
      have hf : Hid (n = addsN (pats L)) := by
        unfold Hid
        rw [hN.out, List.take_of_length_le (by simp)]
      go_wp2
      go_ret
      exact ⟨by rw [← hf.out]; rfl, hB.out⟩
end Go.Proofs.Ytcplneglfbdooaa
/- The walk of the reference's Adds. -/
namespace Go.Proofs.Ytcplneglfbdooaa
open Go.RowKit

set_option maxRecDepth 100000 in
set_option maxHeartbeats 3200000 in
theorem radds_any (L : List Pk) (A : Option Addr) (cap : Nat) (w : World) (hs : Seg w w.heap.size 19 eP A L) (hn : L.length ≤ 1000000) :
    Calls Try.prog 15 #[.slice A L.length cap] w fun e w' => e = .returned (.int .i64 (addsN (pats L) : Nat)) ∧ Below w.heap.size w w' := by
  have HS := Lib.hid hs
  clear hs
  go_enter Try.func15, Try.ntmps15
  go_upto_region 3 with (fail)
  go_loopw [3, 4] (fun v y WR => ∃ (i n : Nat), i ≤ L.length ∧ y = .int .i64 i ∧ v = .int .i64 n ∧ n ≤ i ∧ Hid (n = addsN ((pats L).take i)) ∧ Hid (Below w.heap.size w WR)) (fun _ y _ => 2000000 - (intOf y).toNat)
  case atStart => exact ⟨0, 0, by omega, rfl, rfl, by omega, rfl, Below.refl _ _⟩
  case round =>
    obtain ⟨i, n, hi', rfl, rfl, hni, hN, hB⟩ := hrel
    by_cases hlt : i < L.length
    · have tn : decide ((i : Int) < (L.length : Int)) = true := decide_eq_true (by omega)
      obtain ⟨x, hx⟩ : ∃ x, L[i]? = some x := ⟨_, List.getElem?_eq_getElem hlt⟩
      obtain ⟨b0, o0, eA0, hb0, hc0⟩ := segAt (HS.out.below hB.out) hx
      have x0 : wr.cell? ⟨b0, o0 + i * 19, none⟩ = some (.int .i64 x.p.kind) := by simpa using hc0 0 _ rfl
      have hix := fun W => idx_at (t := 28) (size := 19) (cap := cap) (len := L.length) eA0 hlt (by kernel_rfl) (fun W => by kernel_rfl) W
      have HT : Hid (addsN ((pats L).take (i + 1)) = n + (if x.p.kind = 1 then 1 else 0)) := by unfold Hid; rw [addsN_take_succ (by rw [List.getElem?_map, hx]; rfl), hN.out]
      clear hc0 hx eA0
      have hwr := wrap_small (n := n) (by omega)
      have hwi := wrap_small (n := i) (by omega)
      by_cases hk : x.p.kind = 1
      · have t1 : (x.p.kind == 1) = true := by simp [hk]
        rw [if_pos hk] at HT
        clear hk
        go_wp2
        go_roundw
        case rel => exact ⟨i + 1, n + 1, by omega, by simp, by simp, by omega, HT.out.symm, hB.out⟩
        case measure => simp [intOf]; omega
      · have t1 : (x.p.kind == 1) = false := by simp [hk]
        rw [if_neg hk] at HT
        clear hk
        go_wp2
        go_roundw
        case rel => exact ⟨i + 1, n, by omega, by simp, rfl, by omega, HT.out.symm, hB.out⟩
        case measure => simp [intOf]; omega
    · have tn : decide ((i : Int) < (L.length : Int)) = false := decide_eq_false (by omega)
      obtain rfl : i = L.length := by omega
      have hf : Hid (n = addsN (pats L)) := by
        unfold Hid
        rw [hN.out, List.take_of_length_le (by simp)]
      go_wp2
      go_ret
      exact ⟨by rw [← hf.out]; rfl, hB.out⟩
end Go.Proofs.Ytcplneglfbdooaa
/- The walk of the reference's Small at patches. -/
namespace Go.Proofs.Ytcplneglfbdooaa
open Go.RowKit

def Pat.small (p : Pat) : Bool := decide ((p.cls.length : Int) ≤ 500) && decide ((p.new.start.length : Int) ≤ 20)
set_option maxRecDepth 100000 in
set_option maxHeartbeats 3200000 in
theorem rsmallp_any (p : Pat) (pm : Pm) (w : World) : Calls Try.prog 25 #[.agg (pL p pm)] w fun e w' => e = .returned (.bool p.small) ∧ Below w.heap.size w w' := by
  obtain ⟨e0, E0⟩ : ∃ x, decide ((p.cls.length : Int) ≤ 500) = x := ⟨_, rfl⟩
  obtain ⟨e1, E1⟩ : ∃ x, decide ((p.new.start.length : Int) ≤ 20) = x := ⟨_, rfl⟩
  have hf : Hid (p.small = (e0 && e1)) := by unfold Hid Pat.small; rw [E0, E1]
  go_enter Try.func25, Try.ntmps25
  go_upto_region 1 with (fail)
  refine name_wp ?_
  intro X hX
  have gbp : Blk X w.heap.size 49 (pL p pm) := by rw [hX]; exact blk_at (by simp)
  have HB : Below w.heap.size w X := by rw [hX]; (repeat (first | with_reducible assumption | with_reducible exact Below.refl _ _ | with_reducible refine below_drewN ?_ _ | with_reducible refine Below.drew ?_ | with_reducible refine below_alloc ?_ _ | with_reducible refine Below.setCell ?_ (by first | omega | (simp; done) | (simp; omega)) _ | with_reducible refine below_then ?_ (by with_reducible assumption) | (refine below_then (a := World.drew _) ?_ (by with_reducible assumption))))
  clear hX
  obtain ⟨bp, ebp⟩ : ∃ b, w.heap.size = b := ⟨_, rfl⟩
  have lbp : w.heap.size ≤ bp := by omega
  rw [ebp] at gbp ⊢
  clear ebp
  have p1 : X.cell? ⟨bp, 1, none⟩ = some (.slice pm.p p.cls.length pm.pc) := gbp.cell 1
  have p6 : X.cell? ⟨bp, 6, none⟩ = some (.slice pm.A p.new.start.length pm.cap) := gbp.cell 6
  have HBX := Lib.hid HB
  clear HB gbp
  cases e0
  case false => (go_wp2; go_ret; exact ⟨by rw [hf.out]; rfl, HBX.out⟩)
  cases e1
  case false => (go_wp2; go_ret; exact ⟨by rw [hf.out]; rfl, HBX.out⟩)
  case true => (go_wp2; go_ret; exact ⟨by rw [hf.out]; rfl, HBX.out⟩)
end Go.Proofs.Ytcplneglfbdooaa
/- The walk of the reference's Small at contracts. -/
namespace Go.Proofs.Ytcplneglfbdooaa
open Go.RowKit

def Con.small (c : Con) (n : Int) : Bool := !(decide ((20 : Int) < (c.hold.length : Int)) || decide ((30 : Int) < (c.un.length : Int)) || decide ((70 : Int) < (c.ac.length : Int)) || decide ((n : Int) < (c.cl.length : Int)) || decide ((100 : Int) < (c.off.length : Int))) && c.cl.all fun k => !decide ((20 : Int) < (k.start.length : Int))
set_option maxRecDepth 100000 in
set_option maxHeartbeats 3200000 in
theorem rsmallc_any (c : Con) (m : Cm) (n : Int) (w : World) (hk : Seg w w.heap.size 16 eK m.k m.ks) (he : m.ks.map (·.k) = c.cl) (hn : n ≤ 1000000) : Calls Try.prog 26 #[.agg (coA c m), .int .i64 n] w fun e w' => e = .returned (.bool (c.small n)) ∧ Below w.heap.size w w' := by
  have HK := Lib.hid hk
  have HE := Lib.hid he
  obtain ⟨e0, E0⟩ : ∃ x, decide ((20 : Int) < (c.hold.length : Int)) = x := ⟨_, rfl⟩
  obtain ⟨e1, E1⟩ : ∃ x, decide ((30 : Int) < (c.un.length : Int)) = x := ⟨_, rfl⟩
  obtain ⟨e2, E2⟩ : ∃ x, decide ((70 : Int) < (c.ac.length : Int)) = x := ⟨_, rfl⟩
  obtain ⟨e3, E3⟩ : ∃ x, decide ((n : Int) < (c.cl.length : Int)) = x := ⟨_, rfl⟩
  obtain ⟨e4, E4⟩ : ∃ x, decide ((100 : Int) < (c.off.length : Int)) = x := ⟨_, rfl⟩
  have hf : Hid (c.small n = (!(e0 || e1 || e2 || e3 || e4) && c.cl.all fun k => !decide ((20 : Int) < (k.start.length : Int)))) := by unfold Hid Con.small; rw [E0, E1, E2, E3, E4]
  have h3 : Hid ((e0 || e1 || e2 || e3 || e4) = false → c.cl.length ≤ 1000000) := by
    intro h
    simp only [Bool.or_eq_false_iff] at h
    have h2 := h.1.2
    rw [← E3] at h2
    simp at h2
    omega
  have hkl : m.ks.length = c.cl.length := by have := congrArg List.length he; simpa using this
  have HKL := Lib.hid hkl
  clear hk he hkl
  go_enter Try.func26, Try.ntmps26
  go_upto_region 1 with (fail)
  refine name_wp ?_
  intro X hX
  have gbc : Blk X w.heap.size 27 (coA c m) := by rw [hX]; exact blk_at (by simp)
  have HB : Below w.heap.size w X := by rw [hX]; (repeat (first | with_reducible assumption | with_reducible exact Below.refl _ _ | with_reducible refine below_drewN ?_ _ | with_reducible refine Below.drew ?_ | with_reducible refine below_alloc ?_ _ | with_reducible refine Below.setCell ?_ (by first | omega | (simp; done) | (simp; omega)) _ | with_reducible refine below_then ?_ (by with_reducible assumption) | (refine below_then (a := World.drew _) ?_ (by with_reducible assumption))))
  clear hX
  obtain ⟨bc, ebc⟩ : ∃ b, w.heap.size = b := ⟨_, rfl⟩
  have lbc : w.heap.size ≤ bc := by omega
  rw [ebc] at gbc ⊢
  clear ebc
  have GB := Lib.hid gbc
  have HBX := Lib.hid HB
  clear HB
  go_upto_region 1 with (fail)
  go_cut [34] from 6 to 34 (fun v W => v = .bool (e0 || e1 || e2 || e3 || e4) ∧ X = W)
  case first =>
    have p1 : X.cell? ⟨bc, 1, none⟩ = some (.slice m.h c.hold.length m.hc) := gbc.cell 1
    have p2 : X.cell? ⟨bc, 2, none⟩ = some (.slice m.u c.un.length m.uc) := gbc.cell 2
    have p3 : X.cell? ⟨bc, 3, none⟩ = some (.slice m.a c.ac.length m.ac) := gbc.cell 3
    have p4 : X.cell? ⟨bc, 4, none⟩ = some (.slice m.k c.cl.length m.kc) := gbc.cell 4
    have p6 : X.cell? ⟨bc, 6, none⟩ = some (.slice m.o c.off.length m.oc) := gbc.cell 6
    clear gbc hn
    cases e0
    case true => (go_wp2; go_meet; (case rel => exact ⟨by simp, rfl⟩))
    cases e1
    case true => (go_wp2; go_meet; (case rel => exact ⟨by simp, rfl⟩))
    cases e2
    case true => (go_wp2; go_meet; (case rel => exact ⟨by simp, rfl⟩))
    cases e3
    case true => (go_wp2; go_meet; (case rel => exact ⟨by simp, rfl⟩))
    cases e4
    case true => (go_wp2; go_meet; (case rel => exact ⟨by simp, rfl⟩))
    case false => (go_wp2; go_meet; (case rel => exact ⟨by simp, rfl⟩))
  obtain ⟨rfl, rfl⟩ := hcut
  cases hb0 : (e0 || e1 || e2 || e3 || e4) with
  | true =>
    have hr : Hid (c.small n = false) := by unfold Hid; rw [hf.out, hb0]; rfl
    clear hb0 hf h3 gbc E0 E1 E2 E3 E4
    go_wp2
    go_ret
    exact ⟨ret_bool hr.out.symm, HBX.out⟩
  | false =>
  have hl := h3.out hb0
  have hr : Hid (c.small n = c.cl.all fun k => !decide ((20 : Int) < (k.start.length : Int))) := by unfold Hid; rw [hf.out, hb0]; rfl
  clear hb0 hf h3 gbc E0 E1 E2 E3 E4
  go_upto_region 4 with (fail)
  go_loopw [5] (fun y WR => ∃ (i : Nat), i ≤ c.cl.length ∧ y = .int .i64 i ∧ Hid (∀ j k, j < i → c.cl[j]? = some k → decide ((20 : Int) < (k.start.length : Int)) = false) ∧ Hid (Below X.heap.size X WR)) (fun y _ => 2000000 - (intOf y).toNat)
  case atStart => exact ⟨0, by omega, rfl, (fun j k hj => by omega), Below.refl _ _⟩
  case round =>
    obtain ⟨i, hi', rfl, hpre, hB⟩ := hrel
    have p4 : wr.cell? ⟨bc, 4, none⟩ = some (.slice m.k c.cl.length m.kc) := (GB.out.then_ hB.out).cell 4
    by_cases hlt : i < c.cl.length
    · have tn : decide ((i : Int) < (c.cl.length : Int)) = true := decide_eq_true (by omega)
      obtain ⟨k0, hk0⟩ : ∃ k, c.cl[i]? = some k := ⟨_, List.getElem?_eq_getElem hlt⟩
      obtain ⟨x, hx, hxk⟩ := km_at HE.out hk0
      obtain ⟨b0, o0, eA0, hb0, hc0⟩ := segAt (HK.out.below (below_then HBX.out hB.out)) hx
      have x4 : wr.cell? ⟨b0, o0 + i * 16 + 4, none⟩ = some (.slice x.A x.k.start.length x.cap) := hc0 4 _ rfl
      have hix := fun W => idx_at (t := 25) (size := 16) (cap := m.kc) (len := c.cl.length) eA0 hlt (by kernel_rfl) (fun W => by kernel_rfl) W
      have HX0 := Lib.hid hk0
      have HXK := Lib.hid hxk
      clear hc0 hx hk0 hxk eA0
      have hwr := wrap_small (n := i) (by omega)
      cases ht : decide ((20 : Int) < (x.k.start.length : Int)) with
      | true =>
        have hq : Hid (c.small n = false) := by
          unfold Hid
          rw [hr.out]
          refine Bool.eq_false_iff.2 fun h => ?_
          have := List.all_eq_true.1 h k0 (List.mem_of_getElem? HX0.out)
          rw [← HXK.out, ht] at this
          cases this
        clear hpre
        go_wp2
        go_ret
        exact ⟨ret_bool hq.out.symm, below_then HBX.out hB.out⟩
      | false =>
        have hp2 : Hid (∀ j k, j < i + 1 → c.cl[j]? = some k → decide ((20 : Int) < (k.start.length : Int)) = false) := by
          intro j k hj hk
          by_cases q : j = i
          · rw [q, HX0.out] at hk
            cases hk
            rw [← HXK.out]
            exact ht
          · exact hpre.out j k (by omega) hk
        clear hpre
        go_wp2
        go_roundw
        case rel => exact ⟨i + 1, by omega, by simp, hp2, hB.out⟩
        case measure => simp [intOf]; omega
    · have tn : decide ((i : Int) < (c.cl.length : Int)) = false := decide_eq_false (by omega)
      have hq : Hid (c.small n = true) := by
        unfold Hid
        rw [hr.out]
        refine List.all_eq_true.2 fun k hk => ?_
        obtain ⟨j, hj, e⟩ := List.getElem_of_mem hk
        rw [hpre.out j k (by omega) (by rw [← e]; exact List.getElem?_eq_getElem hj)]
        rfl
      clear hpre
      go_wp2
      go_ret
      exact ⟨ret_bool hq.out.symm, below_then HBX.out hB.out⟩
end Go.Proofs.Ytcplneglfbdooaa
