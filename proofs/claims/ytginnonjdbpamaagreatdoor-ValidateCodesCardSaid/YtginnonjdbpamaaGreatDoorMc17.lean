/- Contracts of functions and plain laws, joined: Sh, Si, Sj. -/
import Derived.Test.YtginnonjdbpamaaGreatDoorMc10
import Derived.Test.YtginnonjdbpamaaGreatDoorMc12
/- The walks of system.validRun and system.validMark. -/
import Derived.Test.YtginnonjdbpamaaGreatDoorMc1
set_option maxHeartbeats 6400000
set_option maxRecDepth 100000
namespace Go.Proofs.YtginnonjdbpamaaGreatDoor
open Go.RowKit
abbrev kB (k : Cla) (A : Option Addr) (cap : Nat) : Array Value := #[.int .i64 k.kind, .int .i64 k.role, .int .i64 k.act, .int .i64 k.need, .slice A k.start.length cap, .int .i64 k.aft, .int .i64 k.grace, .bool k.bus, .bool k.fin, .int .i64 k.pause, .int .i64 k.resume, .int .i64 k.v.1, .int .i64 k.v.2, .int .i64 k.unit, .int .i64 k.to_, .bool k.waived]
theorem vrun_any (c : Con) (m : Cm) (k : Cla) (A : Option Addr) (cap : Nat) (x : Mk) (w : World) (R : Bool) (hR : R = xDt c k x) :
  Calls Tryz.prog 90 #[.agg (coA c m), .agg (kB k A cap), .agg (mA x)] w fun e w' => e = .returned (.bool R) ∧ Below w.heap.size w w' := by
 have HR := qzL hR
 clear hR
 go_enter Tryz.func90, Tryz.ntmps90
 go_upto_region 1 with (fail)
 refine xAf ?_
 intro X hX
 have ga : Blk X w.heap.size 27 (coA c m) := by rw [hX]; exact ((xA5 (by simp)).alloc _).alloc _
 have gk : Blk X (w.heap.size + 1) 52 (kB k A cap) := by rw [hX]; exact (xA5 (by simp)).alloc _
 have gm : Blk X (w.heap.size + 2) 46 (mA x) := by rw [hX]; exact xA5 (by simp)
 have HB : Below w.heap.size w X := by rw [hX]; (repeat (first | exact Below.refl _ _ | refine xAc ?_ _))
 clear hX
 have k0 : X.cell? ⟨w.heap.size, 0, none⟩ = some (.int .i64 c.par) := ga.cell 0
 have c0 : X.cell? ⟨w.heap.size + 1, 0, none⟩ = some (.int .i64 k.kind) := gk.cell 0
 have c3 : X.cell? ⟨w.heap.size + 1, 3, none⟩ = some (.int .i64 k.need) := gk.cell 3
 have c9 : X.cell? ⟨w.heap.size + 1, 9, none⟩ = some (.int .i64 k.pause) := gk.cell 9
 have c15 : X.cell? ⟨w.heap.size + 1, 15, none⟩ = some (.bool k.waived) := gk.cell 15
 have m1 : X.cell? ⟨w.heap.size + 2, 1, none⟩ = some (.int .i64 x.left) := gm.cell 1
 have m2 : X.cell? ⟨w.heap.size + 2, 2, none⟩ = some (.int .i64 x.got) := gm.cell 2
 have m3 : X.cell? ⟨w.heap.size + 2, 3, none⟩ = some (.int .i64 x.brr) := gm.cell 3
 have m4 : X.cell? ⟨w.heap.size + 2, 4, none⟩ = some (.bool x.pau) := gm.cell 4
 obtain ⟨wv, hwv⟩ : ∃ z, k.waived = z := ⟨_, rfl⟩
 obtain ⟨pu, hpu⟩ : ∃ z, x.pau = z := ⟨_, rfl⟩
 rw [hwv] at c15
 rw [hpu] at m4
 have HE := qzL (And.intro hwv hpu)
 clear hwv hpu ga gk gm
 obtain ⟨b1, t1⟩ : ∃ z, decide (x.left < 1) = z := ⟨_, rfl⟩
 obtain ⟨b2, t2⟩ : ∃ z, (k.pause == -1) = z := ⟨_, rfl⟩
 obtain ⟨b3, t3⟩ : ∃ z, (x.got != 0) = z := ⟨_, rfl⟩
 obtain ⟨b4, t4⟩ : ∃ z, (k.kind != 1) = z := ⟨_, rfl⟩
 obtain ⟨b5, t5⟩ : ∃ z, decide (x.got < 0) = z := ⟨_, rfl⟩
 obtain ⟨b6, t6⟩ : ∃ z, decide (k.need ≤ x.got) = z := ⟨_, rfl⟩
 obtain ⟨b7, t7⟩ : ∃ z, (k.kind == 4) = z := ⟨_, rfl⟩
 obtain ⟨b8, t8⟩ : ∃ z, (x.brr == -1) = z := ⟨_, rfl⟩
 obtain ⟨b9, t9⟩ : ∃ z, decide (0 ≤ x.brr) = z := ⟨_, rfl⟩
 obtain ⟨bA, tA⟩ : ∃ z, decide (x.brr < c.par) = z := ⟨_, rfl⟩
 have HS : Hid (R = (!(wv || b1 || (pu && b2)) && !(b3 && (b4 || b5 || b6)) && (if b7 = true then b8 else b9 && bA))) := by
  unfold Hid
  rw [HR.out, ← HE.out.1, ← HE.out.2, ← t1, ← t2, ← t3, ← t4, ← t5, ← t6, ← t7, ← t8, ← t9, ← tA]
  unfold xDt
  by_cases h : k.kind = 4
  ·simp [h]
  ·simp [h]
 clear HR HE
 have fl : (b3 : Bool) → True := fun _ => trivial
 clear fl
 cases wv with
 | true =>
  go_wp2
  go_ret
  exact ⟨xAb (by rw [HS.out]; simp), HB⟩
 | false =>
 cases b1 with
 | true =>
  go_wp2
  go_ret
  exact ⟨xAb (by rw [HS.out]; simp), HB⟩
 | false =>
 have first : (pu && b2) = false ∨ (pu = true ∧ b2 = true) := by cases pu <;> cases b2 <;> simp
 rcases first with hp | ⟨rfl, rfl⟩
 ·go_cut [22] from 7 to 22 (fun v W => v = .bool false ∧ X = W)
  case first =>
   cases pu with
   | false =>
    go_wp2
    go_meet
    case rel => exact ⟨rfl, rfl⟩
   | true =>
    cases b2 with
    | false =>
     go_wp2
     go_meet
     case rel => exact ⟨rfl, rfl⟩
    | true => cases hp
  obtain ⟨rfl, rfl⟩ := hcut
  have HS2 : Hid (R = (!(b3 && (b4 || b5 || b6)) && (if b7 = true then b8 else b9 && bA))) := by unfold Hid; rw [HS.out, hp]; simp
  clear HS hp
  cases b3 with
  | false =>
   have t3' : (x.got == 0) = true := by simpa [bne] using t3
   cases b7 with
   | true =>
    go_wp2
    go_ret
    exact ⟨xAb (by rw [HS2.out]; simp), HB⟩
   | false =>
    cases b9 with
    | true =>
     go_wp2
     go_ret
     exact ⟨xAb (by rw [HS2.out]; simp), HB⟩
    | false =>
     go_wp2
     go_ret
     exact ⟨xAb (by rw [HS2.out]; simp), HB⟩
  | true =>
   have t3' : (x.got == 0) = false := by simpa [bne] using t3
   cases b4 with
   | true =>
    have t4' : (k.kind == 1) = false := by simpa [bne] using t4
    go_wp2
    go_ret
    exact ⟨xAb (by rw [HS2.out]; simp), HB⟩
   | false =>
   have t4' : (k.kind == 1) = true := by simpa [bne] using t4
   cases b5 with
   | true =>
    go_wp2
    go_ret
    exact ⟨xAb (by rw [HS2.out]; simp), HB⟩
   | false =>
   cases b6 with
   | true =>
    go_wp2
    go_ret
    exact ⟨xAb (by rw [HS2.out]; simp), HB⟩
   | false =>
   cases b7 with
   | true =>
    exfalso
    have h1 := eq_of_beq t4'
    have h2 := eq_of_beq t7
    omega
   | false =>
    cases b9 with
    | true =>
     go_wp2
     go_ret
     exact ⟨xAb (by rw [HS2.out]; simp), HB⟩
    | false =>
     go_wp2
     go_ret
     exact ⟨xAb (by rw [HS2.out]; simp), HB⟩
 ·go_wp2
  go_ret
  exact ⟨xAb (by rw [HS.out]; simp), HB⟩
end Go.Proofs.YtginnonjdbpamaaGreatDoor
/- The walk of system.validMark. -/
namespace Go.Proofs.YtginnonjdbpamaaGreatDoor
open Go.RowKit
theorem eqvM (x y : Mk) (w : World) : (Op.equalIn 10000 46 (.agg #[.int .i64 x.st, .int .i64 x.left, .int .i64 x.got, .int .i64 x.brr, .bool x.pau]) (.agg #[.int .i64 y.st, .int .i64 y.left, .int .i64 y.got, .int .i64 y.brr, .bool y.pau])).run Tryz.prog w = .ok (decide (x = y)) w := by
 have e : (Tryz.prog.fieldsOf 46).toList = [{ name := "Status", type := 3, offset := 0, embedded := false, tag := "", pkgPath := "", byteOffset := 0 }, { name := "Left", type := 3, offset := 1, embedded := false, tag := "", pkgPath := "", byteOffset := 8 }, { name := "Got", type := 3, offset := 2, embedded := false, tag := "", pkgPath := "", byteOffset := 16 }, { name := "Bearer", type := 3, offset := 3, embedded := false, tag := "", pkgPath := "", byteOffset := 24 }, { name := "Paused", type := 4, offset := 4, embedded := false, tag := "", pkgPath := "", byteOffset := 32 }] := by kernel_rfl
 have px0 : (part 3 #[.int .i64 x.st, .int .i64 x.left, .int .i64 x.got, .int .i64 x.brr, .bool x.pau] 0).run Tryz.prog w = .ok (.int .i64 x.st) w := by kernel_rfl
 have px1 : (part 3 #[.int .i64 x.st, .int .i64 x.left, .int .i64 x.got, .int .i64 x.brr, .bool x.pau] 1).run Tryz.prog w = .ok (.int .i64 x.left) w := by kernel_rfl
 have px2 : (part 3 #[.int .i64 x.st, .int .i64 x.left, .int .i64 x.got, .int .i64 x.brr, .bool x.pau] 2).run Tryz.prog w = .ok (.int .i64 x.got) w := by kernel_rfl
 have px3 : (part 3 #[.int .i64 x.st, .int .i64 x.left, .int .i64 x.got, .int .i64 x.brr, .bool x.pau] 3).run Tryz.prog w = .ok (.int .i64 x.brr) w := by kernel_rfl
 have px4 : (part 4 #[.int .i64 x.st, .int .i64 x.left, .int .i64 x.got, .int .i64 x.brr, .bool x.pau] 4).run Tryz.prog w = .ok (.bool x.pau) w := by kernel_rfl
 have py0 : (part 3 #[.int .i64 y.st, .int .i64 y.left, .int .i64 y.got, .int .i64 y.brr, .bool y.pau] 0).run Tryz.prog w = .ok (.int .i64 y.st) w := by kernel_rfl
 have py1 : (part 3 #[.int .i64 y.st, .int .i64 y.left, .int .i64 y.got, .int .i64 y.brr, .bool y.pau] 1).run Tryz.prog w = .ok (.int .i64 y.left) w := by kernel_rfl
 have py2 : (part 3 #[.int .i64 y.st, .int .i64 y.left, .int .i64 y.got, .int .i64 y.brr, .bool y.pau] 2).run Tryz.prog w = .ok (.int .i64 y.got) w := by kernel_rfl
 have py3 : (part 3 #[.int .i64 y.st, .int .i64 y.left, .int .i64 y.got, .int .i64 y.brr, .bool y.pau] 3).run Tryz.prog w = .ok (.int .i64 y.brr) w := by kernel_rfl
 have py4 : (part 4 #[.int .i64 y.st, .int .i64 y.left, .int .i64 y.got, .int .i64 y.brr, .bool y.pau] 4).run Tryz.prog w = .ok (.bool y.pau) w := by kernel_rfl
 have u := Tryz.underlying3
 have v := Tryz.underlying4
 show (Op.equalIn (9998 + 1 + 1) _ _ _).run _ _ = _
 rw [run_equalIn_agg w (9998 + 1) 46 _ _ (by kernel_rfl) (by kernel_rfl), e]
 simp only [Op.eqFields, Sem.run_bind, px0, px1, px2, px3, px4, py0, py1, py2, py3, py4, Result.andThen_ok, run_equalIn_int w 9998 3 .i64 .i64 _ _ u, run_equalIn_bool' w 9998 4 _ _ v, ne_eq, Sem.run_ite, Sem.run_pure]
 have he : (x = y) ↔ (x.st = y.st ∧ x.left = y.left ∧ x.got = y.got ∧ x.brr = y.brr ∧ x.pau = y.pau) := by
  constructor
  ·rintro rfl; simp
  ·intro h
   cases x; cases y; simp_all
 rw [show decide (x = y) = decide (x.st = y.st ∧ x.left = y.left ∧ x.got = y.got ∧ x.brr = y.brr ∧ x.pau = y.pau) from decide_eq_decide.2 he]
 by_cases h0 : x.st = y.st <;> by_cases h1 : x.left = y.left <;> by_cases h2 : x.got = y.got <;> by_cases h3 : x.brr = y.brr <;> by_cases h4 : x.pau = y.pau <;> simp [h0, h1, h2, h3, h4]
theorem vmark_any (c : Con) (m : Cm) (i : Nat) (kx : Km) (x : Mk) (w : World) (hC : Cont w c m) (hk : m.ks[i]? = some kx) (R : Bool) (hR : R = xBr c kx.k x) :
  Calls Tryz.prog 63 #[.agg (coA c m), .int .i64 (i : Nat), .agg (mA x)] w fun e w' => e = .returned (.bool R) ∧ Below w.heap.size w w' := by
 have HR := qzL hR
 obtain ⟨v, hv⟩ : ∃ v, xDt c kx.k x = v := ⟨_, rfl⟩
 have HV := qzL (fun W => vrun_any c m kx.k kx.A kx.cap x W v hv.symm)
 have HVE := qzL hv
 have hik : i < c.cl.length := by rw [← hC.e]; simpa using (qzM hk).1
 have nk := hC.nk
 obtain ⟨b0, o0, eA0, hb0, hc0⟩ := xAx hC.k hk
 have hix0 := fun W => xAq (t := 25) (size := 16) (cap := m.kc) eA0 hik (by kernel_rfl) (fun W => by kernel_rfl) W
 have hrg0 : w.rangeAt b0 (o0 + i * 16) (kL kx) := fun j v hv => hc0 j v hv
 clear hR hv hC hk hc0 eA0
 go_enter Tryz.func63, Tryz.ntmps63
 go_upto_region 1 with (fail)
 refine xAf ?_
 intro X hX
 have ga : Blk X w.heap.size 27 (coA c m) := by rw [hX]; exact (xA5 (by simp)).alloc _
 have gm : Blk X (w.heap.size + 1) 46 (mA x) := by rw [hX]; exact xA5 (by simp)
 have HB : Below w.heap.size w X := by rw [hX]; (repeat (first | exact Below.refl _ _ | refine xAc ?_ _))
 have hrg : X.rangeAt b0 (o0 + i * 16) (kL kx) := fun j v hv => (HB.cell (p := ⟨b0, _, none⟩) hb0).trans (hrg0 j v hv)
 obtain ⟨bm, ebm⟩ : ∃ b, w.heap.size + 1 = b := ⟨_, rfl⟩
 obtain ⟨ba, eba⟩ : ∃ b, w.heap.size = b := ⟨_, rfl⟩
 rw [ebm] at gm ⊢
 rw [eba] at ga ⊢
 clear hX ebm eba hrg0
 have k4 : X.cell? ⟨ba, 4, none⟩ = some (.slice m.k c.cl.length m.kc) := ga.cell 4
 go_upto_region 2 with ((refine xAo 52 el16 _ _ _ rfl rfl rfl rfl rfl rfl rfl rfl rfl b0 _ rfl (kL kx) rfl hrg (by simp [Value.oneCell']) (by decide) (by simp) (by simp) ?_; simp only [Act.put, qzG, qzH, qzI]))
 refine xAf ?_
 intro Y hY
 have gk : Blk Y X.heap.size 52 (kL kx).toArray := by rw [hY]; exact Blk.new _ _ _
 have HXY : Below X.heap.size X Y := by rw [hY]; exact wa1 _ _
 have HY := qzL (xAa HB HXY)
 have gaY := ga.then_ HXY
 have gmY := gm.then_ HXY
 obtain ⟨bk, ebk⟩ : ∃ b, X.heap.size = b := ⟨_, rfl⟩
 rw [ebk] at gk ⊢
 clear hY ebk HB hrg k4 ga gm HXY
 obtain ⟨k0, k1, k2, k3, k4, k5, k6⟩ := coC (c := c) (m := m) gaY rfl
 have m0 : Y.cell? ⟨bm, 0, none⟩ = some (.int .i64 x.st) := gmY.cell 0
 have m1 : Y.cell? ⟨bm, 1, none⟩ = some (.int .i64 x.left) := gmY.cell 1
 have m2 : Y.cell? ⟨bm, 2, none⟩ = some (.int .i64 x.got) := gmY.cell 2
 have m3 : Y.cell? ⟨bm, 3, none⟩ = some (.int .i64 x.brr) := gmY.cell 3
 have m4 : Y.cell? ⟨bm, 4, none⟩ = some (.bool x.pau) := gmY.cell 4
 have c0 : Y.cell? ⟨bk, 0, none⟩ = some (.int .i64 kx.k.kind) := gk.cell 0
 have c1 : Y.cell? ⟨bk, 1, none⟩ = some (.int .i64 kx.k.role) := gk.cell 1
 have c2 : Y.cell? ⟨bk, 2, none⟩ = some (.int .i64 kx.k.act) := gk.cell 2
 have c3 : Y.cell? ⟨bk, 3, none⟩ = some (.int .i64 kx.k.need) := gk.cell 3
 have c4 : Y.cell? ⟨bk, 4, none⟩ = some (.slice kx.A kx.k.start.length kx.cap) := gk.cell 4
 have c5 : Y.cell? ⟨bk, 5, none⟩ = some (.int .i64 kx.k.aft) := gk.cell 5
 have c6 : Y.cell? ⟨bk, 6, none⟩ = some (.int .i64 kx.k.grace) := gk.cell 6
 have c7 : Y.cell? ⟨bk, 7, none⟩ = some (.bool kx.k.bus) := gk.cell 7
 have c8 : Y.cell? ⟨bk, 8, none⟩ = some (.bool kx.k.fin) := gk.cell 8
 have c9 : Y.cell? ⟨bk, 9, none⟩ = some (.int .i64 kx.k.pause) := gk.cell 9
 have c10 : Y.cell? ⟨bk, 10, none⟩ = some (.int .i64 kx.k.resume) := gk.cell 10
 have c11 : Y.cell? ⟨bk, 11, none⟩ = some (.int .i64 kx.k.v.1) := gk.cell 11
 have c12 : Y.cell? ⟨bk, 12, none⟩ = some (.int .i64 kx.k.v.2) := gk.cell 12
 have c13 : Y.cell? ⟨bk, 13, none⟩ = some (.int .i64 kx.k.unit) := gk.cell 13
 have c14 : Y.cell? ⟨bk, 14, none⟩ = some (.int .i64 kx.k.to_) := gk.cell 14
 have c15 : Y.cell? ⟨bk, 15, none⟩ = some (.bool kx.k.waived) := gk.cell 15
 clear gaY gmY gk
 cases s0 : (x.st == 0) with
 | true =>
  have hs : x.st = 0 := eq_of_beq s0
  obtain ⟨wv, hwv⟩ : ∃ z, kx.k.waived = z := ⟨_, rfl⟩
  rw [hwv] at c15
  have HW := qzL hwv
  clear hwv
  obtain ⟨q0, hq0⟩ : ∃ z, decide (x = Mk.idle) = z := ⟨_, rfl⟩
  have hf : Hid (R = (!wv && q0)) := by unfold Hid; rw [HR.out, ← HW.out, ← hq0]; unfold xBr; rw [if_pos hs]
  have heq : ∀ W : World, (Op.equalIn 10000 46 (.agg #[.int .i64 x.st, .int .i64 x.left, .int .i64 x.got, .int .i64 x.brr, .bool x.pau]) (.agg #[.int .i64 0, .int .i64 0, .int .i64 0, .int .i64 (-1), .bool false])).run Tryz.prog W = .ok q0 W := fun W => by rw [← hq0]; exact eqvM x Mk.idle W
  clear hs hq0
  cases wv with
  | true =>
   go_wp2
   go_ret
   exact ⟨xAb (by rw [hf.out]; rfl), HY.out⟩
  | false =>
   go_wp2
   go_ret
   exact ⟨xAb (by rw [hf.out]; rfl), HY.out⟩
 | false =>
 have n0 : x.st ≠ 0 := by intro e; rw [e] at s0; simp at s0
 cases s1 : (x.st == 1) with
 | true =>
  have hs : x.st = 1 := eq_of_beq s1
  obtain ⟨q1, hq1⟩ : ∃ z, decide (x.left ≤ kx.k.aft) = z := ⟨_, rfl⟩
  have hf : Hid (R = (q1 && v)) := by unfold Hid; rw [HR.out, ← hq1, ← HVE.out]; unfold xBr; rw [if_neg n0, if_pos hs]
  clear hs n0
  cases q1 with
  | false =>
   go_wp2
   go_ret
   exact ⟨xAb (by rw [hf.out]; rfl), HY.out⟩
  | true =>
   go_wp2_with (go_at_call 90; (with_reducible refine (HV.out _).mono ?_); rintro e w1 ⟨rfl, hb1⟩)
   go_ret
   exact ⟨xAb (by rw [hf.out]; simp), xAa HY.out hb1⟩
 | false =>
 have n1 : x.st ≠ 1 := by intro e; rw [e] at s1; simp at s1
 cases s2 : (x.st == 2) with
 | true =>
  have hs : x.st = 2 := eq_of_beq s2
  obtain ⟨q1, hq1⟩ : ∃ z, (kx.k.kind == 1) = z := ⟨_, rfl⟩
  obtain ⟨q2, hq2⟩ : ∃ z, decide (x.left ≤ kx.k.grace) = z := ⟨_, rfl⟩
  have hf : Hid (R = (q1 && q2 && v)) := by unfold Hid; rw [HR.out, ← hq1, ← hq2, ← HVE.out]; unfold xBr; rw [if_neg n0, if_neg n1, if_pos hs]
  clear hs n0 n1
  cases q1 with
  | false =>
   go_wp2
   go_ret
   exact ⟨xAb (by rw [hf.out]; rfl), HY.out⟩
  | true =>
  cases q2 with
  | false =>
   go_wp2
   go_ret
   exact ⟨xAb (by rw [hf.out]; rfl), HY.out⟩
  | true =>
   go_wp2_with (go_at_call 90; (with_reducible refine (HV.out _).mono ?_); rintro e w1 ⟨rfl, hb1⟩)
   go_ret
   exact ⟨xAb (by rw [hf.out]; simp), xAa HY.out hb1⟩
 | false =>
 have n2 : x.st ≠ 2 := by intro e; rw [e] at s2; simp at s2
 by_cases h3 : x.st = 3 ∨ x.st = 4 ∨ x.st = 5
 ·obtain ⟨q1, hq1⟩ : ∃ z, (x.left == 0) = z := ⟨_, rfl⟩
  obtain ⟨q2, hq2⟩ : ∃ z, decide (0 ≤ x.got) = z := ⟨_, rfl⟩
  obtain ⟨q3, hq3⟩ : ∃ z, decide (x.got ≤ 9) = z := ⟨_, rfl⟩
  obtain ⟨q4, hq4⟩ : ∃ z, decide (-1 ≤ x.brr) = z := ⟨_, rfl⟩
  obtain ⟨q5, hq5⟩ : ∃ z, decide (x.brr < c.par) = z := ⟨_, rfl⟩
  obtain ⟨q6, hq6⟩ : ∃ z, x.pau = z := ⟨_, rfl⟩
  rw [hq6] at m4
  have hf : Hid (R = (q1 && q2 && q3 && q4 && q5 && !q6)) := by unfold Hid; rw [HR.out, ← hq1, ← hq2, ← hq3, ← hq4, ← hq5, ← hq6]; unfold xBr; rw [if_neg n0, if_neg n1, if_neg n2, if_pos h3]
  clear hq6 n0 n1 n2
  have h345 : (x.st == 3) = true ∨ ((x.st == 3) = false ∧ (x.st == 4) = true) ∨ ((x.st == 3) = false ∧ (x.st == 4) = false ∧ (x.st == 5) = true) := by
   rcases h3 with e | e | e
   ·exact .inl (by rw [e]; rfl)
   ·exact .inr (.inl ⟨by rw [e]; rfl, by rw [e]; rfl⟩)
   ·exact .inr (.inr ⟨by rw [e]; rfl, by rw [e]; rfl, by rw [e]; rfl⟩)
  clear h3
  rcases h345 with s3 | ⟨s3, s4⟩ | ⟨s3, s4, s5⟩
  all_goals (
   cases q1 with
   | false =>
    go_wp2
    go_ret
    exact ⟨xAb (by rw [hf.out]; simp), HY.out⟩
   | true =>
   cases q2 with
   | false =>
    go_wp2
    go_ret
    exact ⟨xAb (by rw [hf.out]; simp), HY.out⟩
   | true =>
   cases q3 with
   | false =>
    go_wp2
    go_ret
    exact ⟨xAb (by rw [hf.out]; simp), HY.out⟩
   | true =>
   cases q4 with
   | false =>
    go_wp2
    go_ret
    exact ⟨xAb (by rw [hf.out]; simp), HY.out⟩
   | true =>
   cases q5 with
   | false =>
    go_wp2
    go_ret
    exact ⟨xAb (by rw [hf.out]; simp), HY.out⟩
   | true =>
    go_wp2
    go_ret
    exact ⟨xAb (by rw [hf.out]; simp), HY.out⟩)
 ·have n3 : x.st ≠ 3 := fun e => h3 (.inl e)
  have n4 : x.st ≠ 4 := fun e => h3 (.inr (.inl e))
  have n5 : x.st ≠ 5 := fun e => h3 (.inr (.inr e))
  have hf : Hid (R = false) := by unfold Hid; rw [HR.out]; unfold xBr; rw [if_neg n0, if_neg n1, if_neg n2, if_neg h3]
  have s3 : (x.st == 3) = false := by simpa using n3
  have s4 : (x.st == 4) = false := by simpa using n4
  have s5 : (x.st == 5) = false := by simpa using n5
  clear n0 n1 n2 n3 n4 n5 h3
  go_wp2
  go_ret
  exact ⟨xAb hf.out.symm, HY.out⟩
end Go.Proofs.YtginnonjdbpamaaGreatDoor
/- The walk of system.Valid. -/
namespace Go.Proofs.YtginnonjdbpamaaGreatDoor
open Go.RowKit
def hOk (c : Con) (h : Int) : Bool := decide (0 ≤ h) && decide (h < c.par)
def mOk (c : Con) (s : Sta) (i : Nat) : Bool := match c.cl[i]?, s.marks[i]? with | some k, some m => xBr c k m && !rdy c s.marks i | _, _ => false
theorem svalid_any (c : Con) (m : Cm) (s : Sta) (q : Qm) (w : World) (hC : Cont w c m) (hS : Stm w s q) :
  Calls Tryz.prog 34 #[.agg (coA c m), .agg (stA s q)] w fun e w' => e = .returned (.bool (s.ok c)) ∧ Below w.heap.size w w' := by
 obtain ⟨R, hR⟩ : ∃ r, s.ok c = r := ⟨_, rfl⟩
 rw [hR]
 have HR : Hid (R = (c.ok && decide (0 ≤ s.day) && decide (s.day ≤ c.days) && s.hol.length == c.hold.length && s.used.length == c.ac.length && s.marks.length == c.cl.length
  && s.hol.all (hOk c) && (List.zipWith (fun (a : Atc) u => !(u && a.kind == 1)) c.ac s.used).all id && (List.range s.marks.length).all (mOk c s))) := hR.symm
 have HC := qzL hC
 have HS := qzL hS
 have HV := qzL (fun W (hb : Below w.heap.size w W) => xGn c m W (hC.then_ hb))
 have nh := hS.nh
 have nu := hS.nu
 have nm := hS.nm
 clear hR hC hS
 go_enter Tryz.func34, Tryz.ntmps34
 go_upto_region 1 with (fail)
 refine xAf ?_
 intro X hX
 have ga : Blk X w.heap.size 27 (coA c m) := by rw [hX]; exact (xA5 (by simp)).alloc _
 have gs : Blk X (w.heap.size + 1) 43 (stA s q) := by rw [hX]; exact xA5 (by simp)
 have HB : Below w.heap.size w X := by rw [hX]; (repeat (first | exact Below.refl _ _ | refine xAc ?_ _))
 obtain ⟨bs, ebs⟩ : ∃ b, w.heap.size + 1 = b := ⟨_, rfl⟩
 obtain ⟨ba, eba⟩ : ∃ b, w.heap.size = b := ⟨_, rfl⟩
 rw [ebs] at gs ⊢
 rw [eba] at ga ⊢
 clear hX ebs eba
 obtain ⟨k0, k1, k2, k3, k4, k5, k6⟩ := coC (c := c) (m := m) ga rfl
 obtain ⟨s0, s1, s2, s3⟩ := stC (c := s) (m := q) gs rfl
 cases hok : c.ok with
 | false =>
  have hf : Hid (R = false) := by unfold Hid; rw [HR.out, hok]; rfl
  go_wp2_with (go_at_call 50; (with_reducible refine (HV.out _ HB).mono ?_); rintro e w1 ⟨⟨ea, eb, rfl, he⟩, hb1⟩; have hea : (ea == 0) = false := (by cases hq : (ea == 0) with | false => rfl | true => exact absurd (he.1 (eq_of_beq hq)) (by rw [hok]; decide)); have hea' : (ea != 0) = true := (by simp [bne, hea]); clear he)
  go_ret
  exact ⟨xAb hf.out.symm, xAa HB hb1⟩
 | true =>
 have HOK := qzL hok
 clear hok
 go_upto_region 4 with (go_at_call 50; (with_reducible refine (HV.out _ HB).mono ?_); rintro e w1 ⟨⟨ea, eb, rfl, he⟩, hb1⟩; obtain rfl : ea = 0 := he.2 HOK.out; clear he)
 refine xAf ?_
 intro Y hY
 have gaY : Blk Y ba 27 (coA c m) := by rw [hY]; exact ga.then_ hb1
 have gsY : Blk Y bs 43 (stA s q) := by rw [hY]; exact gs.then_ hb1
 have hYB : Hid (Below w.heap.size w Y) := by rw [hY]; exact xAa HB hb1
 clear hY hb1 HB ga gs HV k0 k1 k2 k3 k4 k5 k6 s0 s1 s2 s3
 obtain ⟨k0, k1, k2, k3, k4, k5, k6⟩ := coC (c := c) (m := m) gaY rfl
 obtain ⟨s0, s1, s2, s3⟩ := stC (c := s) (m := q) gsY rfl
 obtain ⟨b1, t1⟩ : ∃ z, decide (s.day < 0) = z := ⟨_, rfl⟩
 cases b1 with
 | true =>
  have hf : Hid (R = false) := by unfold Hid; rw [HR.out, qzN (show ¬ 0 ≤ s.day by have := of_decide_eq_true t1; omega)]; simp
  go_wp2
  go_ret
  exact ⟨xAb hf.out.symm, hYB.out⟩
 | false =>
 obtain ⟨b2, t2⟩ : ∃ z, decide (c.days < s.day) = z := ⟨_, rfl⟩
 cases b2 with
 | true =>
  have hf : Hid (R = false) := by unfold Hid; rw [HR.out, qzN (show ¬ s.day ≤ c.days by have := of_decide_eq_true t2; omega)]; simp
  go_wp2
  go_ret
  exact ⟨xAb hf.out.symm, hYB.out⟩
 | false =>
 have hd1 : decide (0 ≤ s.day) = true := qzO (by have := of_decide_eq_false t1; omega)
 have hd2 : decide (s.day ≤ c.days) = true := qzO (by have := of_decide_eq_false t2; omega)
 have HR2 : Hid (R = (s.hol.length == c.hold.length && s.used.length == c.ac.length && s.marks.length == c.cl.length
  && s.hol.all (hOk c) && (List.zipWith (fun (a : Atc) u => !(u && a.kind == 1)) c.ac s.used).all id && (List.range s.marks.length).all (mOk c s))) := by unfold Hid; rw [HR.out, HOK.out, hd1, hd2]; rfl
 clear HR hd1 hd2
 cases e1 : (s.hol.length == c.hold.length) with
 | false =>
  have hne : ¬ s.hol.length = c.hold.length := by simpa using e1
  have t3 : (((s.hol.length : Nat) : Int) == ((c.hold.length : Nat) : Int)) = false := beq_eq_false_iff_ne.2 (by omega)
  have t3' : (((s.hol.length : Nat) : Int) != ((c.hold.length : Nat) : Int)) = true := bne_iff_ne.2 (by omega)
  have hf : Hid (R = false) := by unfold Hid; rw [HR2.out, e1]; rfl
  clear hne
  go_wp2
  go_ret
  exact ⟨xAb hf.out.symm, hYB.out⟩
 | true =>
 have he1 : s.hol.length = c.hold.length := by simpa using e1
 have t3 : (((s.hol.length : Nat) : Int) == ((c.hold.length : Nat) : Int)) = true := by simp [he1]
 have t3' : (((s.hol.length : Nat) : Int) != ((c.hold.length : Nat) : Int)) = false := by simp [he1]
 have HE1 := qzL he1
 clear he1
 cases e2 : (s.used.length == c.ac.length) with
 | false =>
  have hne : ¬ s.used.length = c.ac.length := by simpa using e2
  have t4 : (((s.used.length : Nat) : Int) == ((c.ac.length : Nat) : Int)) = false := beq_eq_false_iff_ne.2 (by omega)
  have t4' : (((s.used.length : Nat) : Int) != ((c.ac.length : Nat) : Int)) = true := bne_iff_ne.2 (by omega)
  have hf : Hid (R = false) := by unfold Hid; rw [HR2.out, e2]; simp
  clear hne
  go_wp2
  go_ret
  exact ⟨xAb hf.out.symm, hYB.out⟩
 | true =>
 have he2 : s.used.length = c.ac.length := by simpa using e2
 have t4 : (((s.used.length : Nat) : Int) == ((c.ac.length : Nat) : Int)) = true := by simp [he2]
 have t4' : (((s.used.length : Nat) : Int) != ((c.ac.length : Nat) : Int)) = false := by simp [he2]
 have HE2 := qzL he2
 clear he2
 cases e3 : (s.marks.length == c.cl.length) with
 | false =>
  have hne : ¬ s.marks.length = c.cl.length := by simpa using e3
  have t5 : (((s.marks.length : Nat) : Int) == ((c.cl.length : Nat) : Int)) = false := beq_eq_false_iff_ne.2 (by omega)
  have t5' : (((s.marks.length : Nat) : Int) != ((c.cl.length : Nat) : Int)) = true := bne_iff_ne.2 (by omega)
  have hf : Hid (R = false) := by unfold Hid; rw [HR2.out, e3]; simp
  clear hne
  go_wp2
  go_ret
  exact ⟨xAb hf.out.symm, hYB.out⟩
 | true =>
 have he3 : s.marks.length = c.cl.length := by simpa using e3
 have t5 : (((s.marks.length : Nat) : Int) == ((c.cl.length : Nat) : Int)) = true := by simp [he3]
 have t5' : (((s.marks.length : Nat) : Int) != ((c.cl.length : Nat) : Int)) = false := by simp [he3]
 have HE3 := qzL he3
 have HR3 : Hid (R = (s.hol.all (hOk c) && (List.zipWith (fun (a : Atc) u => !(u && a.kind == 1)) c.ac s.used).all id && (List.range s.marks.length).all (mOk c s))) := by unfold Hid; rw [HR2.out, e1, e2, e3]; rfl
 clear he3 HR2 e1 e2 e3
 go_upto_region 7 with (fail)
 clear t1 t2 t3 t3' t4 t4' t5 t5' k0 k1 k2 k3 k4 k5 k6 s0 s1 s2 s3
 go_loopw [59] (fun y WR => ∃ j : Nat, j ≤ s.hol.length ∧ y = .int .i64 j ∧ Hid (∀ n h, n < j → s.hol[n]? = some h → hOk c h = true) ∧ Y = WR) (fun y _ => 2000000 - (intOf y).toNat)
 case atStart => exact ⟨0, by omega, rfl, fun n u h => absurd h (by omega), rfl⟩
 case round =>
  obtain ⟨j, hj, rfl, hN, rfl⟩ := hrel
  by_cases hlt : j < s.hol.length
  ·have tj : decide ((j : Int) < (s.hol.length : Int)) = true := qzO (by omega)
   obtain ⟨h, hh⟩ : ∃ h, s.hol[j]? = some h := ⟨_, qzJ hlt⟩
   obtain ⟨b0, o0, eA0, hb0, hc0⟩ := xAx (HS.out.then_ hYB.out).h hh
   have hix := fun W => xAq (t := 22) (size := 1) (cap := q.hc) eA0 hlt (by kernel_rfl) (fun W => by kernel_rfl) W
   have d0 : Y.cell? ⟨b0, o0 + j, none⟩ = some (.int .i64 h) := by simpa using hc0 0 _ rfl
   have k0 : Y.cell? ⟨ba, 0, none⟩ = some (.int .i64 c.par) := gaY.cell 0
   simp only [Nat.mul_one] at hix
   have HH := qzL hh
   clear hc0 eA0 hh
   have bad : hOk c h = false → Hid (R = false) := fun e => by
    unfold Hid
    rw [HR3.out, show s.hol.all (hOk c) = false from List.all_eq_false.2 ⟨h, qzK HH.out, by rw [e]; simp⟩]; rfl
   by_cases h1 : h < 0
   ·have t1 := qzO h1
    have hf := bad (by unfold hOk; rw [qzN (show ¬ 0 ≤ h by omega)]; rfl)
    clear h1 bad
    go_wp2
    go_ret
    exact ⟨xAb hf.out.symm, hYB.out⟩
   have t1 := qzN h1
   by_cases h2 : c.par ≤ h
   ·have t2 := qzO h2
    have hf := bad (by unfold hOk; rw [qzN (show ¬ h < c.par by omega)]; simp)
    clear h1 h2 bad
    go_wp2
    go_ret
    exact ⟨xAb hf.out.symm, hYB.out⟩
   have t2 := qzN h2
   have hg : hOk c h = true := by unfold hOk; rw [qzO (show 0 ≤ h by omega), qzO (show h < c.par by omega)]; rfl
   clear h1 h2 bad
   go_wp2
   go_roundw
   case rel => exact ⟨j + 1, by omega, by simp, fun n y hi hy => by
    by_cases e : n = j
    ·subst e
     rw [HH.out] at hy
     cases hy
     exact hg
    ·exact hN.out n y (by omega) hy, by first | trivial | rfl⟩
   case measure => simp [intOf]; omega
  have tj : decide ((j : Int) < (s.hol.length : Int)) = false := qzN (by omega)
  have HR4 : Hid (R = ((List.zipWith (fun (a : Atc) u => !(u && a.kind == 1)) c.ac s.used).all id && (List.range s.marks.length).all (mOk c s))) := by
   unfold Hid
   rw [HR3.out, show s.hol.all (hOk c) = true from List.all_eq_true.2 fun x hx => by
    obtain ⟨n, hn⟩ := List.getElem?_of_mem hx
    exact hN.out n x (by have := (qzM hn).1; omega) hn]
   rfl
  have s2 : Y.cell? ⟨bs, 2, none⟩ = some (.slice q.u s.used.length q.uc) := gsY.cell 2
  clear HR3 hN
  go_upto_region 13 with (fail)
  clear s2 tj hlt
  go_loopw [75] (fun y WR => ∃ j : Nat, j ≤ s.used.length ∧ y = .int .i64 j ∧ Hid (∀ (n : Nat) a u, n < j → c.ac[n]? = some a → s.used[n]? = some u → (!(u && a.kind == 1)) = true) ∧ Y = WR) (fun y _ => 2000000 - (intOf y).toNat)
  case atStart => exact ⟨0, by omega, rfl, fun n a u h => absurd h (by omega), rfl⟩
  case round =>
   obtain ⟨j, hj, rfl, hN, rfl⟩ := hrel
   by_cases hlt : j < s.used.length
   ·have tj : decide ((j : Int) < (s.used.length : Int)) = true := qzO (by omega)
    obtain ⟨u, hu⟩ : ∃ u, s.used[j]? = some u := ⟨_, qzJ hlt⟩
    have hja : j < c.ac.length := by have := HE2.out; omega
    obtain ⟨a, ha⟩ : ∃ a, c.ac[j]? = some a := ⟨_, qzJ hja⟩
    obtain ⟨b0, o0, eA0, hb0, hc0⟩ := xAx (HS.out.then_ hYB.out).u hu
    have hix := fun W => xAq (t := 40) (size := 1) (cap := q.uc) eA0 hlt (by kernel_rfl) (fun W => by kernel_rfl) W
    have d0 : Y.cell? ⟨b0, o0 + j, none⟩ = some (.bool u) := by simpa using hc0 0 _ rfl
    simp only [Nat.mul_one] at hix
    obtain ⟨b1, o1, eA1, hb1, hc1⟩ := xAx (HC.out.then_ hYB.out).a ha
    have hix1 := fun W => xAq (t := 24) (size := 7) (cap := m.ac) eA1 hja (by kernel_rfl) (fun W => by kernel_rfl) W
    have d1 : Y.cell? ⟨b1, o1 + j * 7, none⟩ = some (.int .i64 a.kind) := hc1 0 _ rfl
    have k3 : Y.cell? ⟨ba, 3, none⟩ = some (.slice m.a c.ac.length m.ac) := gaY.cell 3
    have na := HC.out.na
    have HU := qzL hu
    have HA := qzL ha
    clear hc0 eA0 hc1 eA1 hu ha
    have good : (!(u && a.kind == 1)) = true → ∀ (n : Nat) a' u', n < j + 1 → c.ac[n]? = some a' → s.used[n]? = some u' → (!(u' && a'.kind == 1)) = true := fun hg n a' u' hi h1 h2 => by
     by_cases e : n = j
     ·subst e
      rw [HA.out] at h1
      rw [HU.out] at h2
      cases h1
      cases h2
      exact hg
     ·exact hN.out n a' u' (by omega) h1 h2
    cases u with
    | false =>
     have hg := qzL (good rfl)
     clear good
     go_wp2
     go_roundw
     case rel => exact ⟨j + 1, by omega, by simp, hg.out, by first | trivial | rfl⟩
     case measure => simp [intOf]; omega
    | true =>
    cases t1 : (a.kind == 1) with
    | false =>
     have hg := qzL (good (by rw [t1]; rfl))
     clear good
     go_wp2
     go_roundw
     case rel => exact ⟨j + 1, by omega, by simp, hg.out, by first | trivial | rfl⟩
     case measure => simp [intOf]; omega
    | true =>
     have hf : Hid (R = false) := by
      unfold Hid
      rw [HR4.out]
      have : (List.zipWith (fun (a : Atc) u => !(u && a.kind == 1)) c.ac s.used).all id = false := by
       rw [Bool.eq_false_iff]
       intro h
       have := (xGi (f := fun (a : Atc) u => !(u && a.kind == 1)).1 h) j a true HA.out HU.out
       rw [t1] at this
       cases this
      rw [this]; rfl
     clear good
     go_wp2
     go_ret
     exact ⟨xAb hf.out.symm, hYB.out⟩
   have tj : decide ((j : Int) < (s.used.length : Int)) = false := qzN (by omega)
   have HR5 : Hid (R = (List.range s.marks.length).all (mOk c s)) := by
    unfold Hid
    rw [HR4.out, show (List.zipWith (fun (a : Atc) u => !(u && a.kind == 1)) c.ac s.used).all id = true from (xGi (f := fun (a : Atc) u => !(u && a.kind == 1))).2 fun i a u h1 h2 => hN.out i a u (by have := (qzM h2).1; omega) h1 h2]
    rfl
   have s3 : Y.cell? ⟨bs, 3, none⟩ = some (.slice q.m s.marks.length q.mc) := gsY.cell 3
   clear HR4 hN
   go_upto_region 19 with (fail)
   clear s3 tj hlt
   go_loopw [94] (fun y WR => ∃ j : Nat, j ≤ s.marks.length ∧ y = .int .i64 j ∧ Hid (∀ n, n < j → mOk c s n = true) ∧ Below Y.heap.size Y WR) (fun y _ => 2000000 - (intOf y).toNat)
   case atStart => exact ⟨0, by omega, rfl, fun n h => absurd h (by omega), Below.refl _ _⟩
   case round =>
    obtain ⟨j, hj, rfl, hN, hbr⟩ := hrel
    by_cases hlt : j < s.marks.length
    ·have tj : decide ((j : Int) < (s.marks.length : Int)) = true := qzO (by omega)
     obtain ⟨x, hx⟩ : ∃ x, s.marks[j]? = some x := ⟨_, qzJ hlt⟩
     have hjc : j < c.cl.length := by have := HE3.out; omega
     obtain ⟨k, hk⟩ : ∃ k, c.cl[j]? = some k := ⟨_, qzJ hjc⟩
     obtain ⟨kx, hkx, hkk⟩ := xCv HC.out.e hk
     have hwr := qzL (xAa hYB.out hbr)
     obtain ⟨b0, o0, eA0, hb0, hc0⟩ := xAx (HS.out.then_ hwr.out).m hx
     have hix := fun W => xAq (t := 41) (size := 5) (cap := q.mc) eA0 hlt (by kernel_rfl) (fun W => by kernel_rfl) W
     have d0 : wr.cell? ⟨b0, o0 + j * 5, none⟩ = some (.int .i64 x.st) := hc0 0 _ rfl
     have d1 : wr.cell? ⟨b0, o0 + j * 5 + 1, none⟩ = some (.int .i64 x.left) := hc0 1 _ rfl
     have d2 : wr.cell? ⟨b0, o0 + j * 5 + 2, none⟩ = some (.int .i64 x.got) := hc0 2 _ rfl
     have d3 : wr.cell? ⟨b0, o0 + j * 5 + 3, none⟩ = some (.int .i64 x.brr) := hc0 3 _ rfl
     have d4 : wr.cell? ⟨b0, o0 + j * 5 + 4, none⟩ = some (.bool x.pau) := hc0 4 _ rfl
     have gaW := gaY.then_ hbr
     have gsW := gsY.then_ hbr
     obtain ⟨k0, k1, k2, k3, k4, k5, k6⟩ := coC (c := c) (m := m) gaW rfl
     obtain ⟨s0, s1, s2, s3⟩ := stC (c := s) (m := q) gsW rfl
     have HX := qzL hx
     have HK := qzL hk
     have HBR := qzL hbr
     have hmo : Hid (mOk c s j = (xBr c k x && !rdy c s.marks j)) := by unfold Hid mOk; rw [hk, hx]
     obtain ⟨vm, hvm⟩ : ∃ z, xBr c k x = z := ⟨_, rfl⟩
     obtain ⟨rd, hrd⟩ : ∃ z, rdy c s.marks j = z := ⟨_, rfl⟩
     have HVM : Hid (∀ W, Below wr.heap.size wr W → Calls Tryz.prog 63 #[.agg #[.int .i64 c.par, .slice m.h c.hold.length m.hc, .slice m.u c.un.length m.uc, .slice m.a c.ac.length m.ac, .slice m.k c.cl.length m.kc, .int .i64 c.days, .slice m.o c.off.length m.oc], .int .i64 (j : Nat), .agg #[.int .i64 x.st, .int .i64 x.left, .int .i64 x.got, .int .i64 x.brr, .bool x.pau]] W fun e w' => e = .returned (.bool vm) ∧ Below W.heap.size W w') := fun W hb =>
      vmark_any c m j kx x W (HC.out.then_ (xAa hwr.out hb)) hkx vm (by rw [hkk]; exact hvm.symm)
     have HRD : Hid (∀ W, Below wr.heap.size wr W → Calls Tryz.prog 64 #[.agg #[.int .i64 c.par, .slice m.h c.hold.length m.hc, .slice m.u c.un.length m.uc, .slice m.a c.ac.length m.ac, .slice m.k c.cl.length m.kc, .int .i64 c.days, .slice m.o c.off.length m.oc],
       .agg #[.int .i64 s.day, .slice q.h s.hol.length q.hc, .slice q.u s.used.length q.uc, .slice q.m s.marks.length q.mc], .int .i64 (j : Nat)] W fun e w' => e = .returned (.bool rd) ∧ Below W.heap.size W w') := fun W hb =>
      xHm c m s q j x kx W (HC.out.then_ (xAa hwr.out hb)) (HS.out.then_ (xAa hwr.out hb)) HX.out hkx (by rw [hkk, HE3.out]; exact ok_cond HOK.out (qzK HK.out)) rd (by rw [← hrd, rdy_at HK.out HX.out, hkk])
     rw [hvm, hrd] at hmo
     clear hx hk hkx hkk hc0 eA0 gaW gsW hbr hvm hrd
     go_upto_region 21 with (fail)
     cases vm with
     | false =>
      have hf : Hid (R = false) := by unfold Hid; rw [HR5.out]; exact List.all_eq_false.2 ⟨j, List.mem_range.2 hlt, by rw [hmo.out]; simp⟩
      have rg0 := cR d0
      have rg1 := cR d1
      have rg2 := cR d2
      have rg3 := cR d3
      have rg4 := cR d4
      have rg5 := cR k0
      have rg6 := cR k1
      have rg7 := cR k2
      have rg8 := cR k3
      have rg9 := cR k4
      have rg10 := cR k5
      have rg11 := cR k6
      have rg12 := cR s0
      have rg13 := cR s1
      have rg14 := cR s2
      have rg15 := cR s3
      refine xAe [0, 1, 2, 3, 4, 5, 6, 7, 8, 9, 10, 11, 12, 13, 14] [] (by kernel_rfl) (by kernel_rfl) pO ?_
      simp only [xAm, qzA, qzB, qzC, qzD, qzE, qzF]
      repeat (go_big_quiet_step ((first | (go_at_call 63; with_reducible exact xAp (fun W' hW' => HVM.out W' hW') _ _) | (go_at_call 64; with_reducible exact xAp (fun W' hW' => HRD.out W' hW') _ _))))
      refine wpQuiet_nil ?_
      intro Z hw2
      have hbZ := xAh hw2
      clear hw2 rg0 rg1 rg2 rg3 rg4 rg5 rg6 rg7 rg8 rg9 rg10 rg11 rg12 rg13 rg14 rg15
      refine xAt ?_
      go_wp2
      go_ret
      exact ⟨xAb hf.out.symm, xAa hwr.out hbZ⟩
     | true =>
     cases rd with
     | true =>
      have hf : Hid (R = false) := by unfold Hid; rw [HR5.out]; exact List.all_eq_false.2 ⟨j, List.mem_range.2 hlt, by rw [hmo.out]; simp⟩
      have rg0 := cR d0
      have rg1 := cR d1
      have rg2 := cR d2
      have rg3 := cR d3
      have rg4 := cR d4
      have rg5 := cR k0
      have rg6 := cR k1
      have rg7 := cR k2
      have rg8 := cR k3
      have rg9 := cR k4
      have rg10 := cR k5
      have rg11 := cR k6
      have rg12 := cR s0
      have rg13 := cR s1
      have rg14 := cR s2
      have rg15 := cR s3
      refine xAe [0, 1, 2, 3, 4, 5, 6, 7, 8, 9, 10, 11, 12, 13, 14] [] (by kernel_rfl) (by kernel_rfl) pO ?_
      simp only [xAm, qzA, qzB, qzC, qzD, qzE, qzF]
      repeat (go_big_quiet_step ((first | (go_at_call 63; with_reducible exact xAp (fun W' hW' => HVM.out W' hW') _ _) | (go_at_call 64; with_reducible exact xAp (fun W' hW' => HRD.out W' hW') _ _))))
      refine wpQuiet_nil ?_
      intro Z hw2
      have hbZ := xAh hw2
      clear hw2 rg0 rg1 rg2 rg3 rg4 rg5 rg6 rg7 rg8 rg9 rg10 rg11 rg12 rg13 rg14 rg15
      refine xAt ?_
      go_wp2
      go_ret
      exact ⟨xAb hf.out.symm, xAa hwr.out hbZ⟩
     | false =>
      have rg0 := cR d0
      have rg1 := cR d1
      have rg2 := cR d2
      have rg3 := cR d3
      have rg4 := cR d4
      have rg5 := cR k0
      have rg6 := cR k1
      have rg7 := cR k2
      have rg8 := cR k3
      have rg9 := cR k4
      have rg10 := cR k5
      have rg11 := cR k6
      have rg12 := cR s0
      have rg13 := cR s1
      have rg14 := cR s2
      have rg15 := cR s3
      refine xAe [0, 1, 2, 3, 4, 5, 6, 7, 8, 9, 10, 11, 12, 13, 14] [] (by kernel_rfl) (by kernel_rfl) pO ?_
      simp only [xAm, qzA, qzB, qzC, qzD, qzE, qzF]
      repeat (go_big_quiet_step ((first | (go_at_call 63; with_reducible exact xAp (fun W' hW' => HVM.out W' hW') _ _) | (go_at_call 64; with_reducible exact xAp (fun W' hW' => HRD.out W' hW') _ _))))
      refine wpQuiet_nil ?_
      intro Z hw2
      have hbZ := xAh hw2
      clear hw2 rg0 rg1 rg2 rg3 rg4 rg5 rg6 rg7 rg8 rg9 rg10 rg11 rg12 rg13 rg14 rg15
      refine xAt ?_
      go_wp2
      go_roundw
      case rel => exact ⟨j + 1, by omega, by simp, fun n hn => by
       by_cases e : n = j
       ·subst e; rw [hmo.out]; rfl
       ·exact hN.out n (by omega), xAa HBR.out hbZ⟩
      case measure => simp [intOf]; omega
    have tj : decide ((j : Int) < (s.marks.length : Int)) = false := qzN (by omega)
    have hf : Hid (R = true) := by
     unfold Hid
     rw [HR5.out, List.all_eq_true]
     intro n hn
     exact hN.out n (by have := List.mem_range.1 hn; omega)
    go_wp2
    go_ret
    exact ⟨xAb hf.out.symm, xAa hYB.out hbr⟩
end Go.Proofs.YtginnonjdbpamaaGreatDoor
