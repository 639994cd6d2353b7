/- Contracts of functions and plain laws, joined: Krf, Krg. -/
import Derived.Test.YtplommmegkdhdaaGreatDoorMb20
import Derived.Test.YtplommmegkdhdaaGreatDoorMb3
/- Units and act types compared as values. -/
namespace Go.Proofs.YtplommmegkdhdaaGreatDoor
open Go.RowKit

theorem eqvR (f : Nat) (a b c d : Int) (w : World) : (Op.equalIn (f + 1 + 1) 30 (.agg #[.int .i64 a, .int .i64 b]) (.agg #[.int .i64 c, .int .i64 d])).run Tryz.prog w = .ok (decide (a = c ∧ b = d)) w := by
  have e : (Tryz.prog.fieldsOf 30).toList = [{ name := "Num", type := 3, offset := 0, embedded := false, tag := "", pkgPath := "", byteOffset := 0 }, { name := "Den", type := 3, offset := 1, embedded := false, tag := "", pkgPath := "", byteOffset := 8 }] := by kernel_rfl
  have p1 : (part 3 #[.int .i64 a, .int .i64 b] 0).run Tryz.prog w = .ok (.int .i64 a) w := by kernel_rfl
  have p2 : (part 3 #[.int .i64 a, .int .i64 b] 1).run Tryz.prog w = .ok (.int .i64 b) w := by kernel_rfl
  have p3 : (part 3 #[.int .i64 c, .int .i64 d] 0).run Tryz.prog w = .ok (.int .i64 c) w := by kernel_rfl
  have p4 : (part 3 #[.int .i64 c, .int .i64 d] 1).run Tryz.prog w = .ok (.int .i64 d) w := by kernel_rfl
  have u := Tryz.underlying3
  rw [run_equalIn_agg w (f + 1) 30 _ _ (by kernel_rfl) (by kernel_rfl), e]
  simp only [Op.eqFields, Sem.run_bind, p1, p2, p3, p4, Result.andThen_ok, run_equalIn_int w f 3 .i64 .i64 _ _ u, ne_eq, Sem.run_ite, Sem.run_pure]
  by_cases h1 : a = c <;> by_cases h2 : b = d <;> simp [h1, h2]
theorem ba_inj {a b : ByteArray} (h : a.toList = b.toList) : a = b := by
  rw [ByteArray.toList_eq, ByteArray.toList_eq] at h
  exact ByteArray.ext (Array.ext' h)
theorem eqvU (a0 b0 : ByteArray) (a1 a2 a3 a4 b1 b2 b3 b4 : Int) (w : World) : (Op.equalIn 10000 71 (.agg #[.string a0, .int .i64 a1, .int .i64 a2, .int .i64 a3, .int .i64 a4]) (.agg #[.string b0, .int .i64 b1, .int .i64 b2, .int .i64 b3, .int .i64 b4])).run Tryz.prog w = .ok (decide (a0 = b0 ∧ a1 = b1 ∧ a2 = b2 ∧ a3 = b3 ∧ a4 = b4)) w := by
  have e : (Tryz.prog.fieldsOf 71).toList.map (fun f => (f.name, f.type, f.offset)) = [("Name", 9, 0), ("Kind", 3, 1), ("Base", 3, 2), ("Factor", 30, 3)] := by kernel_rfl
  obtain ⟨f0, f1, f2, f3, hf, ht0, ht1, ht2, ht3, ho0, ho1, ho2, ho3⟩ : ∃ f0 f1 f2 f3, (Tryz.prog.fieldsOf 71).toList = [f0, f1, f2, f3] ∧ f0.type = 9 ∧ f1.type = 3 ∧ f2.type = 3 ∧ f3.type = 30 ∧ f0.offset = 0 ∧ f1.offset = 1 ∧ f2.offset = 2 ∧ f3.offset = 3 := by
    have hl := congrArg List.length e
    match hq : (Tryz.prog.fieldsOf 71).toList with
    | [f0, f1, f2, f3] =>
      rw [hq] at e
      simp only [List.map_cons, List.map_nil, List.cons.injEq, Prod.mk.injEq, and_true] at e
      obtain ⟨⟨_, a0, b0⟩, ⟨_, a1, b1⟩, ⟨_, a2, b2⟩, ⟨_, a3, b3⟩⟩ := e
      exact ⟨f0, f1, f2, f3, rfl, a0, a1, a2, a3, b0, b1, b2, b3⟩
    | [] => rw [hq] at hl; simp at hl
    | [f0] => rw [hq] at hl; simp at hl
    | [f0, f1] => rw [hq] at hl; simp at hl
    | [f0, f1, f2] => rw [hq] at hl; simp at hl
    | f0 :: f1 :: f2 :: f3 :: g :: r => rw [hq] at hl; simp at hl
  have hb : ∀ f ∈ [f0, f1, f2, f3], (f.name == "_") = false := by
    have e2 : (Tryz.prog.fieldsOf 71).toList.all (fun f => !(f.name == "_")) = true := by kernel_rfl
    rw [hf] at e2
    intro f hf2
    have := List.all_eq_true.1 e2 f hf2
    simpa using this
  have p0 : (part 9 #[.string a0, .int .i64 a1, .int .i64 a2, .int .i64 a3, .int .i64 a4] 0).run Tryz.prog w = .ok (.string a0) w := by kernel_rfl
  have r0 : (part 9 #[.string b0, .int .i64 b1, .int .i64 b2, .int .i64 b3, .int .i64 b4] 0).run Tryz.prog w = .ok (.string b0) w := by kernel_rfl
  have n0 : f0.name ≠ "_" := by simpa using hb f0 (by simp)
  have q0 : (Op.equalIn 9999 9 (.string a0) (.string b0)).run Tryz.prog w = .ok (a0.toList == b0.toList) w := run_equalIn_string w 9998 9 _ _ Tryz.underlying9
  have p1 : (part 3 #[.string a0, .int .i64 a1, .int .i64 a2, .int .i64 a3, .int .i64 a4] 1).run Tryz.prog w = .ok (.int .i64 a1) w := by kernel_rfl
  have r1 : (part 3 #[.string b0, .int .i64 b1, .int .i64 b2, .int .i64 b3, .int .i64 b4] 1).run Tryz.prog w = .ok (.int .i64 b1) w := by kernel_rfl
  have n1 : f1.name ≠ "_" := by simpa using hb f1 (by simp)
  have q1 : (Op.equalIn 9999 3 (.int .i64 a1) (.int .i64 b1)).run Tryz.prog w = .ok (a1 == b1) w := run_equalIn_int w 9998 3 .i64 .i64 _ _ Tryz.underlying3
  have p2 : (part 3 #[.string a0, .int .i64 a1, .int .i64 a2, .int .i64 a3, .int .i64 a4] 2).run Tryz.prog w = .ok (.int .i64 a2) w := by kernel_rfl
  have r2 : (part 3 #[.string b0, .int .i64 b1, .int .i64 b2, .int .i64 b3, .int .i64 b4] 2).run Tryz.prog w = .ok (.int .i64 b2) w := by kernel_rfl
  have n2 : f2.name ≠ "_" := by simpa using hb f2 (by simp)
  have q2 : (Op.equalIn 9999 3 (.int .i64 a2) (.int .i64 b2)).run Tryz.prog w = .ok (a2 == b2) w := run_equalIn_int w 9998 3 .i64 .i64 _ _ Tryz.underlying3
  have p3 : (part 30 #[.string a0, .int .i64 a1, .int .i64 a2, .int .i64 a3, .int .i64 a4] 3).run Tryz.prog w = .ok (.agg #[.int .i64 a3, .int .i64 a4]) w := by kernel_rfl
  have r3 : (part 30 #[.string b0, .int .i64 b1, .int .i64 b2, .int .i64 b3, .int .i64 b4] 3).run Tryz.prog w = .ok (.agg #[.int .i64 b3, .int .i64 b4]) w := by kernel_rfl
  have n3 : f3.name ≠ "_" := by simpa using hb f3 (by simp)
  have q3 : (Op.equalIn 9999 30 (.agg #[.int .i64 a3, .int .i64 a4]) (.agg #[.int .i64 b3, .int .i64 b4])).run Tryz.prog w = .ok (decide (a3 = b3 ∧ a4 = b4)) w := eqvR 9997 a3 a4 b3 b4 w
  show (Op.equalIn (9998 + 1 + 1) _ _ _).run _ _ = _
  rw [run_equalIn_agg w (9998 + 1) 71 _ _ (by kernel_rfl) (by kernel_rfl), hf]
  simp only [Op.eqFields, Sem.run_bind, ht0, ho0, p0, r0, ht1, ho1, p1, r1, ht2, ho2, p2, r2, ht3, ho3, p3, r3, q0, q1, q2, q3, Result.andThen_ok, ne_eq, Sem.run_ite, Sem.run_pure, n0, n1, n2, n3, not_false_eq_true, if_true]
  have hby : (a0.toList == b0.toList) = decide (a0 = b0) := by
    rw [Bool.eq_iff_iff]
    simp only [beq_iff_eq, decide_eq_true_eq]
    exact ⟨fun h => ba_inj h, fun h => by rw [h]⟩
  rw [hby]
  by_cases z0 : a0 = b0 <;> by_cases z1 : a1 = b1 <;> by_cases z2 : a2 = b2 <;> by_cases z3 : a3 = b3 ∧ a4 = b4 <;> simp [z0, z1, z2, z3]
theorem eqvA (a0 a1 a2 a3 a4 a5 a6 b0 b1 b2 b3 b4 b5 b6 : Int) (w : World) : (Op.equalIn 10000 74 (.agg #[.int .i64 a0, .int .i64 a1, .int .i64 a2, .int .i64 a3, .int .i64 a4, .int .i64 a5, .int .i64 a6]) (.agg #[.int .i64 b0, .int .i64 b1, .int .i64 b2, .int .i64 b3, .int .i64 b4, .int .i64 b5, .int .i64 b6])).run Tryz.prog w = .ok (decide (a0 = b0 ∧ a1 = b1 ∧ a2 = b2 ∧ a3 = b3 ∧ a4 = b4 ∧ a5 = b5 ∧ a6 = b6)) w := by
  have e : (Tryz.prog.fieldsOf 74).toList.map (fun f => (f.name, f.type, f.offset)) = [("Kind", 3, 0), ("Role", 3, 1), ("Give", 3, 2), ("To", 3, 3), ("Unit", 3, 4), ("Lot", 30, 5)] := by kernel_rfl
  obtain ⟨f0, f1, f2, f3, f4, f5, hf, ht0, ht1, ht2, ht3, ht4, ht5, ho0, ho1, ho2, ho3, ho4, ho5⟩ : ∃ f0 f1 f2 f3 f4 f5, (Tryz.prog.fieldsOf 74).toList = [f0, f1, f2, f3, f4, f5] ∧ f0.type = 3 ∧ f1.type = 3 ∧ f2.type = 3 ∧ f3.type = 3 ∧ f4.type = 3 ∧ f5.type = 30 ∧ f0.offset = 0 ∧ f1.offset = 1 ∧ f2.offset = 2 ∧ f3.offset = 3 ∧ f4.offset = 4 ∧ f5.offset = 5 := by
    have hl := congrArg List.length e
    match hq : (Tryz.prog.fieldsOf 74).toList with
    | [f0, f1, f2, f3, f4, f5] =>
      rw [hq] at e
      simp only [List.map_cons, List.map_nil, List.cons.injEq, Prod.mk.injEq, and_true] at e
      obtain ⟨⟨_, a0, b0⟩, ⟨_, a1, b1⟩, ⟨_, a2, b2⟩, ⟨_, a3, b3⟩, ⟨_, a4, b4⟩, ⟨_, a5, b5⟩⟩ := e
      exact ⟨f0, f1, f2, f3, f4, f5, rfl, a0, a1, a2, a3, a4, a5, b0, b1, b2, b3, b4, b5⟩
    | [] => rw [hq] at hl; simp at hl
    | [f0] => rw [hq] at hl; simp at hl
    | [f0, f1] => rw [hq] at hl; simp at hl
    | [f0, f1, f2] => rw [hq] at hl; simp at hl
    | [f0, f1, f2, f3] => rw [hq] at hl; simp at hl
    | [f0, f1, f2, f3, f4] => rw [hq] at hl; simp at hl
    | f0 :: f1 :: f2 :: f3 :: f4 :: f5 :: g :: r => rw [hq] at hl; simp at hl
  have hb : ∀ f ∈ [f0, f1, f2, f3, f4, f5], (f.name == "_") = false := by
    have e2 : (Tryz.prog.fieldsOf 74).toList.all (fun f => !(f.name == "_")) = true := by kernel_rfl
    rw [hf] at e2
    intro f hf2
    have := List.all_eq_true.1 e2 f hf2
    simpa using this
  have p0 : (part 3 #[.int .i64 a0, .int .i64 a1, .int .i64 a2, .int .i64 a3, .int .i64 a4, .int .i64 a5, .int .i64 a6] 0).run Tryz.prog w = .ok (.int .i64 a0) w := by kernel_rfl
  have r0 : (part 3 #[.int .i64 b0, .int .i64 b1, .int .i64 b2, .int .i64 b3, .int .i64 b4, .int .i64 b5, .int .i64 b6] 0).run Tryz.prog w = .ok (.int .i64 b0) w := by kernel_rfl
  have n0 : f0.name ≠ "_" := by simpa using hb f0 (by simp)
  have q0 : (Op.equalIn 9999 3 (.int .i64 a0) (.int .i64 b0)).run Tryz.prog w = .ok (a0 == b0) w := run_equalIn_int w 9998 3 .i64 .i64 _ _ Tryz.underlying3
  have p1 : (part 3 #[.int .i64 a0, .int .i64 a1, .int .i64 a2, .int .i64 a3, .int .i64 a4, .int .i64 a5, .int .i64 a6] 1).run Tryz.prog w = .ok (.int .i64 a1) w := by kernel_rfl
  have r1 : (part 3 #[.int .i64 b0, .int .i64 b1, .int .i64 b2, .int .i64 b3, .int .i64 b4, .int .i64 b5, .int .i64 b6] 1).run Tryz.prog w = .ok (.int .i64 b1) w := by kernel_rfl
  have n1 : f1.name ≠ "_" := by simpa using hb f1 (by simp)
  have q1 : (Op.equalIn 9999 3 (.int .i64 a1) (.int .i64 b1)).run Tryz.prog w = .ok (a1 == b1) w := run_equalIn_int w 9998 3 .i64 .i64 _ _ Tryz.underlying3
  have p2 : (part 3 #[.int .i64 a0, .int .i64 a1, .int .i64 a2, .int .i64 a3, .int .i64 a4, .int .i64 a5, .int .i64 a6] 2).run Tryz.prog w = .ok (.int .i64 a2) w := by kernel_rfl
  have r2 : (part 3 #[.int .i64 b0, .int .i64 b1, .int .i64 b2, .int .i64 b3, .int .i64 b4, .int .i64 b5, .int .i64 b6] 2).run Tryz.prog w = .ok (.int .i64 b2) w := by kernel_rfl
  have n2 : f2.name ≠ "_" := by simpa using hb f2 (by simp)
  have q2 : (Op.equalIn 9999 3 (.int .i64 a2) (.int .i64 b2)).run Tryz.prog w = .ok (a2 == b2) w := run_equalIn_int w 9998 3 .i64 .i64 _ _ Tryz.underlying3
  have p3 : (part 3 #[.int .i64 a0, .int .i64 a1, .int .i64 a2, .int .i64 a3, .int .i64 a4, .int .i64 a5, .int .i64 a6] 3).run Tryz.prog w = .ok (.int .i64 a3) w := by kernel_rfl
  have r3 : (part 3 #[.int .i64 b0, .int .i64 b1, .int .i64 b2, .int .i64 b3, .int .i64 b4, .int .i64 b5, .int .i64 b6] 3).run Tryz.prog w = .ok (.int .i64 b3) w := by kernel_rfl
  have n3 : f3.name ≠ "_" := by simpa using hb f3 (by simp)
  have q3 : (Op.equalIn 9999 3 (.int .i64 a3) (.int .i64 b3)).run Tryz.prog w = .ok (a3 == b3) w := run_equalIn_int w 9998 3 .i64 .i64 _ _ Tryz.underlying3
  have p4 : (part 3 #[.int .i64 a0, .int .i64 a1, .int .i64 a2, .int .i64 a3, .int .i64 a4, .int .i64 a5, .int .i64 a6] 4).run Tryz.prog w = .ok (.int .i64 a4) w := by kernel_rfl
  have r4 : (part 3 #[.int .i64 b0, .int .i64 b1, .int .i64 b2, .int .i64 b3, .int .i64 b4, .int .i64 b5, .int .i64 b6] 4).run Tryz.prog w = .ok (.int .i64 b4) w := by kernel_rfl
  have n4 : f4.name ≠ "_" := by simpa using hb f4 (by simp)
  have q4 : (Op.equalIn 9999 3 (.int .i64 a4) (.int .i64 b4)).run Tryz.prog w = .ok (a4 == b4) w := run_equalIn_int w 9998 3 .i64 .i64 _ _ Tryz.underlying3
  have p5 : (part 30 #[.int .i64 a0, .int .i64 a1, .int .i64 a2, .int .i64 a3, .int .i64 a4, .int .i64 a5, .int .i64 a6] 5).run Tryz.prog w = .ok (.agg #[.int .i64 a5, .int .i64 a6]) w := by kernel_rfl
  have r5 : (part 30 #[.int .i64 b0, .int .i64 b1, .int .i64 b2, .int .i64 b3, .int .i64 b4, .int .i64 b5, .int .i64 b6] 5).run Tryz.prog w = .ok (.agg #[.int .i64 b5, .int .i64 b6]) w := by kernel_rfl
  have n5 : f5.name ≠ "_" := by simpa using hb f5 (by simp)
  have q5 : (Op.equalIn 9999 30 (.agg #[.int .i64 a5, .int .i64 a6]) (.agg #[.int .i64 b5, .int .i64 b6])).run Tryz.prog w = .ok (decide (a5 = b5 ∧ a6 = b6)) w := eqvR 9997 a5 a6 b5 b6 w
  show (Op.equalIn (9998 + 1 + 1) _ _ _).run _ _ = _
  rw [run_equalIn_agg w (9998 + 1) 74 _ _ (by kernel_rfl) (by kernel_rfl), hf]
  simp only [Op.eqFields, Sem.run_bind, ht0, ho0, p0, r0, ht1, ho1, p1, r1, ht2, ho2, p2, r2, ht3, ho3, p3, r3, ht4, ho4, p4, r4, ht5, ho5, p5, r5, q0, q1, q2, q3, q4, q5, Result.andThen_ok, ne_eq, Sem.run_ite, Sem.run_pure, n0, n1, n2, n3, n4, n5, not_false_eq_true, if_true]
  by_cases z0 : a0 = b0 <;> by_cases z1 : a1 = b1 <;> by_cases z2 : a2 = b2 <;> by_cases z3 : a3 = b3 <;> by_cases z4 : a4 = b4 <;> by_cases z5 : a5 = b5 ∧ a6 = b6 <;> simp [z0, z1, z2, z3, z4, z5]
end Go.Proofs.YtplommmegkdhdaaGreatDoor
/- The walk of estoppelref24.SameContract. -/
namespace Go.Proofs.YtplommmegkdhdaaGreatDoor
open Go.RowKit

theorem con_eq (a b : Con) : a = b ↔ a.par = b.par ∧ a.days = b.days ∧ a.hold = b.hold ∧ a.off = b.off ∧ a.un = b.un ∧ a.ac = b.ac ∧ a.cl = b.cl := by
  cases a; cases b
  simp only [Con.mk.injEq]
  exact ⟨fun ⟨h1, h2, h3, h4, h5, h6, h7⟩ => ⟨h1, h6, h2, h7, h3, h4, h5⟩, fun ⟨h1, h6, h2, h7, h3, h4, h5⟩ => ⟨h1, h2, h3, h4, h5, h6, h7⟩⟩
set_option maxRecDepth 100000 in
set_option maxHeartbeats 6400000 in
theorem rcon_any (a b : Con) (ma mb : Cm) (w : World) (ha : Cont w a ma) (hb : Cont w b mb) : Calls Tryz.prog 15 #[.agg (coA a ma), .agg (coA b mb)] w fun e w' => e = .returned (.bool (decide (a = b))) ∧ Below w.heap.size w w' := by
  obtain ⟨R, hR⟩ : ∃ R, decide (a = b) = R := ⟨_, rfl⟩
  rw [hR]
  have HA := Lib.hid ha
  have HB_ := Lib.hid hb
  have HI1 := Lib.hid (fun W (h : Below w.heap.size w W) => ints_any ma.h mb.h ma.hc mb.hc a.hold b.hold W (ha.then_ h).h (hb.then_ h).h ha.nh)
  have HI2 := Lib.hid (fun W (h : Below w.heap.size w W) => ints_any ma.o mb.o ma.oc mb.oc a.off b.off W (ha.then_ h).o (hb.then_ h).o ha.no)
  have nu := ha.nu
  have na := ha.na
  have hka : ma.ks.length = a.cl.length := by have := congrArg List.length ha.e; simpa using this
  have hkb : mb.ks.length = b.cl.length := by have := congrArg List.length hb.e; simpa using this
  obtain ⟨e0, E0⟩ : ∃ x, (a.par != b.par) = x := ⟨_, rfl⟩
  obtain ⟨e1, E1⟩ : ∃ x, (a.days != b.days) = x := ⟨_, rfl⟩
  obtain ⟨e2, E2⟩ : ∃ x, decide (a.hold = b.hold) = x := ⟨_, rfl⟩
  obtain ⟨e3, E3⟩ : ∃ x, decide (a.off = b.off) = x := ⟨_, rfl⟩
  obtain ⟨e4, E4⟩ : ∃ x, ((a.un.length : Int) != (b.un.length : Int)) = x := ⟨_, rfl⟩
  obtain ⟨e5, E5⟩ : ∃ x, ((a.ac.length : Int) != (b.ac.length : Int)) = x := ⟨_, rfl⟩
  have HRR : Hid ((e0 || e1 || !e2 || !e3 || e4 || e5) = false → R = decide (a.un = b.un ∧ a.ac = b.ac ∧ a.cl = b.cl)) := by
    intro h
    rw [← hR]
    simp only [Bool.or_eq_false_iff, Bool.not_eq_false'] at h
    obtain ⟨⟨⟨⟨⟨h0, h1⟩, h2⟩, h3⟩, h4⟩, h5⟩ := h
    rw [← E0] at h0
    rw [← E1] at h1
    rw [← E2] at h2
    rw [← E3] at h3
    simp at h0 h1 h2 h3
    rw [Bool.eq_iff_iff]
    simp only [decide_eq_true_eq]
    rw [con_eq]
    simp [h0, h1, h2, h3]
  have HNO : Hid ((e0 || e1 || !e2 || !e3 || e4 || e5) = true → R = false) := by
    intro h
    rw [← hR]
    refine decide_eq_false fun e => ?_
    subst e
    rw [← E0, ← E1, ← E2, ← E3, ← E4, ← E5] at h
    simp at h
  have HLN : Hid ((e0 || e1 || !e2 || !e3 || e4 || e5) = false → a.un.length = b.un.length ∧ a.ac.length = b.ac.length) := by
    intro h
    simp only [Bool.or_eq_false_iff, Bool.not_eq_false'] at h
    obtain ⟨⟨⟨⟨⟨h0, h1⟩, h2⟩, h3⟩, h4⟩, h5⟩ := h
    rw [← E4] at h4
    rw [← E5] at h5
    simp at h4 h5
    omega
  simp only [E2] at HI1
  simp only [E3] at HI2
  clear hR ha hb E2 E3
  go_enter Tryz.func15, Tryz.ntmps15
  go_upto_region 1 with (fail)
  refine name_wp ?_
  intro X hX
  have gba : Blk X w.heap.size 27 (coA a ma) := by rw [hX]; exact (blk_at (by simp)).alloc _
  have gbb : Blk X (w.heap.size + 1) 27 (coA b mb) := by rw [hX]; exact blk_at (by simp)
  have HB : Below w.heap.size w X := by rw [hX]; (repeat (first | with_reducible assumption | with_reducible exact Below.refl _ _ | with_reducible refine below_drewN ?_ _ | with_reducible refine Below.drew ?_ | with_reducible refine below_alloc ?_ _ | with_reducible refine Below.setCell ?_ (by first | omega | (simp; done) | (simp; omega)) _ | with_reducible refine below_then ?_ (by with_reducible assumption) | (refine below_then (a := World.drew _) ?_ (by with_reducible assumption))))
  clear hX
  obtain ⟨bb, ebb⟩ : ∃ b, w.heap.size + 1 = b := ⟨_, rfl⟩
  obtain ⟨ba, eba⟩ : ∃ b, w.heap.size = b := ⟨_, rfl⟩
  have lba : w.heap.size ≤ ba := by omega
  have lbb : w.heap.size ≤ bb := by omega
  have nbabb : ba ≠ bb := by omega
  rw [ebb] at gbb ⊢
  rw [eba] at gba ⊢
  clear eba ebb
  have HBX := Lib.hid HB
  have GA := Lib.hid gba
  have GB := Lib.hid gbb
  clear HB
  go_upto_region 1 with (fail)
  have hz := Below.refl X.heap.size X
  go_cut [52] from 7 to 51 (fun v W => v = .bool (e0 || e1 || !e2 || !e3 || e4 || e5) ∧ Below X.heap.size X W)
  case first =>
    clear HRR HNO HLN
    have p0 : X.cell? ⟨ba, 0, none⟩ = some (.int .i64 a.par) := (gba).cell 0
    have p1 : X.cell? ⟨ba, 1, none⟩ = some (.slice ma.h a.hold.length ma.hc) := (gba).cell 1
    have p5 : X.cell? ⟨ba, 5, none⟩ = some (.int .i64 a.days) := (gba).cell 5
    have q0 : X.cell? ⟨bb, 0, none⟩ = some (.int .i64 b.par) := (gbb).cell 0
    have q1 : X.cell? ⟨bb, 1, none⟩ = some (.slice mb.h b.hold.length mb.hc) := (gbb).cell 1
    have q5 : X.cell? ⟨bb, 5, none⟩ = some (.int .i64 b.days) := (gbb).cell 5
    clear gba gbb
    cases e0
    case true => (go_wp2; go_meet; (case rel => exact ⟨by simp, hz⟩))
    cases e1
    case true => (go_wp2; go_meet; (case rel => exact ⟨by simp, hz⟩))
    cases e2
    case false => (go_wp2_with (go_at_call 20; (with_reducible refine (HI1.out _ HBX.out).mono ?_); rintro e w1 ⟨rfl, hb1⟩; have GA1 := GA.out.then_ hb1; have GB1 := GB.out.then_ hb1; have p2 : w1.cell? ⟨ba, 2, none⟩ = some (.slice ma.u a.un.length ma.uc) := (GA1).cell 2; have p3 : w1.cell? ⟨ba, 3, none⟩ = some (.slice ma.a a.ac.length ma.ac) := (GA1).cell 3; have p6 : w1.cell? ⟨ba, 6, none⟩ = some (.slice ma.o a.off.length ma.oc) := (GA1).cell 6; have q2 : w1.cell? ⟨bb, 2, none⟩ = some (.slice mb.u b.un.length mb.uc) := (GB1).cell 2; have q3 : w1.cell? ⟨bb, 3, none⟩ = some (.slice mb.a b.ac.length mb.ac) := (GB1).cell 3; have q6 : w1.cell? ⟨bb, 6, none⟩ = some (.slice mb.o b.off.length mb.oc) := (GB1).cell 6; clear GA1 GB1); go_meet; (case rel => exact ⟨by simp, hb1⟩))
    cases e3
    case false => (go_wp2_with (first | (go_at_call 20; (with_reducible refine (HI1.out _ HBX.out).mono ?_); rintro e w1 ⟨rfl, hb1⟩; have GA1 := GA.out.then_ hb1; have GB1 := GB.out.then_ hb1; have p2 : w1.cell? ⟨ba, 2, none⟩ = some (.slice ma.u a.un.length ma.uc) := (GA1).cell 2; have p3 : w1.cell? ⟨ba, 3, none⟩ = some (.slice ma.a a.ac.length ma.ac) := (GA1).cell 3; have p6 : w1.cell? ⟨ba, 6, none⟩ = some (.slice ma.o a.off.length ma.oc) := (GA1).cell 6; have q2 : w1.cell? ⟨bb, 2, none⟩ = some (.slice mb.u b.un.length mb.uc) := (GB1).cell 2; have q3 : w1.cell? ⟨bb, 3, none⟩ = some (.slice mb.a b.ac.length mb.ac) := (GB1).cell 3; have q6 : w1.cell? ⟨bb, 6, none⟩ = some (.slice mb.o b.off.length mb.oc) := (GB1).cell 6; clear GA1 GB1) | (go_at_call 20; (with_reducible refine (HI2.out _ (below_then HBX.out hb1)).mono ?_); rintro e w2 ⟨rfl, hb2⟩; have GA1 := GA.out.then_ (below_then hb1 hb2); have GB1 := GB.out.then_ (below_then hb1 hb2); have p2 : w2.cell? ⟨ba, 2, none⟩ = some (.slice ma.u a.un.length ma.uc) := (GA1).cell 2; have p3 : w2.cell? ⟨ba, 3, none⟩ = some (.slice ma.a a.ac.length ma.ac) := (GA1).cell 3; have q2 : w2.cell? ⟨bb, 2, none⟩ = some (.slice mb.u b.un.length mb.uc) := (GB1).cell 2; have q3 : w2.cell? ⟨bb, 3, none⟩ = some (.slice mb.a b.ac.length mb.ac) := (GB1).cell 3; clear GA1 GB1)); go_meet; (case rel => exact ⟨by simp, below_then hb1 hb2⟩))
    cases e4
    case true => (go_wp2_with (first | (go_at_call 20; (with_reducible refine (HI1.out _ HBX.out).mono ?_); rintro e w1 ⟨rfl, hb1⟩; have GA1 := GA.out.then_ hb1; have GB1 := GB.out.then_ hb1; have p2 : w1.cell? ⟨ba, 2, none⟩ = some (.slice ma.u a.un.length ma.uc) := (GA1).cell 2; have p3 : w1.cell? ⟨ba, 3, none⟩ = some (.slice ma.a a.ac.length ma.ac) := (GA1).cell 3; have p6 : w1.cell? ⟨ba, 6, none⟩ = some (.slice ma.o a.off.length ma.oc) := (GA1).cell 6; have q2 : w1.cell? ⟨bb, 2, none⟩ = some (.slice mb.u b.un.length mb.uc) := (GB1).cell 2; have q3 : w1.cell? ⟨bb, 3, none⟩ = some (.slice mb.a b.ac.length mb.ac) := (GB1).cell 3; have q6 : w1.cell? ⟨bb, 6, none⟩ = some (.slice mb.o b.off.length mb.oc) := (GB1).cell 6; clear GA1 GB1) | (go_at_call 20; (with_reducible refine (HI2.out _ (below_then HBX.out hb1)).mono ?_); rintro e w2 ⟨rfl, hb2⟩; have GA1 := GA.out.then_ (below_then hb1 hb2); have GB1 := GB.out.then_ (below_then hb1 hb2); have p2 : w2.cell? ⟨ba, 2, none⟩ = some (.slice ma.u a.un.length ma.uc) := (GA1).cell 2; have p3 : w2.cell? ⟨ba, 3, none⟩ = some (.slice ma.a a.ac.length ma.ac) := (GA1).cell 3; have q2 : w2.cell? ⟨bb, 2, none⟩ = some (.slice mb.u b.un.length mb.uc) := (GB1).cell 2; have q3 : w2.cell? ⟨bb, 3, none⟩ = some (.slice mb.a b.ac.length mb.ac) := (GB1).cell 3; clear GA1 GB1)); go_meet; (case rel => exact ⟨by simp, below_then hb1 hb2⟩))
    cases e5
    case true => (go_wp2_with (first | (go_at_call 20; (with_reducible refine (HI1.out _ HBX.out).mono ?_); rintro e w1 ⟨rfl, hb1⟩; have GA1 := GA.out.then_ hb1; have GB1 := GB.out.then_ hb1; have p2 : w1.cell? ⟨ba, 2, none⟩ = some (.slice ma.u a.un.length ma.uc) := (GA1).cell 2; have p3 : w1.cell? ⟨ba, 3, none⟩ = some (.slice ma.a a.ac.length ma.ac) := (GA1).cell 3; have p6 : w1.cell? ⟨ba, 6, none⟩ = some (.slice ma.o a.off.length ma.oc) := (GA1).cell 6; have q2 : w1.cell? ⟨bb, 2, none⟩ = some (.slice mb.u b.un.length mb.uc) := (GB1).cell 2; have q3 : w1.cell? ⟨bb, 3, none⟩ = some (.slice mb.a b.ac.length mb.ac) := (GB1).cell 3; have q6 : w1.cell? ⟨bb, 6, none⟩ = some (.slice mb.o b.off.length mb.oc) := (GB1).cell 6; clear GA1 GB1) | (go_at_call 20; (with_reducible refine (HI2.out _ (below_then HBX.out hb1)).mono ?_); rintro e w2 ⟨rfl, hb2⟩; have GA1 := GA.out.then_ (below_then hb1 hb2); have GB1 := GB.out.then_ (below_then hb1 hb2); have p2 : w2.cell? ⟨ba, 2, none⟩ = some (.slice ma.u a.un.length ma.uc) := (GA1).cell 2; have p3 : w2.cell? ⟨ba, 3, none⟩ = some (.slice ma.a a.ac.length ma.ac) := (GA1).cell 3; have q2 : w2.cell? ⟨bb, 2, none⟩ = some (.slice mb.u b.un.length mb.uc) := (GB1).cell 2; have q3 : w2.cell? ⟨bb, 3, none⟩ = some (.slice mb.a b.ac.length mb.ac) := (GB1).cell 3; clear GA1 GB1)); go_meet; (case rel => exact ⟨by simp, below_then hb1 hb2⟩))
    case false => (go_wp2_with (first | (go_at_call 20; (with_reducible refine (HI1.out _ HBX.out).mono ?_); rintro e w1 ⟨rfl, hb1⟩; have GA1 := GA.out.then_ hb1; have GB1 := GB.out.then_ hb1; have p2 : w1.cell? ⟨ba, 2, none⟩ = some (.slice ma.u a.un.length ma.uc) := (GA1).cell 2; have p3 : w1.cell? ⟨ba, 3, none⟩ = some (.slice ma.a a.ac.length ma.ac) := (GA1).cell 3; have p6 : w1.cell? ⟨ba, 6, none⟩ = some (.slice ma.o a.off.length ma.oc) := (GA1).cell 6; have q2 : w1.cell? ⟨bb, 2, none⟩ = some (.slice mb.u b.un.length mb.uc) := (GB1).cell 2; have q3 : w1.cell? ⟨bb, 3, none⟩ = some (.slice mb.a b.ac.length mb.ac) := (GB1).cell 3; have q6 : w1.cell? ⟨bb, 6, none⟩ = some (.slice mb.o b.off.length mb.oc) := (GB1).cell 6; clear GA1 GB1) | (go_at_call 20; (with_reducible refine (HI2.out _ (below_then HBX.out hb1)).mono ?_); rintro e w2 ⟨rfl, hb2⟩; have GA1 := GA.out.then_ (below_then hb1 hb2); have GB1 := GB.out.then_ (below_then hb1 hb2); have p2 : w2.cell? ⟨ba, 2, none⟩ = some (.slice ma.u a.un.length ma.uc) := (GA1).cell 2; have p3 : w2.cell? ⟨ba, 3, none⟩ = some (.slice ma.a a.ac.length ma.ac) := (GA1).cell 3; have q2 : w2.cell? ⟨bb, 2, none⟩ = some (.slice mb.u b.un.length mb.uc) := (GB1).cell 2; have q3 : w2.cell? ⟨bb, 3, none⟩ = some (.slice mb.a b.ac.length mb.ac) := (GB1).cell 3; clear GA1 GB1)); go_meet; (case rel => exact ⟨by simp, below_then hb1 hb2⟩))
  obtain ⟨rfl, hbc⟩ := hcut
  cases hb0 : (e0 || e1 || !e2 || !e3 || e4 || e5) with
  | true =>
    have hf : Hid (R = false) := HNO.out hb0
    clear hb0 HRR HNO HLN gba gbb E0 E1 E4 E5
    go_wp2
    go_ret
    exact ⟨ret_bool hf.out.symm, below_then HBX.out hbc⟩
  | false =>
  have HR0 : Hid (R = decide (a.un = b.un ∧ a.ac = b.ac ∧ a.cl = b.cl)) := HRR.out hb0
  have HR1 := HR0
  obtain ⟨hl0, hl1⟩ := HLN.out hb0
  have HL0 := Lib.hid hl0
  have HL1 := Lib.hid hl1
  have HS0 : Hid (Seg X X.heap.size 5 eU ma.u a.un ∧ Seg X X.heap.size 5 eU mb.u b.un) := ⟨(HA.out.then_ HBX.out).u, (HB_.out.then_ HBX.out).u⟩
  have HS1 : Hid (Seg X X.heap.size 7 eA ma.a a.ac ∧ Seg X X.heap.size 7 eA mb.a b.ac) := ⟨(HA.out.then_ HBX.out).a, (HB_.out.then_ HBX.out).a⟩
  clear hb0 HRR HNO HLN gba gbb E0 E1 E4 E5 HI1 HI2 hl0 hl1
  have HX0 := Lib.hid hbc
  clear hbc
  go_upto_region 4 with (fail)
  have HP0 := Lib.hid (Below.refl X.heap.size X)
  go_loopw [5] (fun u WR => ∃ (i : Nat), i ≤ a.un.length ∧ u = .int .i64 i ∧ Hid (∀ j, j < i → a.un[j]? = b.un[j]?) ∧ Hid (Below X.heap.size X WR)) (fun u _ => 2000000 - (intOf u).toNat)
  case atStart => exact ⟨0, by omega, rfl, fun j hj => by omega, HX0⟩
  case round =>
    obtain ⟨i, hi', rfl, hpre, hB⟩ := hrel
    have p2 : wr.cell? ⟨ba, 2, none⟩ = some (.slice ma.u a.un.length ma.uc) := (GA.out.then_ hB.out).cell 2
    have q2 : wr.cell? ⟨bb, 2, none⟩ = some (.slice mb.u b.un.length mb.uc) := (GB.out.then_ hB.out).cell 2
    by_cases hlt : i < a.un.length
    · have tn : decide ((i : Int) < (a.un.length : Int)) = true := decide_eq_true (by omega)
      have hl2 : i < b.un.length := by rw [← HL0.out]; exact hlt
      obtain ⟨x, hx⟩ : ∃ x : Uni, a.un[i]? = some x := ⟨_, List.getElem?_eq_getElem hlt⟩
      obtain ⟨y, hy⟩ : ∃ y : Uni, b.un[i]? = some y := ⟨_, List.getElem?_eq_getElem hl2⟩
      obtain ⟨b1, o1, e1, hb1, hc1⟩ := segAt (HS0.out.1.below hB.out) hx
      obtain ⟨b2, o2, e2, hb2, hc2⟩ := segAt (HS0.out.2.below hB.out) hy
      have x0 : wr.cell? ⟨b1, o1 + i * 5, none⟩ = some (.string x.nm) := by simpa using hc1 0 _ rfl
      have y0 : wr.cell? ⟨b2, o2 + i * 5, none⟩ = some (.string y.nm) := by simpa using hc2 0 _ rfl
      have x1 : wr.cell? ⟨b1, o1 + i * 5 + 1, none⟩ = some (.int .i64 x.kind) := hc1 1 _ rfl
      have y1 : wr.cell? ⟨b2, o2 + i * 5 + 1, none⟩ = some (.int .i64 y.kind) := hc2 1 _ rfl
      have x2 : wr.cell? ⟨b1, o1 + i * 5 + 2, none⟩ = some (.int .i64 x.base) := hc1 2 _ rfl
      have y2 : wr.cell? ⟨b2, o2 + i * 5 + 2, none⟩ = some (.int .i64 y.base) := hc2 2 _ rfl
      have x3 : wr.cell? ⟨b1, o1 + i * 5 + 3, none⟩ = some (.int .i64 x.f.1) := hc1 3 _ rfl
      have y3 : wr.cell? ⟨b2, o2 + i * 5 + 3, none⟩ = some (.int .i64 y.f.1) := hc2 3 _ rfl
      have x4 : wr.cell? ⟨b1, o1 + i * 5 + 4, none⟩ = some (.int .i64 x.f.2) := hc1 4 _ rfl
      have y4 : wr.cell? ⟨b2, o2 + i * 5 + 4, none⟩ = some (.int .i64 y.f.2) := hc2 4 _ rfl
      have hix := fun W => idx_at (t := 23) (size := 5) (cap := ma.uc) (len := a.un.length) e1 hlt (by kernel_rfl) (fun W => by kernel_rfl) W
      have hiy := fun W => idx_at (t := 23) (size := 5) (cap := mb.uc) (len := b.un.length) e2 hl2 (by kernel_rfl) (fun W => by kernel_rfl) W
      have HX := Lib.hid hx
      have HY := Lib.hid hy
      have heqS := fun W => eqvU x.nm y.nm x.kind x.base x.f.1 x.f.2 y.kind y.base y.f.1 y.f.2 W
      have hwr := wrap_small (n := i) (by omega)
      clear hc1 hc2 hx hy e1 e2
      by_cases he : x = y
      · have hd : decide (x.nm = y.nm ∧ x.kind = y.kind ∧ x.base = y.base ∧ x.f.1 = y.f.1 ∧ x.f.2 = y.f.2) = true := decide_eq_true (by rw [he]; simp)
        simp only [hd] at heqS
        have hp2 : Hid (∀ j, j < i + 1 → a.un[j]? = b.un[j]?) := by
          intro j hj
          by_cases q : j = i
          · rw [q, HX.out, HY.out, he]
          · exact hpre.out j (by omega)
        clear hd he hpre
        go_upto_region 6 with (fail)
        have rg0 := cell_regrown p2
        have rg1 := cell_regrown q2
        have rg2 := cell_regrown x0
        have rg3 := cell_regrown y0
        have rg4 := cell_regrown x1
        have rg5 := cell_regrown y1
        have rg6 := cell_regrown x2
        have rg7 := cell_regrown y2
        have rg8 := cell_regrown x3
        have rg9 := cell_regrown y3
        have rg10 := cell_regrown x4
        have rg11 := cell_regrown y4
        refine wp_region_qt [0, 1, 2, 3, 4, 5, 6, 7, 8, 9, 10] [] (by kernel_rfl) (by kernel_rfl) (by repeat (first | with_reducible refine panOk_then ?_ | with_reducible refine panOk_block ?_ | exact panOk_body)) ?_
        simp only [opsAt, List.getElem?_toArray, List.getElem?_cons_succ, List.getElem?_cons_zero, Option.toList_some, List.cons_append, List.nil_append]
        repeat (go_big_quiet_step (fail))
        refine wpQuiet_nil ?_
        intro W2 hw2
        have hbW2 := qt_world hw2
        clear hw2 rg0 rg1 rg2 rg3 rg4 rg5 rg6 rg7 rg8 rg9 rg10 rg11
        refine wpList_done ?_
        clear p2 q2 x0 y0 x1 y1 x2 y2 x3 y3 x4 y4
        go_wp2
        go_roundw
        case rel => exact ⟨i + 1, by omega, by simp, hp2, below_then hB.out hbW2⟩
        case measure => simp [intOf]; omega
      · have hd : decide (x.nm = y.nm ∧ x.kind = y.kind ∧ x.base = y.base ∧ x.f.1 = y.f.1 ∧ x.f.2 = y.f.2) = false := decide_eq_false fun h => he (by
          obtain ⟨z0, z1, z2, ⟨z3, z4⟩⟩ := x
          obtain ⟨t0, t1, t2, ⟨t3, t4⟩⟩ := y
          simp at h
          simp [h])
        simp only [hd] at heqS
        have hf : Hid (R = false) := by
          unfold Hid
          rw [HR0.out]
          refine decide_eq_false fun h => he ?_
          have h1 : a.un = b.un := h.1
          have := HX.out
          rw [h1, HY.out] at this
          exact (Option.some.inj this).symm
        clear hd he hpre
        go_upto_region 6 with (fail)
        have rg0 := cell_regrown p2
        have rg1 := cell_regrown q2
        have rg2 := cell_regrown x0
        have rg3 := cell_regrown y0
        have rg4 := cell_regrown x1
        have rg5 := cell_regrown y1
        have rg6 := cell_regrown x2
        have rg7 := cell_regrown y2
        have rg8 := cell_regrown x3
        have rg9 := cell_regrown y3
        have rg10 := cell_regrown x4
        have rg11 := cell_regrown y4
        refine wp_region_qt [0, 1, 2, 3, 4, 5, 6, 7, 8, 9, 10] [] (by kernel_rfl) (by kernel_rfl) (by repeat (first | with_reducible refine panOk_then ?_ | with_reducible refine panOk_block ?_ | exact panOk_body)) ?_
        simp only [opsAt, List.getElem?_toArray, List.getElem?_cons_succ, List.getElem?_cons_zero, Option.toList_some, List.cons_append, List.nil_append]
        repeat (go_big_quiet_step (fail))
        refine wpQuiet_nil ?_
        intro W2 hw2
        have hbW2 := qt_world hw2
        clear hw2 rg0 rg1 rg2 rg3 rg4 rg5 rg6 rg7 rg8 rg9 rg10 rg11
        refine wpList_done ?_
        clear p2 q2 x0 y0 x1 y1 x2 y2 x3 y3 x4 y4
        go_wp2
        go_ret
        exact ⟨ret_bool hf.out.symm, below_then HBX.out (below_then hB.out hbW2)⟩
    · have tn : decide ((i : Int) < (a.un.length : Int)) = false := decide_eq_false (by omega)
      have hE0 : Hid (a.un = b.un) := by
        refine List.ext_getElem? fun j => ?_
        by_cases hj : j < i
        · exact hpre.out j hj
        · rw [List.getElem?_eq_none (by omega), List.getElem?_eq_none (by have := HL0.out; omega)]
      have HX1 := hB
      clear hpre
      go_upto_region 9 with (fail)
      have HP1 := Lib.hid (Below.refl X.heap.size X)
      go_loopw [6] (fun u WR => ∃ (i : Nat), i ≤ a.ac.length ∧ u = .int .i64 i ∧ Hid (∀ j, j < i → a.ac[j]? = b.ac[j]?) ∧ Hid (Below X.heap.size X WR)) (fun u _ => 2000000 - (intOf u).toNat)
      case atStart => exact ⟨0, by omega, rfl, fun j hj => by omega, HX1⟩
      case round =>
        obtain ⟨i, hi', rfl, hpre, hB⟩ := hrel
        have p3 : wr.cell? ⟨ba, 3, none⟩ = some (.slice ma.a a.ac.length ma.ac) := (GA.out.then_ hB.out).cell 3
        have q3 : wr.cell? ⟨bb, 3, none⟩ = some (.slice mb.a b.ac.length mb.ac) := (GB.out.then_ hB.out).cell 3
        by_cases hlt : i < a.ac.length
        · have tn : decide ((i : Int) < (a.ac.length : Int)) = true := decide_eq_true (by omega)
          have hl2 : i < b.ac.length := by rw [← HL1.out]; exact hlt
          obtain ⟨x, hx⟩ : ∃ x : Atc, a.ac[i]? = some x := ⟨_, List.getElem?_eq_getElem hlt⟩
          obtain ⟨y, hy⟩ : ∃ y : Atc, b.ac[i]? = some y := ⟨_, List.getElem?_eq_getElem hl2⟩
          obtain ⟨b1, o1, e1, hb1, hc1⟩ := segAt (HS1.out.1.below hB.out) hx
          obtain ⟨b2, o2, e2, hb2, hc2⟩ := segAt (HS1.out.2.below hB.out) hy
          have x0 : wr.cell? ⟨b1, o1 + i * 7, none⟩ = some (.int .i64 x.kind) := by simpa using hc1 0 _ rfl
          have y0 : wr.cell? ⟨b2, o2 + i * 7, none⟩ = some (.int .i64 y.kind) := by simpa using hc2 0 _ rfl
          have x1 : wr.cell? ⟨b1, o1 + i * 7 + 1, none⟩ = some (.int .i64 x.role) := hc1 1 _ rfl
          have y1 : wr.cell? ⟨b2, o2 + i * 7 + 1, none⟩ = some (.int .i64 y.role) := hc2 1 _ rfl
          have x2 : wr.cell? ⟨b1, o1 + i * 7 + 2, none⟩ = some (.int .i64 x.give) := hc1 2 _ rfl
          have y2 : wr.cell? ⟨b2, o2 + i * 7 + 2, none⟩ = some (.int .i64 y.give) := hc2 2 _ rfl
          have x3 : wr.cell? ⟨b1, o1 + i * 7 + 3, none⟩ = some (.int .i64 x.to_) := hc1 3 _ rfl
          have y3 : wr.cell? ⟨b2, o2 + i * 7 + 3, none⟩ = some (.int .i64 y.to_) := hc2 3 _ rfl
          have x4 : wr.cell? ⟨b1, o1 + i * 7 + 4, none⟩ = some (.int .i64 x.unit) := hc1 4 _ rfl
          have y4 : wr.cell? ⟨b2, o2 + i * 7 + 4, none⟩ = some (.int .i64 y.unit) := hc2 4 _ rfl
          have x5 : wr.cell? ⟨b1, o1 + i * 7 + 5, none⟩ = some (.int .i64 x.lot.1) := hc1 5 _ rfl
          have y5 : wr.cell? ⟨b2, o2 + i * 7 + 5, none⟩ = some (.int .i64 y.lot.1) := hc2 5 _ rfl
          have x6 : wr.cell? ⟨b1, o1 + i * 7 + 6, none⟩ = some (.int .i64 x.lot.2) := hc1 6 _ rfl
          have y6 : wr.cell? ⟨b2, o2 + i * 7 + 6, none⟩ = some (.int .i64 y.lot.2) := hc2 6 _ rfl
          have hix := fun W => idx_at (t := 24) (size := 7) (cap := ma.ac) (len := a.ac.length) e1 hlt (by kernel_rfl) (fun W => by kernel_rfl) W
          have hiy := fun W => idx_at (t := 24) (size := 7) (cap := mb.ac) (len := b.ac.length) e2 hl2 (by kernel_rfl) (fun W => by kernel_rfl) W
          have HX := Lib.hid hx
          have HY := Lib.hid hy
          have heqS := fun W => eqvA x.kind x.role x.give x.to_ x.unit x.lot.1 x.lot.2 y.kind y.role y.give y.to_ y.unit y.lot.1 y.lot.2 W
          have hwr := wrap_small (n := i) (by omega)
          clear hc1 hc2 hx hy e1 e2
          by_cases he : x = y
          · have hd : decide (x.kind = y.kind ∧ x.role = y.role ∧ x.give = y.give ∧ x.to_ = y.to_ ∧ x.unit = y.unit ∧ x.lot.1 = y.lot.1 ∧ x.lot.2 = y.lot.2) = true := decide_eq_true (by rw [he]; simp)
            simp only [hd] at heqS
            have hp2 : Hid (∀ j, j < i + 1 → a.ac[j]? = b.ac[j]?) := by
              intro j hj
              by_cases q : j = i
              · rw [q, HX.out, HY.out, he]
              · exact hpre.out j (by omega)
            clear hd he hpre
            go_upto_region 11 with (fail)
            have rg0 := cell_regrown p3
            have rg1 := cell_regrown q3
            have rg2 := cell_regrown x0
            have rg3 := cell_regrown y0
            have rg4 := cell_regrown x1
            have rg5 := cell_regrown y1
            have rg6 := cell_regrown x2
            have rg7 := cell_regrown y2
            have rg8 := cell_regrown x3
            have rg9 := cell_regrown y3
            have rg10 := cell_regrown x4
            have rg11 := cell_regrown y4
            have rg12 := cell_regrown x5
            have rg13 := cell_regrown y5
            have rg14 := cell_regrown x6
            have rg15 := cell_regrown y6
            refine wp_region_qt [0, 1, 2, 3, 4, 5, 6, 7, 8, 9, 10] [] (by kernel_rfl) (by kernel_rfl) (by repeat (first | with_reducible refine panOk_then ?_ | with_reducible refine panOk_block ?_ | exact panOk_body)) ?_
            simp only [opsAt, List.getElem?_toArray, List.getElem?_cons_succ, List.getElem?_cons_zero, Option.toList_some, List.cons_append, List.nil_append]
            repeat (go_big_quiet_step (fail))
            refine wpQuiet_nil ?_
            intro W2 hw2
            have hbW2 := qt_world hw2
            clear hw2 rg0 rg1 rg2 rg3 rg4 rg5 rg6 rg7 rg8 rg9 rg10 rg11 rg12 rg13 rg14 rg15
            refine wpList_done ?_
            clear p3 q3 x0 y0 x1 y1 x2 y2 x3 y3 x4 y4 x5 y5 x6 y6
            go_wp2
            go_roundw
            case rel => exact ⟨i + 1, by omega, by simp, hp2, below_then hB.out hbW2⟩
            case measure => simp [intOf]; omega
          · have hd : decide (x.kind = y.kind ∧ x.role = y.role ∧ x.give = y.give ∧ x.to_ = y.to_ ∧ x.unit = y.unit ∧ x.lot.1 = y.lot.1 ∧ x.lot.2 = y.lot.2) = false := decide_eq_false fun h => he (by
              obtain ⟨z0, z1, z2, z3, z4, ⟨z5, z6⟩⟩ := x
              obtain ⟨t0, t1, t2, t3, t4, ⟨t5, t6⟩⟩ := y
              simp at h
              simp [h])
            simp only [hd] at heqS
            have hf : Hid (R = false) := by
              unfold Hid
              rw [HR1.out]
              refine decide_eq_false fun h => he ?_
              have h1 : a.ac = b.ac := h.2.1
              have := HX.out
              rw [h1, HY.out] at this
              exact (Option.some.inj this).symm
            clear hd he hpre
            go_upto_region 11 with (fail)
            have rg0 := cell_regrown p3
            have rg1 := cell_regrown q3
            have rg2 := cell_regrown x0
            have rg3 := cell_regrown y0
            have rg4 := cell_regrown x1
            have rg5 := cell_regrown y1
            have rg6 := cell_regrown x2
            have rg7 := cell_regrown y2
            have rg8 := cell_regrown x3
            have rg9 := cell_regrown y3
            have rg10 := cell_regrown x4
            have rg11 := cell_regrown y4
            have rg12 := cell_regrown x5
            have rg13 := cell_regrown y5
            have rg14 := cell_regrown x6
            have rg15 := cell_regrown y6
            refine wp_region_qt [0, 1, 2, 3, 4, 5, 6, 7, 8, 9, 10] [] (by kernel_rfl) (by kernel_rfl) (by repeat (first | with_reducible refine panOk_then ?_ | with_reducible refine panOk_block ?_ | exact panOk_body)) ?_
            simp only [opsAt, List.getElem?_toArray, List.getElem?_cons_succ, List.getElem?_cons_zero, Option.toList_some, List.cons_append, List.nil_append]
            repeat (go_big_quiet_step (fail))
            refine wpQuiet_nil ?_
            intro W2 hw2
            have hbW2 := qt_world hw2
            clear hw2 rg0 rg1 rg2 rg3 rg4 rg5 rg6 rg7 rg8 rg9 rg10 rg11 rg12 rg13 rg14 rg15
            refine wpList_done ?_
            clear p3 q3 x0 y0 x1 y1 x2 y2 x3 y3 x4 y4 x5 y5 x6 y6
            go_wp2
            go_ret
            exact ⟨ret_bool hf.out.symm, below_then HBX.out (below_then hB.out hbW2)⟩
        · have tn : decide ((i : Int) < (a.ac.length : Int)) = false := decide_eq_false (by omega)
          have hE1 : Hid (a.ac = b.ac) := by
            refine List.ext_getElem? fun j => ?_
            by_cases hj : j < i
            · exact hpre.out j hj
            · rw [List.getElem?_eq_none (by omega), List.getElem?_eq_none (by have := HL1.out; omega)]
          have HX2 := hB
          clear hpre
          have HCL := rclauses_any ma.k mb.k ma.kc mb.kc ma.ks mb.ks wr ((HA.out.k.below (below_then HBX.out hB.out)).more (below_then HBX.out hB.out).size) ((HB_.out.k.below (below_then HBX.out hB.out)).more (below_then HBX.out hB.out).size) (fun x hx => (HA.out.t x hx).then_ (below_then HBX.out hB.out)) (fun x hx => (HB_.out.t x hx).then_ (below_then HBX.out hB.out)) (by rw [hka]; exact HA.out.nk)
          rw [hka, hkb, HA.out.e, HB_.out.e] at HCL
          have hfin : Hid (decide (a.cl = b.cl) = R) := by
            unfold Hid
            rw [HR1.out, hE0.out, hE1.out]
            simp
          rw [hfin.out] at HCL
          have HCL := Lib.hid HCL
          have p4 : wr.cell? ⟨ba, 4, none⟩ = some (.slice ma.k a.cl.length ma.kc) := (GA.out.then_ hB.out).cell 4
          have q4 : wr.cell? ⟨bb, 4, none⟩ = some (.slice mb.k b.cl.length mb.kc) := (GB.out.then_ hB.out).cell 4
          go_wp2_with (go_at_call 30; (with_reducible refine HCL.out.mono ?_); rintro e w9 ⟨rfl, hb9⟩)
          go_ret
          exact ⟨rfl, below_then (below_then HBX.out hB.out) hb9⟩
end Go.Proofs.YtplommmegkdhdaaGreatDoor
